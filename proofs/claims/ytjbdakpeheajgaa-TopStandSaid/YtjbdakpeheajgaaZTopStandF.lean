/- Of the proof of TopStand: W5, Own, V1, V2, V3. -/
import Derived.Test.YtjbdakpeheajgaaZTopStandE
import Derived.Test.YtjbdakpeheajgaaZTopStandD
namespace Go.Fs
open Go.Proofs
open C1
theorem ask_some {r : RowD} {f : Bool} (h : askErr r f = 0) : truths r ≠ [] := by
  unfold askErr at h; split at h; omega; split at h; omega; split at h; omega; assumption
theorem ask_fine {r : RowD} {f : Bool} (h : askErr r f = 0) : f = true := by
  unfold askErr at h; split at h; omega; split at h; omega; rename_i hf; simpa using hf
theorem ask_part {r : RowD} {i j : Int} (hok : RowOk r) (h : askErr r (partOk r i j) = 0) : 0 ≤ i ∧ i ≤ j ∧ j < 9 := by
  have := ask_fine h
  simp only [partOk, Bool.and_eq_true, inB_iff] at this
  have := hok.len9; omega
theorem truths_all {r : RowD} (hok : RowOk r) : ∀ t ∈ truths r, t.length ≤ 9 ∧ ∀ x ∈ t, 0 ≤ x ∧ x ≤ 1 := fun t ht => ⟨by have := (truths_ok ht).1; have := hok.len9; omega, (truths_ok ht).2⟩
theorem foldl_min_snoc {ts : List (List Int)} {k : Nat} {t : List Int} {f : List Int → Int} {a : Int} (h : ts[k]? = some t) : ((ts.take (k + 1)).map f).foldl min a = min (((ts.take k).map f).foldl min a) (f t) := by
  rw [List.take_add_one, h, Option.toList_some, List.map_append, List.foldl_append]; rfl
theorem foldl_max_snoc {ts : List (List Int)} {k : Nat} {t : List Int} {f : List Int → Int} {a : Int} (h : ts[k]? = some t) : ((ts.take (k + 1)).map f).foldl max a = max (((ts.take k).map f).foldl max a) (f t) := by
  rw [List.take_add_one, h, Option.toList_some, List.map_append, List.foldl_append]; rfl
open C1
theorem bounds_ok (sv : Value) (ts : List (List Int)) (i j : Int) (D : Data) (hS : Sl D RT 9 sv ts) (hne : ts ≠ []) (hall : ∀ t ∈ ts, t.length ≤ 9 ∧ ∀ x ∈ t, 0 ≤ x ∧ x ≤ 1) (hi0 : 0 ≤ i) (hij : i ≤ j) (hj9 : j < 9) :
    Fn Try.prog 35 #[sv, .int .i64 i, .int .i64 j] D (fun _ v => v = .agg #[.int .i64 (loOf ts i.toNat j.toNat), .int .i64 (hiOf ts i.toNat j.toNat)]) := by
  have hl := hS.len
  obtain ⟨t0, ht0⟩ : ∃ t, ts[0]? = some t := ⟨ts[0]'(List.length_pos_iff.2 hne), List.getElem?_eq_getElem _⟩
  have ht0m := List.mem_of_getElem? ht0
  have hb0 := partOf_bound (hall t0 ht0m).2 i.toNat j.toNat (by omega)
  have hp90 := pad9_length (hall t0 ht0m).1
  refine enter 36 Try.func35 rfl rfl rfl rfl fun h0 => ?_
  refine C.seq ?_
  refine C.region [(false,0)] rfl ?_
  refine L.alloc rfl Tf.z54 rfl rfl trivial (fun q1 => ?_)
  refine L.nil ?_
  refine C.next ?_
  refine C.seq ?_
  refine C.region [(false,0),(false,1),(false,2),(false,3),(false,4),(false,5),(false,6),(false,7)] rfl ?_
  refine L.move rfl rfl rfl trivial ?_
  refine L.indexS rfl Try.underlying99 Tf.s125 rfl hS rfl (by omega) ht0 rfl trivial (fun b1 o1 cs1 hr1 hcl1 hA1 => ?_)
  obtain rfl : cs1 = ints (pad9 _) := hr1
  refine L.loadDW rfl Tf.a125 rfl hA1 (by first | simp | assumption) (by first | exact Tf.s125 | (simp only [*]; exact Tf.s125)) List.not_mem_nil rfl trivial ?_
  refine L.callV rfl rfl rfl (fun D1 hD1 => sumsP_ok t0 _ (hall _ ht0m).1 (hall _ ht0m).2) rfl trivial ?_
  refine L.move rfl rfl rfl trivial ?_
  refine L.move rfl rfl rfl trivial ?_
  refine L.callV rfl rfl rfl (fun D2 hD2 => in_ok t0 i j _ hi0 hij hj9 (hall _ ht0m).2) rfl trivial ?_
  refine L.assign rfl rfl rfl trivial ?_
  refine L.nil ?_
  refine C.next ?_
  refine C.seq ?_
  refine C.region [(false,0),(false,1),(false,2),(false,3),(false,4)] rfl ?_
  refine L.move rfl rfl rfl trivial ?_
  refine L.move rfl rfl rfl trivial ?_
  refine L.build (cs := [.int .i64 (partOf t0 i.toNat j.toNat), .int .i64 (partOf t0 i.toNat j.toNat)]) rfl Tf.p54 Tf.z54 rfl rfl rfl trivial ?_
  refine L.alloc rfl Tf.z54 rfl rfl trivial (fun q2 => ?_)
  refine L.storeW rfl rfl rfl rfl Tf.s54 (by first | rfl | (simp only [ints_length, *]; done) | (simp only [ints_length, *]; rfl) | (simp only [ints_length, *]; omega)) (by first | rfl | (simp only [ints_length, *]; done) | (simp only [ints_length, *]; rfl) | (simp only [ints_length, *]; omega)) (Has.head) (by first | exact ints_cell1 _ | simp [cell1]) trivial ?_
  refine L.nil ?_
  refine C.next ?_
  refine C.seq ?_
  refine C.seq ?_
  refine C.region [(false,0),(false,1),(false,2)] rfl ?_
  refine L.move rfl rfl rfl trivial ?_
  refine L.len rfl Try.underlying99 rfl (by assumption) rfl rfl trivial ?_
  refine L.move rfl rfl rfl trivial ?_
  refine L.nil ?_
  refine C.next ?_
  refine C.block ?_
  refine C.loopR (γ := Nat) (fun k => ts.length - k) (fun k => k ≤ ts.length) (fun k => [(23, .int .i64 (k : Int))]) [(22, _), (21, _), (8, _), (6, _), (1, _), (2, _)] (fun k => [(q2, .cells [.int .i64 (((ts.take k).map fun t => partOf t i.toNat j.toNat).foldl min (partOf t0 i.toNat j.toNat)), .int .i64 (((ts.take k).map fun t => partOf t i.toNat j.toNat).foldl max (partOf t0 i.toNat j.toNat))].toArray 54 (0, 0)), (q1, .cells [.int .i64 0, .int .i64 0].toArray 54 (0, 0))]) (fun k => [D]) 0 (by omega) ⟨(by first | rfl | (show some (Value.int _ _) = some (Value.int _ _); congr 2; omega)), trivial⟩ ⟨rfl, rfl, rfl, rfl, rfl, rfl, trivial⟩ (List.Sublist.refl _) (ds_same) ?_
  rintro k h1
  refine C.seq ?_
  refine C.region [(false,0)] rfl ?_
  refine L.lss rfl rfl rfl rfl trivial ?_
  refine L.nil ?_
  refine C.next ?_
  refine C.seq ?_
  refine C.condD rfl (fun hc1 => ?_) (fun hc1 => ?_)
  · have hkk : k < ts.length := by omega
    obtain ⟨t, ht⟩ : ∃ t, ts[k]? = some t := ⟨_, List.getElem?_eq_getElem hkk⟩
    have htm := List.mem_of_getElem? ht
    obtain ⟨htl, htb⟩ := hall t htm
    have hp9 := pad9_length htl
    refine C.skip ?_
    refine C.next ?_
    refine C.seq ?_
    refine C.block ?_
    refine C.seq ?_
    refine C.region [(false,0),(false,1),(false,2),(false,3)] rfl ?_
    refine L.indexS rfl Try.underlying99 Tf.s125 rfl hS rfl (by omega) ht rfl trivial (fun b2 o2 cs2 hr2 hcl2 hA2 => ?_)
    obtain rfl : cs2 = ints (pad9 _) := hr2
    refine L.loadDW rfl Tf.a125 rfl hA2 (by first | simp | assumption) (by first | exact Tf.s125 | (simp only [*]; exact Tf.s125)) List.not_mem_nil rfl trivial ?_
    refine L.alloc rfl Tf.z125 rfl rfl trivial (fun q3 => ?_)
    refine L.storeW rfl rfl rfl rfl Tf.s125 (by first | rfl | (simp only [*]; done) | (simp only [ints_length, *]; rfl) | (simp only [ints_length, *]; omega)) (by first | rfl | (simp only [ints_length, *]; done) | (simp only [ints_length, *]; rfl) | (simp only [ints_length, *]; omega)) (Has.head) (by first | exact ints_cell1 _ | simp [cell1]) trivial ?_
    refine L.nil ?_
    refine C.next ?_
    refine C.draw [] 3 [0,1,3,4,2,5,6,7] [false,true,true,true,true,true,false,false] [(false,0),(true,1),(true,3),(true,4),(true,2),(true,5),(false,6),(false,7)] Tf.follows (fun _ _ _ h => np_body (P := Try.prog) (fn := Try.f35) _ _ _ h) (by kernel_rfl) rfl ?_
    refine L.loadBW rfl Tf.a54 rfl (List.Mem.tail _ (List.Mem.head _)) Tf.s54 List.not_mem_nil rfl trivial ?_
    refine L.loadBW rfl Tf.a125 rfl (List.Mem.head _) (by first | exact Tf.s125 | (simp only [*]; exact Tf.s125)) List.not_mem_nil rfl trivial ?_
    refine L.move rfl rfl rfl trivial ?_
    refine L.move rfl rfl rfl trivial ?_
    refine L.callV rfl rfl rfl (fun D3 hD3 => sumsP_ok t _ (hall _ htm).1 (hall _ htm).2) rfl trivial ?_
    refine L.callV rfl rfl rfl (fun D4 hD4 => in_ok t i j _ hi0 hij hj9 (hall _ htm).2) rfl trivial ?_
    refine L.callV rfl rfl rfl (fun D5 hD5 => wider_ok _ _ _ _) rfl trivial ?_
    refine L.storeW rfl rfl rfl rfl Tf.s54 (by first | rfl | (simp only [ints_length, *]; done) | (simp only [ints_length, *]; rfl) | (simp only [ints_length, *]; omega)) (by first | rfl | (simp only [ints_length, *]; done) | (simp only [ints_length, *]; rfl) | (simp only [ints_length, *]; omega)) (.tail (Has.head)) (by first | exact ints_cell1 _ | simp [cell1]) trivial ?_
    refine L.nil ?_
    refine C.blockEnd ?_
    refine C.next ?_
    refine C.region [(false,0),(false,1)] rfl ?_
    refine L.add rfl rfl rfl (by simp only [inK]; omega) rfl trivial ?_
    refine L.move rfl rfl rfl trivial ?_
    refine L.nil ?_
    rw [← foldl_min_snoc ht, ← foldl_max_snoc ht]
    exact C.againR 14 (k + 1) (by omega) (by omega) ⟨(by first | rfl | (show some (Value.int _ _) = some (Value.int _ _); congr 2; omega)), trivial⟩ rfl rfl (List.Sublist.cons _ (List.Sublist.refl _)) (ds_same)
  · obtain rfl : k = ts.length := by omega
    rw [List.take_length, foldl_min_self _ _ (by rw [List.getElem?_map, ht0]; rfl), foldl_max_self _ _ (by rw [List.getElem?_map, ht0]; rfl)]
    refine C.exit ?_
    refine C.thenExit ?_
    refine C.thenExit ?_
    refine C.blockExit ?_
    refine C.next ?_
    refine C.seq ?_
    refine C.region [(false,0),(false,1)] rfl ?_
    refine L.loadBW rfl Tf.a54 rfl (List.Mem.head _) Tf.s54 List.not_mem_nil rfl trivial ?_
    refine L.storeW rfl rfl rfl rfl Tf.s54 (by first | rfl | (simp only [ints_length, *]; done) | (simp only [ints_length, *]; rfl) | (simp only [ints_length, *]; omega)) (by first | rfl | (simp only [ints_length, *]; done) | (simp only [ints_length, *]; rfl) | (simp only [ints_length, *]; omega)) (.tail (Has.head)) (by first | exact ints_cell1 _ | simp [cell1]) trivial ?_
    refine L.nil ?_
    refine C.next ?_
    refine C.ret ?_
    exact leave (vs := [_]) rfl rfl rfl ⟨⟨_, _, _, rfl, (List.Mem.tail _ (List.Mem.head _)), Or.inr ⟨Tf.a54, (by first | exact Tf.s54 | (simp only [List.size_toArray, ints_length, *]; exact Tf.s54)), rfl⟩⟩, trivial⟩ (fun D hD => rfl)
theorem Chairs_ok (rv : Value) (r : RowD) (i j : Int) (D : Data) (hr : RowIs D rv r) : Fn Try.prog 16 #[rv, .int .i64 i, .int .i64 j] D (fun _ v => v = .tuple #[.agg (if askErr r (partOk r i j) = 0 then #[.int .i64 (loOf (truths r) i.toNat j.toNat), .int .i64 (hiOf (truths r) i.toNat j.toNat)] else #[.int .i64 0, .int .i64 0]), .int .i64 (askErr r (partOk r i j))]) := by
  have hr0 := hr
  obtain ⟨pv, cv, rfl, hp, hc⟩ := hr
  refine enter 30 Try.func16 rfl rfl rfl rfl fun h0 => ?_
  refine C.seq ?_
  refine C.region [(false,0),(false,1),(false,2)] rfl ?_
  refine L.boxD rfl rfl rfl rfl trivial (fun q1 E1 hE1 hB1 => ?_)
  refine L.alloc rfl Tf.z54 rfl rfl trivial (fun q2 => ?_)
  refine L.assign rfl rfl rfl trivial ?_
  refine L.nil ?_
  refine C.next ?_
  refine C.seq ?_
  refine C.draw [] 4 [0,1,2,3,4,5,6,7,8,9,10] [false,true,true,true,true,false,false,false,true,true,false] [(false,0),(true,1),(true,2),(true,3),(true,4),(false,5),(false,6),(false,7),(true,8),(true,9),(false,10)] Tf.follows (fun _ _ _ h => np_body (P := Try.prog) (fn := Try.f16) _ _ _ h) (by kernel_rfl) rfl ?_
  refine L.loadDW rfl Tf.a59 rfl hB1 (by first | simp | assumption) Tf.s59 List.not_mem_nil rfl trivial ?_
  refine L.loadDW rfl Tf.a59 rfl hB1 (by first | simp | assumption) Tf.s59 List.not_mem_nil rfl trivial ?_
  refine L.move rfl rfl rfl trivial ?_
  refine L.move rfl rfl rfl trivial ?_
  refine L.callV rfl rfl rfl (fun D1 hD1 => part_ok _ r i j _ (hr0.up (hD1 _ (by simp)))) rfl trivial ?_
  refine L.call rfl rfl rfl (fun D2 hD2 => asked_ok _ r _ _ (hr0.up (hD2 _ (by simp)))) rfl trivial (fun v2 D2 hD2 hp2 => ?_)
  obtain ⟨wv, rfl, hwk⟩ := hp2
  refine L.move rfl rfl rfl trivial ?_
  refine L.extract rfl rfl rfl rfl trivial ?_
  refine L.extract rfl rfl rfl rfl trivial ?_
  refine L.assign rfl rfl rfl trivial ?_
  refine L.assign rfl rfl rfl trivial ?_
  refine L.nil ?_
  refine C.next ?_
  refine C.seq ?_
  refine C.seq ?_
  refine C.region [(false,0),(false,1)] rfl ?_
  refine L.move rfl rfl rfl trivial ?_
  refine L.neq rfl rfl rfl rfl trivial ?_
  refine L.nil ?_
  refine C.next ?_
  refine C.condD rfl (fun hc1 => ?_) (fun hc1 => ?_)
  · refine C.seq ?_
    refine C.region [(false,0),(false,1),(false,2),(false,3)] rfl ?_
    refine L.build (cs := [.int .i64 0, .int .i64 0]) rfl Tf.p54 Tf.z54 rfl rfl rfl trivial ?_
    refine L.move rfl rfl rfl trivial ?_
    refine L.storeW rfl rfl rfl rfl Tf.s54 (by first | rfl | (simp only [ints_length, *]; done) | (simp only [ints_length, *]; rfl) | (simp only [ints_length, *]; omega)) (by first | rfl | (simp only [ints_length, *]; done) | (simp only [ints_length, *]; rfl) | (simp only [ints_length, *]; omega)) (Has.head) (by first | exact ints_cell1 _ | simp [cell1]) trivial ?_
    refine L.assign rfl rfl rfl trivial ?_
    refine L.nil ?_
    refine C.next ?_
    refine C.ret ?_
    refine C.thenRet ?_
    exact leave (vs := [_, _]) rfl rfl rfl ⟨⟨_, _, _, rfl, (List.Mem.head _), Or.inr ⟨Tf.a54, (by first | exact Tf.s54 | (simp only [List.size_toArray, ints_length, *]; exact Tf.s54)), rfl⟩⟩, rfl, trivial⟩ (fun D hD => by show Value.tuple _ = _; rw [if_neg hc1])
  · have he0 : askErr r (partOk r i j) = 0 := by omega
    obtain ⟨hok, wb, pv2, cv2, tv, rfl, hA, hp2, hc2', ht⟩ := hwk he0
    have htn := ask_some he0
    have hall := truths_all hok
    have hpt := ask_part hok he0
    refine C.skip ?_
    refine C.next ?_
    refine C.seq ?_
    refine C.region [(false,0),(false,1),(false,2),(false,3),(false,4),(false,5),(false,6),(false,7),(false,8)] rfl ?_
    refine L.move rfl rfl rfl trivial ?_
    refine L.nilCheck rfl rfl rfl trivial ?_
    refine L.fieldAddr rfl Tf.f101_1 rfl rfl trivial ?_
    refine L.loadD1 rfl (k := 4) Tf.a99 rfl hA (by first | simp | assumption) rfl List.not_mem_nil rfl trivial ?_
    refine L.move rfl rfl rfl trivial ?_
    refine L.move rfl rfl rfl trivial ?_
    refine L.callV rfl rfl rfl (fun D3 hD3 => bounds_ok _ _ i j _ (ht.up RT.up (hD3 _ (by simp))) htn hall hpt.1 hpt.2.1 hpt.2.2) rfl trivial ?_
    refine L.storeW rfl rfl rfl rfl Tf.s54 (by first | rfl | (simp only [ints_length, *]; done) | (simp only [ints_length, *]; rfl) | (simp only [ints_length, *]; omega)) (by first | rfl | (simp only [ints_length, *]; done) | (simp only [ints_length, *]; rfl) | (simp only [ints_length, *]; omega)) (Has.head) (by first | exact ints_cell1 _ | simp [cell1]) trivial ?_
    refine L.assign rfl rfl rfl trivial ?_
    refine L.nil ?_
    refine C.next ?_
    refine C.ret ?_
    exact leave (vs := [_, _]) rfl rfl rfl ⟨⟨_, _, _, rfl, (List.Mem.head _), Or.inr ⟨Tf.a54, (by first | exact Tf.s54 | (simp only [List.size_toArray, ints_length, *]; exact Tf.s54)), rfl⟩⟩, rfl, trivial⟩ (fun D hD => by show Value.tuple _ = _; rw [if_pos he0, he0])
end Go.Fs
namespace Go.Fs
variable {P : Program} {X : Cx} {γb : Type} [Membership Nat γb] {bad : γb} {all : Array Oper} {K : Act → World → Prop} {Q : Exit → Act → World → Prop}
variable {σ : Slots} {μ : Boxes} {Ds : List Data} {os : List (Bool × Nat)} {fl : Bool} {ix : Nat}
variable {d : Nat} {x y z : Operand} {u v : Value} {ty : TypeId} {pos : String} {aft : Array Edge} {g : Option (Nat × Bool)}
/-- A pointer into a slice that lies at a plain address. -/
theorem L.indexP {t e : TypeId} {sz b o n cap : Nat} {k : IntKind} {i : Int} (ho : all[ix]? = some ⟨some d, .indexAddr t x y, ty, pos, aft, g⟩) (ht : P.underlying t = some (.slice e)) (hs : TS P e sz) (hx : ev σ x = some (.slice (some ⟨b, o, none⟩) n cap))
    (hy : ev σ y = some (.int k i)) (h0 : 0 ≤ i) (hi : i < n) (hN : Nat.blt d X.N = true) (hg : Gok all σ g)
    (kk : WL P X bad all K Q os ((d, .pointer (some ⟨b, o + i.toNat * sz, none⟩)) :: σ) μ Ds) : WL P X bad all K Q ((fl, ix) :: os) σ μ Ds :=
  L.pure ho rfl rfl hN hg (fun ρ hρ w' => by
    simp only [execOp, hρ x _ hx, hρ y _ hy]
    unfold Instr.indexAt asIntOf
    simp only [Sem.run_bind, TU.of ht w', Result.andThen_ok, hs w', Sem.run_pure, pure_bind, h0, hi, and_self, if_true, add_plain]) kk
theorem Acc.some {e : TypeId} {sz n : Nat} {cells : List Value} {ν : Boxes} (h : Acc e sz v n cells ν) (hn : 0 < n) : ∃ b cap junk, v = .slice (some ⟨b, 0, none⟩) n cap ∧ n ≤ cap ∧ ν = [(b, .cells (cells ++ junk).toArray e (0, 0))] ∧ cells.length = n * sz ∧ (cells ++ junk).length = cap * sz := by
  rcases h with ⟨_, _, h0, _⟩ | h
  · omega
  · exact h
end Go.Fs
namespace Go.Fs
open Go.Proofs
open C1
open C1
theorem list_ok (sv : Value) (xs : List Int) (D : Data) (hS : Sl D RI 1 sv xs) (hl : xs.length ≤ 10000000) : Fn Try.prog 36 #[sv] D (fun D' v => Sl D' RI 1 v xs) := by
  refine enter 5 Try.func36 rfl rfl rfl rfl fun h0 => ?_
  refine C.seq ?_
  refine C.region [(false,0)] rfl ?_
  refine L.assign rfl rfl rfl trivial ?_
  refine L.nil ?_
  refine C.next ?_
  refine C.seq ?_
  refine C.region [(false,0),(false,1),(false,2)] rfl ?_
  refine L.move rfl rfl rfl trivial ?_
  refine L.append (A := []) (ν := []) (B := []) rfl Try.underlying33 rfl rfl Tf.s3 Tf.z3 rfl Tf.i3 rfl rfl rfl Acc.nil (Src.ints hS) (by simp) (by simp) rfl (ints_cell1 _) (by omega) (Or.inl rfl) rfl trivial (fun v1 ν1 ha1 => ?_)
  refine L.assign rfl rfl rfl trivial ?_
  refine L.nil ?_
  refine C.next ?_
  refine C.ret ?_
  have ha2 : Acc 3 1 v1 xs.length (ints xs) ν1 := by simpa using ha1
  refine Q.freeze (A := []) (B := []) ha2 rfl (fun D2 hD2 hF => ?_)
  exact leave (vs := [_]) rfl rfl rfl ⟨rfl, trivial⟩ (fun D' hD => (hF.ints rfl (by omega)).up RI.up (hD _ (by simp)))
def cntC (l : List Cnt) : List Value := l.flatMap fun c => [.bool c.back, .int .i64 c.many, .int .i64 c.num]
theorem cntC_snoc (l : List Cnt) (c : Cnt) : cntC (l ++ [c]) = cntC l ++ [.bool c.back, .int .i64 c.many, .int .i64 c.num] := by simp [cntC]
theorem cntC_len (l : List Cnt) : (cntC l).length = l.length * 3 := by
  induction l with
  | nil => rfl
  | cons c l ih => unfold cntC at ih ⊢; rw [List.flatMap_cons, List.length_append, ih]; simp only [List.length_cons, List.length_nil]; omega
theorem cnt_len (l : List Cnt) (n : Nat) (h : l.length = n) : (cntC l).length = n * 3 := by rw [cntC_len, h]
theorem cntC_get {l : List Cnt} {i : Nat} {c : Cnt} (hi : l[i]? = some c) : ((cntC l).drop (i * 3)).take 3 = [.bool c.back, .int .i64 c.many, .int .i64 c.num] := by
  induction l generalizing i with
  | nil => simp at hi
  | cons d l ih =>
    unfold cntC at ih ⊢
    rw [List.flatMap_cons]
    cases i with
    | zero => obtain rfl : d = c := by simpa using hi
              rfl
    | succ i =>
      rw [List.drop_append, List.drop_eq_nil_of_le (by simp; omega), List.nil_append]
      have : (i + 1) * 3 - [Value.bool d.back, Value.int .i64 d.many, Value.int .i64 d.num].length = i * 3 := by simp; omega
      rw [this]; exact ih (by simpa using hi)
theorem Froz.cnts {D : Data} {v : Value} {n : Nat} {l : List Cnt} (hF : Froz D v n (cntC l)) (hn : l.length = n) (hb : n ≤ 9223372036854775807) : Sl D RC 3 v l :=
  hF.sl hn hb fun _i _t hi => ⟨_, rfl, rfl, cntC_get hi⟩
theorem cell1_row {a b : Value} {m n : Int} (ha : ∀ u ∈ [a], cell1 u = true) (hb : ∀ u ∈ [b], cell1 u = true) : ∀ u ∈ [a, b, .int .i64 m, .int .i64 n], cell1 u = true := by
  intro u hu
  simp only [List.mem_cons, List.not_mem_nil, or_false] at hu
  rcases hu with rfl | rfl | rfl | rfl
  · exact ha _ List.mem_cons_self
  · exact hb _ List.mem_cons_self
  · rfl
  · rfl
open C1
theorem Row_ok (rv : Value) (r : RowD) (D : Data) (hr : RowIs D rv r) (h1 : r.places.length ≤ 100) (h2 : r.counts.length ≤ 100) : Fn Try.prog 17 #[rv] D (fun D' v => RowIs D' v r) := by
  obtain ⟨pv, cv, rfl, hp, hc⟩ := hr
  have hlp := h1
  have hlc := h2
  refine enter 39 Try.func17 rfl rfl rfl rfl fun h0 => ?_
  refine C.seq ?_
  refine C.region [(false,0),(false,1)] rfl ?_
  refine L.boxD rfl rfl rfl rfl trivial (fun q1 E1 hE1 hB1 => ?_)
  refine L.alloc rfl Tf.z59 rfl rfl trivial (fun q2 => ?_)
  refine L.nil ?_
  refine C.next ?_
  refine C.seq ?_
  refine C.drawS [] 3 [false,false,true,true,true,true,true,false,true,false] [.fork [0,1,3,4,5,6] 2 (.fin [7,8]) 8 (.fin [2,7]), .fin [9]] Tf.follows (fun _ _ _ h => np_body (P := Try.prog) (fn := Try.f17) _ _ _ h) (by kernel_rfl) ?_
  refine S.cons ?_
  refine L.planFork [(false,0),(false,1),(true,3),(true,4),(true,5),(true,6)] rfl ?_
  refine L.fieldAddr rfl Tf.f51_0 rfl rfl trivial ?_
  refine L.loadD1 rfl (k := 0) Tf.a33 rfl hB1 (by first | simp | assumption) rfl List.not_mem_nil rfl trivial ?_
  refine L.fieldAddr rfl Tf.f51_2 rfl rfl trivial ?_
  refine L.loadD1 rfl (k := 2) Tf.a3 rfl hB1 (by first | simp | assumption) rfl List.not_mem_nil rfl trivial ?_
  refine L.fieldAddr rfl Tf.f51_3 rfl rfl trivial ?_
  refine L.loadD1 rfl (k := 3) Tf.a3 rfl hB1 (by first | simp | assumption) rfl List.not_mem_nil rfl trivial ?_
  refine L.nil (L.forkP true true rfl rfl ?_ ?_)
  · refine L.call rfl rfl rfl (fun D1 hD1 => list_ok _ r.places _ (hp.up RI.up (hD1 _ (by simp))) (by omega)) rfl trivial (fun v1 D1 hD1 hp1 => ?_)
    obtain ⟨va, vc, rfl, hvr⟩ := id hp1
    refine L.nil ?_
    refine L.planFin [(false,7),(true,8)] rfl ?_
    refine L.build (cs := [.slice va r.places.length vc, .slice none 0 0, .int .i64 r.wrong, .int .i64 r.off]) rfl Tf.p59 Tf.z59 rfl rfl rfl trivial ?_
    refine L.alloc rfl Tf.z59 rfl rfl trivial (fun q3 => ?_)
    refine L.nil ?_
    refine S.fin [(false,9)] rfl ?_
    refine L.storeW rfl rfl rfl rfl Tf.s59 (by first | rfl | (simp only [ints_length, *]; done) | (simp only [ints_length, *]; rfl) | (simp only [ints_length, *]; omega)) (by first | rfl | (simp only [ints_length, *]; done) | (simp only [ints_length, *]; rfl) | (simp only [ints_length, *]; omega)) (Has.head) (cell1_row hp1.cell1 (by simp [cell1])) trivial ?_
    refine L.nil ?_
    refine S.nil ?_
    refine C.next ?_
    refine C.seq ?_
    refine C.seq ?_
    refine C.region [(false,0)] rfl ?_
    refine L.assign rfl rfl rfl trivial ?_
    refine L.nil ?_
    refine C.next ?_
    refine C.block ?_
    refine C.loopR (γ := Nat × Value × Boxes) (fun g => r.counts.length - g.1) (fun g => g.1 ≤ r.counts.length ∧ Acc 66 3 g.2.1 g.1 (cntC (r.counts.take g.1)) g.2.2) (fun g => [(4, .int .i64 (g.1 : Int))]) [(3, _), (2, _), (1, _)] (fun g => (q3, .cells [.slice va r.places.length vc, g.2.1, .int .i64 r.wrong, .int .i64 r.off].toArray 59 (0, 0)) :: (q2, .cells [.slice none 0 0, .slice none 0 0, .int .i64 0, .int .i64 0].toArray 59 (0, 0)) :: (g.2.2 ++ [])) (fun g => [D1, E1, D]) (0, .slice none 0 0, []) ⟨by simp, by simpa [cntC] using Acc.nil⟩ ⟨(by first | rfl | (show some (Value.int _ _) = some (Value.int _ _); congr 2; omega)), trivial⟩ ⟨rfl, rfl, rfl, trivial⟩ (List.Sublist.refl _) (ds_same) ?_
    rintro ⟨k, v, ν⟩ ⟨hk1, ha⟩
    simp only at hk1 ha
    refine C.seq ?_
    refine C.seq ?_
    refine C.region [(false,0),(false,1),(false,2),(false,3),(false,4)] rfl ?_
    refine L.move rfl rfl rfl trivial ?_
    refine L.fieldAddr rfl Tf.f51_1 rfl rfl trivial ?_
    refine L.loadD1 rfl (k := 1) Tf.a49 rfl hB1 (by first | simp | assumption) rfl List.not_mem_nil rfl trivial ?_
    refine L.len rfl Try.underlying49 rfl (by assumption) rfl rfl trivial ?_
    refine L.lss rfl rfl rfl rfl trivial ?_
    refine L.nil ?_
    refine C.next ?_
    refine C.condD rfl (fun hc1 => ?_) (fun hc1 => ?_)
    · have hk : k < r.counts.length := by omega
      obtain ⟨x, hx⟩ : ∃ x, r.counts[k]? = some x := ⟨_, List.getElem?_eq_getElem hk⟩
      refine C.skip ?_
      refine C.next ?_
      refine C.seq ?_
      refine C.block ?_
      refine C.seq ?_
      refine C.region [(false,0),(false,1),(false,2),(false,3),(false,4),(false,5),(false,6)] rfl ?_
      refine L.fieldAddr rfl Tf.f51_1 rfl rfl trivial ?_
      refine L.loadD1 rfl (k := 1) Tf.a49 rfl hB1 (by first | simp | assumption) rfl List.not_mem_nil rfl trivial ?_
      refine L.move rfl rfl rfl trivial ?_
      refine L.indexS rfl Try.underlying49 Tf.s93 rfl hc rfl (by omega) hx rfl trivial (fun b1 o1 cs1 hr1 hcl1 hA1 => ?_)
      obtain rfl : cs1 = [.bool _, .int .i64 _, .int .i64 _] := hr1
      refine L.loadDW rfl Tf.a93 rfl hA1 (by first | simp | assumption) Tf.s93 List.not_mem_nil rfl trivial ?_
      refine L.alloc rfl Tf.z93 rfl rfl trivial (fun q4 => ?_)
      refine L.storeW rfl rfl rfl rfl Tf.s93 (by first | rfl | (simp only [ints_length, *]; done) | (simp only [ints_length, *]; rfl) | (simp only [ints_length, *]; omega)) (by first | rfl | (simp only [ints_length, *]; done) | (simp only [ints_length, *]; rfl) | (simp only [ints_length, *]; omega)) (Has.head) (by first | exact ints_cell1 _ | simp [cell1]) trivial ?_
      refine L.nil ?_
      refine C.next ?_
      refine C.region [(false,0),(false,1),(false,2),(false,3),(false,4),(false,5),(false,6),(false,7),(false,8),(false,9),(false,10),(false,11),(false,12)] rfl ?_
      refine L.fieldAddr rfl Tf.f59_1 rfl rfl trivial ?_
      refine L.loadB1 rfl Tf.a57 rfl (List.Mem.tail _ (List.Mem.head _)) rfl List.not_mem_nil rfl trivial ?_
      refine L.fieldAddr rfl Tf.f93_0 rfl rfl trivial ?_
      refine L.loadB1 rfl Tf.a4 rfl (List.Mem.head _) rfl List.not_mem_nil rfl trivial ?_
      refine L.fieldAddr rfl Tf.f93_1 rfl rfl trivial ?_
      refine L.loadB1 rfl Tf.a3 rfl (List.Mem.head _) rfl List.not_mem_nil rfl trivial ?_
      refine L.fieldAddr rfl Tf.f93_2 rfl rfl trivial ?_
      refine L.loadB1 rfl Tf.a3 rfl (List.Mem.head _) rfl List.not_mem_nil rfl trivial ?_
      refine L.build (cs := [.bool x.back, .int .i64 x.many, .int .i64 x.num]) rfl Tf.p66 Tf.z66 rfl rfl rfl trivial ?_
      refine L.buildSlice rfl Try.underlying57 Tf.s66 Tf.z66 rfl rfl rfl rfl (.cons rfl rfl .nil) rfl trivial (fun b901 D901 hD901 hA901 => ?_)
      refine L.append (A := [(_, _), (_, _), (_, _)]) (B := []) rfl Try.underlying57 rfl rfl Tf.s66 Tf.z66 rfl Tf.i66 rfl rfl rfl ha (Src.lit hA901) (by simp) rfl (cnt_len _ _ (by simp; omega)) (by simp [cell1]) (by omega) (Or.inl rfl) rfl trivial (fun v7 ν7 ha7 => ?_)
      have hn7 : Acc 66 3 v7 (k + 1) (cntC (r.counts.take (k + 1))) ν7 := by rw [List.take_add_one, hx, Option.toList_some, cntC_snoc]; simpa using ha7
      refine L.fieldAddr rfl Tf.f59_1 rfl rfl trivial ?_
      refine L.store rfl rfl rfl ha7.cells1 Tf.s57 (.tail (Has.head)) (by simp) rfl ha7.cell1 trivial ?_
      refine L.nil ?_
      refine C.blockEnd ?_
      refine C.next ?_
      refine C.region [(false,0),(false,1),(false,2)] rfl ?_
      refine L.move rfl rfl rfl trivial ?_
      refine L.add rfl rfl rfl (by simp only [inK]; omega) rfl trivial ?_
      refine L.assign rfl rfl rfl trivial ?_
      refine L.nil ?_
      exact C.againR 27 (k + 1, v7, ν7) ⟨by simp only; omega, hn7⟩ (by simp only; omega) ⟨(by first | rfl | (show some (Value.int _ _) = some (Value.int _ _); congr 2; omega)), trivial⟩ rfl rfl (List.Sublist.cons _ (List.Sublist.refl _)) (fun D h => ⟨D, List.Mem.tail _ (h), Le.refl D⟩)
    · obtain rfl : k = r.counts.length := by omega
      rw [List.take_length] at ha
      refine C.exit ?_
      refine C.thenExit ?_
      refine C.thenExit ?_
      refine C.blockExit ?_
      refine C.next ?_
      refine C.seq ?_
      refine C.region [(false,0),(false,1)] rfl ?_
      refine L.loadBW rfl Tf.a59 rfl (List.Mem.head _) Tf.s59 List.not_mem_nil rfl trivial ?_
      refine L.storeW rfl rfl rfl rfl Tf.s59 (by first | rfl | (simp only [ints_length, *]; done) | (simp only [ints_length, *]; rfl) | (simp only [ints_length, *]; omega)) (by first | rfl | (simp only [ints_length, *]; done) | (simp only [ints_length, *]; rfl) | (simp only [ints_length, *]; omega)) (.tail (Has.head)) (cell1_row hp1.cell1 ha.cell1) trivial ?_
      refine L.nil ?_
      refine C.next ?_
      refine C.ret ?_
      refine Q.freeze (A := [(_, _), (_, _)]) (B := []) ha rfl (fun D2 hD2 hF => ?_)
      exact leave (vs := [_]) rfl rfl rfl ⟨⟨_, _, _, rfl, (List.Mem.tail _ (List.Mem.head _)), Or.inr ⟨Tf.a59, Tf.s59, rfl⟩⟩, trivial⟩ (fun D' hD => ⟨_, v, rfl, hp1.up RI.up (hD _ (by simp)), (hF.cnts rfl (by omega)).up RC.up (hD _ (by simp))⟩)
  · refine L.alloc rfl Tf.z59 rfl rfl trivial (fun q3 => ?_)
    refine L.nil ?_
    refine L.planFin [(true,2),(false,7)] rfl ?_
    refine L.call rfl rfl rfl (fun D1 hD1 => list_ok _ r.places _ (hp.up RI.up (hD1 _ (by simp))) (by omega)) rfl trivial (fun v1 D1 hD1 hp1 => ?_)
    obtain ⟨va, vc, rfl, hvr⟩ := id hp1
    refine L.build (cs := [.slice va r.places.length vc, .slice none 0 0, .int .i64 r.wrong, .int .i64 r.off]) rfl Tf.p59 Tf.z59 rfl rfl rfl trivial ?_
    refine L.nil ?_
    refine S.fin [(false,9)] rfl ?_
    refine L.storeW rfl rfl rfl rfl Tf.s59 (by first | rfl | (simp only [ints_length, *]; done) | (simp only [ints_length, *]; rfl) | (simp only [ints_length, *]; omega)) (by first | rfl | (simp only [ints_length, *]; done) | (simp only [ints_length, *]; rfl) | (simp only [ints_length, *]; omega)) (Has.head) (cell1_row hp1.cell1 (by simp [cell1])) trivial ?_
    refine L.nil ?_
    refine S.nil ?_
    refine C.next ?_
    refine C.seq ?_
    refine C.seq ?_
    refine C.region [(false,0)] rfl ?_
    refine L.assign rfl rfl rfl trivial ?_
    refine L.nil ?_
    refine C.next ?_
    refine C.block ?_
    refine C.loopR (γ := Nat × Value × Boxes) (fun g => r.counts.length - g.1) (fun g => g.1 ≤ r.counts.length ∧ Acc 66 3 g.2.1 g.1 (cntC (r.counts.take g.1)) g.2.2) (fun g => [(4, .int .i64 (g.1 : Int))]) [(3, _), (2, _), (1, _)] (fun g => (q3, .cells [.slice va r.places.length vc, g.2.1, .int .i64 r.wrong, .int .i64 r.off].toArray 59 (0, 0)) :: (q2, .cells [.slice none 0 0, .slice none 0 0, .int .i64 0, .int .i64 0].toArray 59 (0, 0)) :: (g.2.2 ++ [])) (fun g => [D1, E1, D]) (0, .slice none 0 0, []) ⟨by simp, by simpa [cntC] using Acc.nil⟩ ⟨(by first | rfl | (show some (Value.int _ _) = some (Value.int _ _); congr 2; omega)), trivial⟩ ⟨rfl, rfl, rfl, trivial⟩ (List.Sublist.refl _) (ds_same) ?_
    rintro ⟨k, v, ν⟩ ⟨hk1, ha⟩
    simp only at hk1 ha
    refine C.seq ?_
    refine C.seq ?_
    refine C.region [(false,0),(false,1),(false,2),(false,3),(false,4)] rfl ?_
    refine L.move rfl rfl rfl trivial ?_
    refine L.fieldAddr rfl Tf.f51_1 rfl rfl trivial ?_
    refine L.loadD1 rfl (k := 1) Tf.a49 rfl hB1 (by first | simp | assumption) rfl List.not_mem_nil rfl trivial ?_
    refine L.len rfl Try.underlying49 rfl (by assumption) rfl rfl trivial ?_
    refine L.lss rfl rfl rfl rfl trivial ?_
    refine L.nil ?_
    refine C.next ?_
    refine C.condD rfl (fun hc1 => ?_) (fun hc1 => ?_)
    · have hk : k < r.counts.length := by omega
      obtain ⟨x, hx⟩ : ∃ x, r.counts[k]? = some x := ⟨_, List.getElem?_eq_getElem hk⟩
      refine C.skip ?_
      refine C.next ?_
      refine C.seq ?_
      refine C.block ?_
      refine C.seq ?_
      refine C.region [(false,0),(false,1),(false,2),(false,3),(false,4),(false,5),(false,6)] rfl ?_
      refine L.fieldAddr rfl Tf.f51_1 rfl rfl trivial ?_
      refine L.loadD1 rfl (k := 1) Tf.a49 rfl hB1 (by first | simp | assumption) rfl List.not_mem_nil rfl trivial ?_
      refine L.move rfl rfl rfl trivial ?_
      refine L.indexS rfl Try.underlying49 Tf.s93 rfl hc rfl (by omega) hx rfl trivial (fun b1 o1 cs1 hr1 hcl1 hA1 => ?_)
      obtain rfl : cs1 = [.bool _, .int .i64 _, .int .i64 _] := hr1
      refine L.loadDW rfl Tf.a93 rfl hA1 (by first | simp | assumption) Tf.s93 List.not_mem_nil rfl trivial ?_
      refine L.alloc rfl Tf.z93 rfl rfl trivial (fun q4 => ?_)
      refine L.storeW rfl rfl rfl rfl Tf.s93 (by first | rfl | (simp only [ints_length, *]; done) | (simp only [ints_length, *]; rfl) | (simp only [ints_length, *]; omega)) (by first | rfl | (simp only [ints_length, *]; done) | (simp only [ints_length, *]; rfl) | (simp only [ints_length, *]; omega)) (Has.head) (by first | exact ints_cell1 _ | simp [cell1]) trivial ?_
      refine L.nil ?_
      refine C.next ?_
      refine C.region [(false,0),(false,1),(false,2),(false,3),(false,4),(false,5),(false,6),(false,7),(false,8),(false,9),(false,10),(false,11),(false,12)] rfl ?_
      refine L.fieldAddr rfl Tf.f59_1 rfl rfl trivial ?_
      refine L.loadB1 rfl Tf.a57 rfl (List.Mem.tail _ (List.Mem.head _)) rfl List.not_mem_nil rfl trivial ?_
      refine L.fieldAddr rfl Tf.f93_0 rfl rfl trivial ?_
      refine L.loadB1 rfl Tf.a4 rfl (List.Mem.head _) rfl List.not_mem_nil rfl trivial ?_
      refine L.fieldAddr rfl Tf.f93_1 rfl rfl trivial ?_
      refine L.loadB1 rfl Tf.a3 rfl (List.Mem.head _) rfl List.not_mem_nil rfl trivial ?_
      refine L.fieldAddr rfl Tf.f93_2 rfl rfl trivial ?_
      refine L.loadB1 rfl Tf.a3 rfl (List.Mem.head _) rfl List.not_mem_nil rfl trivial ?_
      refine L.build (cs := [.bool x.back, .int .i64 x.many, .int .i64 x.num]) rfl Tf.p66 Tf.z66 rfl rfl rfl trivial ?_
      refine L.buildSlice rfl Try.underlying57 Tf.s66 Tf.z66 rfl rfl rfl rfl (.cons rfl rfl .nil) rfl trivial (fun b901 D901 hD901 hA901 => ?_)
      refine L.append (A := [(_, _), (_, _), (_, _)]) (B := []) rfl Try.underlying57 rfl rfl Tf.s66 Tf.z66 rfl Tf.i66 rfl rfl rfl ha (Src.lit hA901) (by simp) rfl (cnt_len _ _ (by simp; omega)) (by simp [cell1]) (by omega) (Or.inl rfl) rfl trivial (fun v7 ν7 ha7 => ?_)
      have hn7 : Acc 66 3 v7 (k + 1) (cntC (r.counts.take (k + 1))) ν7 := by rw [List.take_add_one, hx, Option.toList_some, cntC_snoc]; simpa using ha7
      refine L.fieldAddr rfl Tf.f59_1 rfl rfl trivial ?_
      refine L.store rfl rfl rfl ha7.cells1 Tf.s57 (.tail (Has.head)) (by simp) rfl ha7.cell1 trivial ?_
      refine L.nil ?_
      refine C.blockEnd ?_
      refine C.next ?_
      refine C.region [(false,0),(false,1),(false,2)] rfl ?_
      refine L.move rfl rfl rfl trivial ?_
      refine L.add rfl rfl rfl (by simp only [inK]; omega) rfl trivial ?_
      refine L.assign rfl rfl rfl trivial ?_
      refine L.nil ?_
      exact C.againR 27 (k + 1, v7, ν7) ⟨by simp only; omega, hn7⟩ (by simp only; omega) ⟨(by first | rfl | (show some (Value.int _ _) = some (Value.int _ _); congr 2; omega)), trivial⟩ rfl rfl (List.Sublist.cons _ (List.Sublist.refl _)) (fun D h => ⟨D, List.Mem.tail _ (h), Le.refl D⟩)
    · obtain rfl : k = r.counts.length := by omega
      rw [List.take_length] at ha
      refine C.exit ?_
      refine C.thenExit ?_
      refine C.thenExit ?_
      refine C.blockExit ?_
      refine C.next ?_
      refine C.seq ?_
      refine C.region [(false,0),(false,1)] rfl ?_
      refine L.loadBW rfl Tf.a59 rfl (List.Mem.head _) Tf.s59 List.not_mem_nil rfl trivial ?_
      refine L.storeW rfl rfl rfl rfl Tf.s59 (by first | rfl | (simp only [ints_length, *]; done) | (simp only [ints_length, *]; rfl) | (simp only [ints_length, *]; omega)) (by first | rfl | (simp only [ints_length, *]; done) | (simp only [ints_length, *]; rfl) | (simp only [ints_length, *]; omega)) (.tail (Has.head)) (cell1_row hp1.cell1 ha.cell1) trivial ?_
      refine L.nil ?_
      refine C.next ?_
      refine C.ret ?_
      refine Q.freeze (A := [(_, _), (_, _)]) (B := []) ha rfl (fun D2 hD2 hF => ?_)
      exact leave (vs := [_]) rfl rfl rfl ⟨⟨_, _, _, rfl, (List.Mem.tail _ (List.Mem.head _)), Or.inr ⟨Tf.a59, Tf.s59, rfl⟩⟩, trivial⟩ (fun D' hD => ⟨_, v, rfl, hp1.up RI.up (hD _ (by simp)), (hF.cnts rfl (by omega)).up RC.up (hD _ (by simp))⟩)
end Go.Fs
namespace Go.Fs
open Go.Proofs
open C3
def upTo (lo : Int) (k : Nat) : List Int := (List.range k).map fun i : Nat => lo + (i : Int)
theorem ways_one {s n lo hi : Int} (h : s ≠ n) : waysB s n lo hi = [s] := by unfold waysB; rw [if_pos h]
theorem ways_all {s n lo hi : Int} (h : ¬ s ≠ n) : waysB s n lo hi = upTo lo (hi + 1 - lo).toNat := by unfold waysB; rw [if_neg h]; rfl
theorem twithin_ok (n lo hi : Int) (D : Data) : Fn Try.prog 24 #[.int .i64 n, .int .i64 lo, .int .i64 hi] D (fun _ v => v = .bool (C1.inB n lo hi)) := by
  refine enter 15 Try.func24 rfl rfl rfl rfl fun h0 => ?_
  refine C.seq ?_
  refine C.region [(false,0)] rfl ?_
  refine L.assign rfl rfl rfl trivial ?_
  refine L.nil ?_
  refine C.next ?_
  refine C.seq ?_
  refine C.region [(false,0),(false,1),(false,2),(false,3),(false,4),(false,5),(false,6),(false,7),(false,8)] rfl ?_
  refine L.move rfl rfl rfl trivial ?_
  refine L.move rfl rfl rfl trivial ?_
  refine L.leq rfl rfl rfl rfl trivial ?_
  refine L.move rfl rfl rfl trivial ?_
  refine' L.and [(false,4),(false,5),(false,6),(false,7)] [(false,8)] (s := 10) (p := 14) rfl rfl (fun hg1 => ?_) (fun hg1 => ?_) ?_
  rotate_left
  · refine L.move rfl rfl rfl ⟨_, rfl, rfl⟩ ?_
    refine L.move rfl rfl rfl ⟨_, rfl, rfl⟩ ?_
    refine L.leq rfl rfl rfl rfl ⟨_, rfl, rfl⟩ ?_
    refine L.pickT rfl rfl rfl rfl trivial ?_
    exact L.nil fun a w hh => hh.cutK 3 rfl
  · refine L.pass rfl rfl rfl ⟨_, _, rfl, rfl, rfl⟩ ?_
    refine L.pass rfl rfl rfl ⟨_, _, rfl, rfl, rfl⟩ ?_
    refine L.pass rfl rfl rfl ⟨_, _, rfl, rfl, rfl⟩ ?_
    refine L.pickF rfl rfl rfl rfl trivial ?_
    exact L.nil fun a w hh => hh.cutK 3 rfl
  refine L.assign rfl rfl rfl trivial ?_
  refine L.nil ?_
  refine C.next ?_
  refine C.ret ?_
  exact leave (vs := [_]) rfl rfl rfl ⟨rfl, trivial⟩ (fun D hD => rfl)
theorem tIn_ok (n lo hi : Int) (D : Data) : Fn Try.prog 4 #[.int .i64 n, .int .i64 lo, .int .i64 hi] D (fun _ v => v = .bool (C1.inB n lo hi)) := by
  refine enter 15 Try.func4 rfl rfl rfl rfl fun h0 => ?_
  refine C.seq ?_
  refine C.region [(false,0)] rfl ?_
  refine L.assign rfl rfl rfl trivial ?_
  refine L.nil ?_
  refine C.next ?_
  refine C.seq ?_
  refine C.region [(false,0),(false,1),(false,2),(false,3),(false,4),(false,5),(false,6),(false,7),(false,8)] rfl ?_
  refine L.move rfl rfl rfl trivial ?_
  refine L.move rfl rfl rfl trivial ?_
  refine L.geq rfl rfl rfl rfl trivial ?_
  refine L.move rfl rfl rfl trivial ?_
  refine' L.and [(false,4),(false,5),(false,6),(false,7)] [(false,8)] (s := 10) (p := 14) rfl rfl (fun hg1 => ?_) (fun hg1 => ?_) ?_
  rotate_left
  · refine L.move rfl rfl rfl ⟨_, rfl, rfl⟩ ?_
    refine L.move rfl rfl rfl ⟨_, rfl, rfl⟩ ?_
    refine L.leq rfl rfl rfl rfl ⟨_, rfl, rfl⟩ ?_
    refine L.pickT rfl rfl rfl rfl trivial ?_
    exact L.nil fun a w hh => hh.cutK 3 rfl
  · refine L.pass rfl rfl rfl ⟨_, _, rfl, rfl, rfl⟩ ?_
    refine L.pass rfl rfl rfl ⟨_, _, rfl, rfl, rfl⟩ ?_
    refine L.pass rfl rfl rfl ⟨_, _, rfl, rfl, rfl⟩ ?_
    refine L.pickF rfl rfl rfl rfl trivial ?_
    exact L.nil fun a w hh => hh.cutK 3 rfl
  refine L.assign rfl rfl rfl trivial ?_
  refine L.nil ?_
  refine C.next ?_
  refine C.ret ?_
  exact leave (vs := [_]) rfl rfl rfl ⟨rfl, trivial⟩ (fun D hD => by show Value.bool (decide (n ≥ lo) && decide (n ≤ hi)) = _; rfl)
theorem tminimum_ok (sv : Value) (x : Int) (xs : List Int) (D : Data) (hS : Sl D RI 1 sv (x :: xs)) :
    Fn Try.prog 47 #[sv] D (fun _ v => v = .int .i64 (xs.foldl min x)) := by
  refine enter 5 Try.func47 rfl rfl rfl rfl fun h0 => ?_
  refine C.seq ?_
  refine C.region [(false,0)] rfl ?_
  refine L.assign rfl rfl rfl trivial ?_
  refine L.nil ?_
  refine C.next ?_
  refine C.seq ?_
  refine C.region [(false,0),(false,1),(false,2)] rfl ?_
  refine L.move rfl rfl rfl trivial ?_
  refine L.callV rfl rfl rfl (fun D1 hD1 => Min_ok _ x xs _ (Sl.at RI.up hD1 (by assumption) (by simp))) rfl trivial ?_
  refine L.assign rfl rfl rfl trivial ?_
  refine L.nil ?_
  refine C.next ?_
  refine C.ret ?_
  exact leave (vs := [_]) rfl rfl rfl ⟨rfl, trivial⟩ (fun D hD => rfl)
theorem thas_ok (r : Int × Int) (n : Int) (D : Data) : Fn Try.prog 84 #[k2V r, .int .i64 n] D (fun _ v => v = .bool (C1.inB n r.1 r.2)) := by
  refine enter 11 Try.func84 rfl rfl rfl rfl fun h0 => ?_
  refine C.seq ?_
  refine C.region [(false,0),(false,1)] rfl ?_
  refine L.boxD rfl rfl rfl rfl trivial (fun q1 E1 hE1 hB1 => ?_)
  refine L.assign rfl rfl rfl trivial ?_
  refine L.nil ?_
  refine C.next ?_
  refine C.seq ?_
  refine C.region [(false,0),(false,1),(false,2),(false,3),(false,4),(false,5),(false,6)] rfl ?_
  refine L.move rfl rfl rfl trivial ?_
  refine L.fieldAddr rfl Tf.f43_0 rfl rfl trivial ?_
  refine L.loadD1 rfl (k := 0) Tf.a3 rfl hB1 (by first | simp | assumption) rfl List.not_mem_nil rfl trivial ?_
  refine L.fieldAddr rfl Tf.f43_1 rfl rfl trivial ?_
  refine L.loadD1 rfl (k := 1) Tf.a3 rfl hB1 (by first | simp | assumption) rfl List.not_mem_nil rfl trivial ?_
  refine L.callV rfl rfl rfl (fun D1 hD1 => twithin_ok _ _ _ _) rfl trivial ?_
  refine L.assign rfl rfl rfl trivial ?_
  refine L.nil ?_
  refine C.next ?_
  refine C.ret ?_
  exact leave (vs := [_]) rfl rfl rfl ⟨rfl, trivial⟩ (fun D hD => rfl)
theorem twider_ok (r : Int × Int) (n : Int) (D : Data) : Fn Try.prog 42 #[k2V r, .int .i64 n] D (fun _ v => v = k2V (min r.1 n, max r.2 n)) := by
  refine enter 15 Try.func42 rfl rfl rfl rfl fun h0 => ?_
  refine C.seq ?_
  refine C.region [(false,0),(false,1)] rfl ?_
  refine L.boxD rfl rfl rfl rfl trivial (fun q1 E1 hE1 hB1 => ?_)
  refine L.alloc rfl Tf.z43 rfl rfl trivial (fun q2 => ?_)
  refine L.nil ?_
  refine C.next ?_
  refine C.seq ?_
  refine C.draw [] 4 [0,1,2,5,6,7,8,3,4,9,10] [false,false,true,true,true,true,true,true,true,false,false] [(false,0),(false,1),(true,2),(true,5),(true,6),(true,7),(true,8),(true,3),(true,4),(false,9),(false,10)] Tf.follows (fun _ _ _ h => np_body (P := Try.prog) (fn := Try.f42) _ _ _ h) (by kernel_rfl) rfl ?_
  refine L.fieldAddr rfl Tf.f43_0 rfl rfl trivial ?_
  refine L.loadD1 rfl (k := 0) Tf.a3 rfl hB1 (by first | simp | assumption) rfl List.not_mem_nil rfl trivial ?_
  refine L.move rfl rfl rfl trivial ?_
  refine L.fieldAddr rfl Tf.f43_1 rfl rfl trivial ?_
  refine L.loadD1 rfl (k := 1) Tf.a3 rfl hB1 (by first | simp | assumption) rfl List.not_mem_nil rfl trivial ?_
  refine L.move rfl rfl rfl trivial ?_
  refine L.max2 rfl rfl rfl rfl trivial ?_
  refine L.buildSlice rfl Try.underlying33 Tf.s3 Tf.z3 rfl rfl rfl rfl (.cons rfl rfl (.cons rfl rfl .nil)) rfl trivial (fun b901 D901 hD901 hA901 => ?_)
  have hS901 := Sl.ofInts (l := [_, _]) (n := 2) (cap := 2) hA901 rfl (by omega) (by omega)
  refine L.callV rfl rfl rfl (fun D1 hD1 => tminimum_ok _ r.1 [n] _ (hS901.up RI.up (hD1 _ (by simp)))) rfl trivial ?_
  refine L.build (cs := [.int .i64 (min r.1 n), .int .i64 (max r.2 n)]) rfl Tf.p43 Tf.z43 rfl rfl rfl trivial ?_
  refine L.storeW rfl rfl rfl rfl Tf.s43 (by first | rfl | (simp only [ints_length, *]; done) | (simp only [ints_length, *]; rfl) | (simp only [ints_length, *]; omega)) (by first | rfl | (simp only [ints_length, *]; done) | (simp only [ints_length, *]; rfl) | (simp only [ints_length, *]; omega)) (Has.head) (by first | exact ints_cell1 _ | simp [cell1]) trivial ?_
  refine L.nil ?_
  refine C.next ?_
  refine C.ret ?_
  exact leave (vs := [_]) rfl rfl rfl ⟨⟨_, _, _, rfl, (List.Mem.head _), Or.inr ⟨Tf.a43, (by first | exact Tf.s43 | (simp only [List.size_toArray, ints_length, *]; exact Tf.s43)), rfl⟩⟩, trivial⟩ (fun D hD => rfl)
theorem IndexFuncL_ok (sv fv : Value) (xs : List Lin) (p : Lin → Bool) (D : Data) (hS : Sl D RLin 3 sv xs) (hp : PredOK Try.prog D linV fv p) :
    Fn Try.prog 85 #[sv, fv] D (fun _ v => v = .int .i64 (idxOf p xs)) := by
  have hl := hS.len
  obtain ⟨f, c1, c2, rfl, hf⟩ := hp
  refine enter 19 Try.func85 rfl rfl rfl rfl fun h0 => ?_
  refine C.seq ?_
  refine C.region [(false,0)] rfl ?_
  refine L.assign rfl rfl rfl trivial ?_
  refine L.nil ?_
  refine C.next ?_
  refine C.seq ?_
  refine C.seq ?_
  refine C.region [(false,0),(false,1),(false,2)] rfl ?_
  refine L.move rfl rfl rfl trivial ?_
  refine L.len rfl Try.underlying37 rfl (by assumption) rfl rfl trivial ?_
  refine L.move rfl rfl rfl trivial ?_
  refine L.nil ?_
  refine C.next ?_
  refine C.block ?_
  refine C.loopC (γ := Nat) (fun k => xs.length - k) (fun k => k ≤ xs.length ∧ (xs.take k).any p = false) (fun k => [(8, .int .i64 k)]) [(7, _), (4, _), (0, _), (1, _)] (fun k => [D]) 0 (by simp) ⟨(by first | rfl | (show some (Value.int _ _) = some (Value.int _ _); congr 2; omega)), trivial⟩ ⟨rfl, rfl, rfl, rfl, trivial⟩ (ds_same) ?_
  rintro k ⟨h1, h2⟩
  refine C.seq ?_
  refine C.region [(false,0)] rfl ?_
  refine L.lss rfl rfl rfl rfl trivial ?_
  refine L.nil ?_
  refine C.next ?_
  refine C.seq ?_
  refine C.condD rfl (fun hc1 => ?_) (fun hc1 => ?_)
  · have hk : k < xs.length := by omega
    obtain ⟨x, hx⟩ : ∃ x, xs[k]? = some x := ⟨_, List.getElem?_eq_getElem hk⟩
    refine C.skip ?_
    refine C.next ?_
    refine C.seq ?_
    refine C.block ?_
    refine C.seq ?_
    refine C.region [(false,0),(false,1)] rfl ?_
    refine L.move rfl rfl rfl trivial ?_
    refine L.assign rfl rfl rfl trivial ?_
    refine L.nil ?_
    refine C.next ?_
    refine C.seq ?_
    refine C.region [(false,0),(false,1),(false,2),(false,3),(false,4),(false,5)] rfl ?_
    refine L.move rfl rfl rfl trivial ?_
    refine L.move rfl rfl rfl trivial ?_
    refine L.move rfl rfl rfl trivial ?_
    refine L.indexS rfl Try.underlying37 Tf.s64 rfl (by assumption) rfl (by omega) (by assumption) rfl trivial (fun b1 o1 cs1 hr1 hcl1 hA1 => ?_)
    obtain rfl : cs1 = [.int .i64 _, .int .i64 _, .int .i64 _] := hr1
    refine L.loadDW rfl Tf.a64 rfl hA1 (by first | simp | assumption) Tf.s64 List.not_mem_nil rfl trivial ?_
    refine L.callV rfl rfl rfl (fun D1 hD1 => hf x _ (hD1 _ (by simp))) rfl trivial ?_
    refine L.nil ?_
    refine C.next ?_
    refine C.cond rfl (fun hc2 => ?_) (fun hc2 => ?_)
    · refine C.seq ?_
      refine C.region [(false,0),(false,1)] rfl ?_
      refine L.move rfl rfl rfl trivial ?_
      refine L.assign rfl rfl rfl trivial ?_
      refine L.nil ?_
      refine C.next ?_
      refine C.ret ?_
      refine C.blockRet ?_
      refine C.thenRet ?_
      refine C.thenRet ?_
      refine C.blockRet ?_
      refine C.thenRet ?_
      exact leave (vs := [_]) rfl rfl rfl ⟨rfl, trivial⟩ (fun D hD => by show Value.int _ _ = _; rw [idxOf_at hx h2 hc2])
    · refine C.skip ?_
      refine C.blockEnd ?_
      refine C.next ?_
      refine C.region [(false,0),(false,1)] rfl ?_
      refine L.add rfl rfl rfl (by simp only [inK]; omega) rfl trivial ?_
      refine L.move rfl rfl rfl trivial ?_
      refine L.nil ?_
      have hpx : p x = false := hc2
      have h3 : (xs.take (k + 1)).any p = false := by rw [List.take_add_one, hx, List.any_append, h2]; simp [hpx]
      exact C.againR 12 (k + 1) ⟨by omega, h3⟩ (by omega) ⟨(by first | rfl | (show some (Value.int _ _) = some (Value.int _ _); congr 2; omega)), trivial⟩ rfl rfl (List.Sublist.refl _) (ds_same)
  · refine C.exit ?_
    refine C.thenExit ?_
    refine C.thenExit ?_
    refine C.blockExit ?_
    refine C.next ?_
    refine C.seq ?_
    refine C.region [(false,0)] rfl ?_
    refine L.assign rfl rfl rfl trivial ?_
    refine L.nil ?_
    refine C.next ?_
    refine C.ret ?_
    exact leave (vs := [_]) rfl rfl rfl ⟨rfl, trivial⟩ (fun D hD => by show Value.int _ _ = _; rw [idxOf_none (by rwa [List.take_of_length_le (by omega)] at h2)])
theorem ContainsFuncL_ok (sv fv : Value) (xs : List Lin) (p : Lin → Bool) (D : Data) (hS : Sl D RLin 3 sv xs) (hp : PredOK Try.prog D linV fv p) :
    Fn Try.prog 66 #[sv, fv] D (fun _ v => v = .bool (xs.any p)) := by
  refine enter 9 Try.func66 rfl rfl rfl rfl fun h0 => ?_
  refine C.seq ?_
  refine C.region [(false,0)] rfl ?_
  refine L.assign rfl rfl rfl trivial ?_
  refine L.nil ?_
  refine C.next ?_
  refine C.seq ?_
  refine C.region [(false,0),(false,1),(false,2),(false,3),(false,4)] rfl ?_
  refine L.move rfl rfl rfl trivial ?_
  refine L.move rfl rfl rfl trivial ?_
  refine L.callV rfl rfl rfl (fun D1 hD1 => IndexFuncL_ok _ _ xs p _ (Sl.at RLin.up hD1 (by assumption) (by simp)) (hp.up (hD1 _ (by simp)))) rfl trivial ?_
  refine L.geq rfl rfl rfl rfl trivial ?_
  refine L.assign rfl rfl rfl trivial ?_
  refine L.nil ?_
  refine C.next ?_
  refine C.ret ?_
  exact leave (vs := [_]) rfl rfl rfl ⟨rfl, trivial⟩ (fun D hD => by show Value.bool (decide _) = _; rw [idxOf_ge])
theorem allL1_ok (b : Nat) (fv : Value) (p : Lin → Bool) (x : Lin) (D : Data) (hp : PredOK Try.prog D linV fv p) (hB : At D b 0 [fv]) :
    Fn Try.prog 67 #[linV x, .pointer (some ⟨b, 0, none⟩)] D (fun _ v => v = .bool (!p x)) := by
  obtain ⟨f, c1, c2, rfl, hf⟩ := hp
  refine enter 8 Try.func67 rfl rfl rfl rfl fun h0 => ?_
  refine C.seq ?_
  refine C.region [(false,0),(false,1)] rfl ?_
  refine L.boxD rfl rfl rfl rfl trivial (fun q1 E1 hE1 hB1 => ?_)
  refine L.assign rfl rfl rfl trivial ?_
  refine L.nil ?_
  refine C.next ?_
  refine C.seq ?_
  refine C.region [(false,0),(false,1),(false,2),(false,3),(false,4)] rfl ?_
  refine L.loadD1 rfl (k := 0) Tf.a110 rfl hB (by first | simp | assumption) rfl List.not_mem_nil rfl trivial ?_
  refine L.loadDW rfl Tf.a64 rfl hB1 (by first | simp | assumption) Tf.s64 List.not_mem_nil rfl trivial ?_
  refine L.callV rfl rfl rfl (fun D1 hD1 => hf x _ (hD1 _ (by simp))) rfl trivial ?_
  refine L.not rfl rfl rfl trivial ?_
  refine L.assign rfl rfl rfl trivial ?_
  refine L.nil ?_
  refine C.next ?_
  refine C.ret ?_
  exact leave (vs := [_]) rfl rfl rfl ⟨rfl, trivial⟩ (fun D hD => rfl)
theorem allL_ok (sv fv : Value) (xs : List Lin) (p : Lin → Bool) (D : Data) (hS : Sl D RLin 3 sv xs) (hp : PredOK Try.prog D linV fv p) (h1 : fv.cells = #[fv]) :
    Fn Try.prog 45 #[sv, fv] D (fun _ v => v = .bool (xs.all p)) := by
  refine enter 9 Try.func45 rfl rfl rfl rfl fun h0 => ?_
  refine C.seq ?_
  refine C.region [(false,0),(false,1)] rfl ?_
  refine L.boxD (vs := [fv]) rfl rfl h1 rfl trivial (fun b D1 hD1 hB => ?_)
  refine L.assign rfl rfl rfl trivial ?_
  refine L.nil ?_
  refine C.next ?_
  refine C.seq ?_
  refine C.region [(false,0),(false,1),(false,2),(false,3),(false,4)] rfl ?_
  refine L.move rfl rfl rfl trivial ?_
  refine L.makeFunc rfl rfl rfl rfl trivial ?_
  refine L.callV rfl rfl rfl (fun D1 hD1 => ContainsFuncL_ok _ _ xs (fun x => !p x) _ (Sl.at RLin.up hD1 (by assumption) (by simp)) ⟨_, [], [.pointer (some ⟨b, 0, none⟩)], rfl, fun x D2 hl => allL1_ok b fv p x D2 (hp.up ((hD1 _ (by simp)).trans hl)) (hB.up ((hD1 _ (by simp)).trans hl))⟩) rfl trivial ?_
  refine L.not rfl rfl rfl trivial ?_
  refine L.assign rfl rfl rfl trivial ?_
  refine L.nil ?_
  refine C.next ?_
  refine C.ret ?_
  exact leave (vs := [_]) rfl rfl rfl ⟨rfl, trivial⟩ (fun D hD => by show Value.bool (!_) = _; rw [all_any])
theorem IndexFuncN_ok (sv fv : Value) (xs : List Cn) (p : Cn → Bool) (D : Data) (hS : Sl D RCn 3 sv xs) (hp : PredOK Try.prog D cnV fv p) :
    Fn Try.prog 86 #[sv, fv] D (fun _ v => v = .int .i64 (idxOf p xs)) := by
  have hl := hS.len
  obtain ⟨f, c1, c2, rfl, hf⟩ := hp
  refine enter 19 Try.func86 rfl rfl rfl rfl fun h0 => ?_
  refine C.seq ?_
  refine C.region [(false,0)] rfl ?_
  refine L.assign rfl rfl rfl trivial ?_
  refine L.nil ?_
  refine C.next ?_
  refine C.seq ?_
  refine C.seq ?_
  refine C.region [(false,0),(false,1),(false,2)] rfl ?_
  refine L.move rfl rfl rfl trivial ?_
  refine L.len rfl Try.underlying38 rfl (by assumption) rfl rfl trivial ?_
  refine L.move rfl rfl rfl trivial ?_
  refine L.nil ?_
  refine C.next ?_
  refine C.block ?_
  refine C.loopC (γ := Nat) (fun k => xs.length - k) (fun k => k ≤ xs.length ∧ (xs.take k).any p = false) (fun k => [(8, .int .i64 k)]) [(7, _), (4, _), (0, _), (1, _)] (fun k => [D]) 0 (by simp) ⟨(by first | rfl | (show some (Value.int _ _) = some (Value.int _ _); congr 2; omega)), trivial⟩ ⟨rfl, rfl, rfl, rfl, trivial⟩ (ds_same) ?_
  rintro k ⟨h1, h2⟩
  refine C.seq ?_
  refine C.region [(false,0)] rfl ?_
  refine L.lss rfl rfl rfl rfl trivial ?_
  refine L.nil ?_
  refine C.next ?_
  refine C.seq ?_
  refine C.condD rfl (fun hc1 => ?_) (fun hc1 => ?_)
  · have hk : k < xs.length := by omega
    obtain ⟨x, hx⟩ : ∃ x, xs[k]? = some x := ⟨_, List.getElem?_eq_getElem hk⟩
    refine C.skip ?_
    refine C.next ?_
    refine C.seq ?_
    refine C.block ?_
    refine C.seq ?_
    refine C.region [(false,0),(false,1)] rfl ?_
    refine L.move rfl rfl rfl trivial ?_
    refine L.assign rfl rfl rfl trivial ?_
    refine L.nil ?_
    refine C.next ?_
    refine C.seq ?_
    refine C.region [(false,0),(false,1),(false,2),(false,3),(false,4),(false,5)] rfl ?_
    refine L.move rfl rfl rfl trivial ?_
    refine L.move rfl rfl rfl trivial ?_
    refine L.move rfl rfl rfl trivial ?_
    refine L.indexS rfl Try.underlying38 Tf.s86 rfl (by assumption) rfl (by omega) (by assumption) rfl trivial (fun b1 o1 cs1 hr1 hcl1 hA1 => ?_)
    obtain rfl : cs1 = [.int .i64 _, .int .i64 _, .int .i64 _] := hr1
    refine L.loadDW rfl Tf.a86 rfl hA1 (by first | simp | assumption) Tf.s86 List.not_mem_nil rfl trivial ?_
    refine L.callV rfl rfl rfl (fun D1 hD1 => hf x _ (hD1 _ (by simp))) rfl trivial ?_
    refine L.nil ?_
    refine C.next ?_
    refine C.cond rfl (fun hc2 => ?_) (fun hc2 => ?_)
    · refine C.seq ?_
      refine C.region [(false,0),(false,1)] rfl ?_
      refine L.move rfl rfl rfl trivial ?_
      refine L.assign rfl rfl rfl trivial ?_
      refine L.nil ?_
      refine C.next ?_
      refine C.ret ?_
      refine C.blockRet ?_
      refine C.thenRet ?_
      refine C.thenRet ?_
      refine C.blockRet ?_
      refine C.thenRet ?_
      exact leave (vs := [_]) rfl rfl rfl ⟨rfl, trivial⟩ (fun D hD => by show Value.int _ _ = _; rw [idxOf_at hx h2 hc2])
    · refine C.skip ?_
      refine C.blockEnd ?_
      refine C.next ?_
      refine C.region [(false,0),(false,1)] rfl ?_
      refine L.add rfl rfl rfl (by simp only [inK]; omega) rfl trivial ?_
      refine L.move rfl rfl rfl trivial ?_
      refine L.nil ?_
      have hpx : p x = false := hc2
      have h3 : (xs.take (k + 1)).any p = false := by rw [List.take_add_one, hx, List.any_append, h2]; simp [hpx]
      exact C.againR 12 (k + 1) ⟨by omega, h3⟩ (by omega) ⟨(by first | rfl | (show some (Value.int _ _) = some (Value.int _ _); congr 2; omega)), trivial⟩ rfl rfl (List.Sublist.refl _) (ds_same)
  · refine C.exit ?_
    refine C.thenExit ?_
    refine C.thenExit ?_
    refine C.blockExit ?_
    refine C.next ?_
    refine C.seq ?_
    refine C.region [(false,0)] rfl ?_
    refine L.assign rfl rfl rfl trivial ?_
    refine L.nil ?_
    refine C.next ?_
    refine C.ret ?_
    exact leave (vs := [_]) rfl rfl rfl ⟨rfl, trivial⟩ (fun D hD => by show Value.int _ _ = _; rw [idxOf_none (by rwa [List.take_of_length_le (by omega)] at h2)])
theorem ContainsFuncN_ok (sv fv : Value) (xs : List Cn) (p : Cn → Bool) (D : Data) (hS : Sl D RCn 3 sv xs) (hp : PredOK Try.prog D cnV fv p) :
    Fn Try.prog 68 #[sv, fv] D (fun _ v => v = .bool (xs.any p)) := by
  refine enter 9 Try.func68 rfl rfl rfl rfl fun h0 => ?_
  refine C.seq ?_
  refine C.region [(false,0)] rfl ?_
  refine L.assign rfl rfl rfl trivial ?_
  refine L.nil ?_
  refine C.next ?_
  refine C.seq ?_
  refine C.region [(false,0),(false,1),(false,2),(false,3),(false,4)] rfl ?_
  refine L.move rfl rfl rfl trivial ?_
  refine L.move rfl rfl rfl trivial ?_
  refine L.callV rfl rfl rfl (fun D1 hD1 => IndexFuncN_ok _ _ xs p _ (Sl.at RCn.up hD1 (by assumption) (by simp)) (hp.up (hD1 _ (by simp)))) rfl trivial ?_
  refine L.geq rfl rfl rfl rfl trivial ?_
  refine L.assign rfl rfl rfl trivial ?_
  refine L.nil ?_
  refine C.next ?_
  refine C.ret ?_
  exact leave (vs := [_]) rfl rfl rfl ⟨rfl, trivial⟩ (fun D hD => by show Value.bool (decide _) = _; rw [idxOf_ge])
theorem allN1_ok (b : Nat) (fv : Value) (p : Cn → Bool) (x : Cn) (D : Data) (hp : PredOK Try.prog D cnV fv p) (hB : At D b 0 [fv]) :
    Fn Try.prog 69 #[cnV x, .pointer (some ⟨b, 0, none⟩)] D (fun _ v => v = .bool (!p x)) := by
  obtain ⟨f, c1, c2, rfl, hf⟩ := hp
  refine enter 8 Try.func69 rfl rfl rfl rfl fun h0 => ?_
  refine C.seq ?_
  refine C.region [(false,0),(false,1)] rfl ?_
  refine L.boxD rfl rfl rfl rfl trivial (fun q1 E1 hE1 hB1 => ?_)
  refine L.assign rfl rfl rfl trivial ?_
  refine L.nil ?_
  refine C.next ?_
  refine C.seq ?_
  refine C.region [(false,0),(false,1),(false,2),(false,3),(false,4)] rfl ?_
  refine L.loadD1 rfl (k := 0) Tf.a111 rfl hB (by first | simp | assumption) rfl List.not_mem_nil rfl trivial ?_
  refine L.loadDW rfl Tf.a86 rfl hB1 (by first | simp | assumption) Tf.s86 List.not_mem_nil rfl trivial ?_
  refine L.callV rfl rfl rfl (fun D1 hD1 => hf x _ (hD1 _ (by simp))) rfl trivial ?_
  refine L.not rfl rfl rfl trivial ?_
  refine L.assign rfl rfl rfl trivial ?_
  refine L.nil ?_
  refine C.next ?_
  refine C.ret ?_
  exact leave (vs := [_]) rfl rfl rfl ⟨rfl, trivial⟩ (fun D hD => rfl)
theorem allN_ok (sv fv : Value) (xs : List Cn) (p : Cn → Bool) (D : Data) (hS : Sl D RCn 3 sv xs) (hp : PredOK Try.prog D cnV fv p) (h1 : fv.cells = #[fv]) :
    Fn Try.prog 46 #[sv, fv] D (fun _ v => v = .bool (xs.all p)) := by
  refine enter 9 Try.func46 rfl rfl rfl rfl fun h0 => ?_
  refine C.seq ?_
  refine C.region [(false,0),(false,1)] rfl ?_
  refine L.boxD (vs := [fv]) rfl rfl h1 rfl trivial (fun b D1 hD1 hB => ?_)
  refine L.assign rfl rfl rfl trivial ?_
  refine L.nil ?_
  refine C.next ?_
  refine C.seq ?_
  refine C.region [(false,0),(false,1),(false,2),(false,3),(false,4)] rfl ?_
  refine L.move rfl rfl rfl trivial ?_
  refine L.makeFunc rfl rfl rfl rfl trivial ?_
  refine L.callV rfl rfl rfl (fun D1 hD1 => ContainsFuncN_ok _ _ xs (fun x => !p x) _ (Sl.at RCn.up hD1 (by assumption) (by simp)) ⟨_, [], [.pointer (some ⟨b, 0, none⟩)], rfl, fun x D2 hl => allN1_ok b fv p x D2 (hp.up ((hD1 _ (by simp)).trans hl)) (hB.up ((hD1 _ (by simp)).trans hl))⟩) rfl trivial ?_
  refine L.not rfl rfl rfl trivial ?_
  refine L.assign rfl rfl rfl trivial ?_
  refine L.nil ?_
  refine C.next ?_
  refine C.ret ?_
  exact leave (vs := [_]) rfl rfl rfl ⟨rfl, trivial⟩ (fun D hD => by show Value.bool (!_) = _; rw [all_any])
theorem lineB_ok (bv : Value) (b : BookD) (l : Lin) (D : Data) (hb : BookIs D bv b) (hn : 0 ≤ b.chairs ∧ b.chairs ≤ 100) : Fn Try.prog 43 #[bv, linV l] D (fun _ v => v = .bool (lineOk b.chairs l)) := by
  obtain ⟨lv, cv, rfl, hl, hc⟩ := hb
  refine enter 24 Try.func43 rfl rfl rfl rfl fun h0 => ?_
  refine C.seq ?_
  refine C.region [(false,0),(false,1),(false,2)] rfl ?_
  refine L.boxD rfl rfl rfl rfl trivial (fun q1 E1 hE1 hB1 => ?_)
  refine L.boxD rfl rfl rfl rfl trivial (fun q2 E2 hE2 hB2 => ?_)
  refine L.assign rfl rfl rfl trivial ?_
  refine L.nil ?_
  refine C.next ?_
  refine C.seq ?_
  refine C.region [(false,0),(false,1),(false,2),(false,3),(false,4),(false,5),(false,6),(false,7),(false,8),(false,9),(false,10),(false,11),(false,12),(false,13),(false,14),(false,15),(false,16),(false,17),(false,18),(false,19)] rfl ?_
  refine L.fieldAddr rfl Tf.f64_0 rfl rfl trivial ?_
  refine L.loadD1 rfl (k := 0) Tf.a3 rfl hB2 (by first | simp | assumption) rfl List.not_mem_nil rfl trivial ?_
  refine L.callV rfl rfl rfl (fun D1 hD1 => twithin_ok _ _ _ _) rfl trivial ?_
  refine L.move rfl rfl rfl trivial ?_
  refine' L.and [(false,4),(false,5),(false,6),(false,7),(false,8),(false,9),(false,10)] [(false,11),(false,12),(false,13),(false,14),(false,15),(false,16),(false,17),(false,18),(false,19)] (s := 8) (p := 15) rfl rfl (fun hg1 => ?_) (fun hg1 => ?_) ?_
  rotate_left
  · refine L.fieldAddr rfl Tf.f64_1 rfl rfl ⟨_, rfl, rfl⟩ ?_
    refine L.loadD1 rfl (k := 1) Tf.a3 rfl hB2 (by first | simp | assumption) rfl List.not_mem_nil rfl ⟨_, rfl, rfl⟩ ?_
    refine L.fieldAddr rfl Tf.f40_0 rfl rfl ⟨_, rfl, rfl⟩ ?_
    refine L.loadD1 rfl (k := 0) Tf.a3 rfl hB1 (by first | simp | assumption) rfl List.not_mem_nil rfl ⟨_, rfl, rfl⟩ ?_
    refine L.sub rfl rfl rfl (by simp only [inK]; omega) rfl ⟨_, rfl, rfl⟩ ?_
    refine L.callV rfl rfl rfl (fun D2 hD2 => twithin_ok _ _ _ _) rfl ⟨_, rfl, rfl⟩ ?_
    refine L.pickT rfl rfl rfl rfl trivial ?_
    exact L.nil fun a w hh => hh.cutK 6 rfl
  · refine L.pass rfl rfl rfl ⟨_, _, rfl, rfl, rfl⟩ ?_
    refine L.pass rfl rfl rfl ⟨_, _, rfl, rfl, rfl⟩ ?_
    refine L.pass rfl rfl rfl ⟨_, _, rfl, rfl, rfl⟩ ?_
    refine L.pass rfl rfl rfl ⟨_, _, rfl, rfl, rfl⟩ ?_
    refine L.pass rfl rfl rfl ⟨_, _, rfl, rfl, rfl⟩ ?_
    refine L.pass rfl rfl rfl ⟨_, _, rfl, rfl, rfl⟩ ?_
    refine L.pickF rfl rfl rfl rfl trivial ?_
    exact L.nil fun a w hh => hh.cutK 6 rfl
  refine L.move rfl rfl rfl trivial ?_
  refine' L.and [(false,12),(false,13),(false,14),(false,15),(false,16),(false,17),(false,18)] [(false,19)] (s := 16) (p := 23) rfl rfl (fun hg2 => ?_) (fun hg2 => ?_) ?_
  rotate_left
  · refine L.fieldAddr rfl Tf.f64_2 rfl rfl ⟨_, rfl, rfl⟩ ?_
    refine L.loadD1 rfl (k := 2) Tf.a3 rfl hB2 (by first | simp | assumption) rfl List.not_mem_nil rfl ⟨_, rfl, rfl⟩ ?_
    refine L.fieldAddr rfl Tf.f40_0 rfl rfl ⟨_, rfl, rfl⟩ ?_
    refine L.loadD1 rfl (k := 0) Tf.a3 rfl hB1 (by first | simp | assumption) rfl List.not_mem_nil rfl ⟨_, rfl, rfl⟩ ?_
    refine L.sub rfl rfl rfl (by simp only [inK]; omega) rfl ⟨_, rfl, rfl⟩ ?_
    refine L.callV rfl rfl rfl (fun D3 hD3 => twithin_ok _ _ _ _) rfl ⟨_, rfl, rfl⟩ ?_
    refine L.pickT rfl rfl rfl rfl trivial ?_
    exact L.nil fun a w hh => hh.cutK 6 rfl
  · refine L.pass rfl rfl rfl ⟨_, _, rfl, rfl, rfl⟩ ?_
    refine L.pass rfl rfl rfl ⟨_, _, rfl, rfl, rfl⟩ ?_
    refine L.pass rfl rfl rfl ⟨_, _, rfl, rfl, rfl⟩ ?_
    refine L.pass rfl rfl rfl ⟨_, _, rfl, rfl, rfl⟩ ?_
    refine L.pass rfl rfl rfl ⟨_, _, rfl, rfl, rfl⟩ ?_
    refine L.pass rfl rfl rfl ⟨_, _, rfl, rfl, rfl⟩ ?_
    refine L.pickF rfl rfl rfl rfl trivial ?_
    exact L.nil fun a w hh => hh.cutK 6 rfl
  refine L.assign rfl rfl rfl trivial ?_
  refine L.nil ?_
  refine C.next ?_
  refine C.ret ?_
  exact leave (vs := [_]) rfl rfl rfl ⟨rfl, trivial⟩ (fun D hD => rfl)
theorem countB_ok (bv : Value) (b : BookD) (c : Cn) (D : Data) (hb : BookIs D bv b) : Fn Try.prog 44 #[bv, cnV c] D (fun _ v => v = .bool (cntOk b.lines.length c)) := by
  obtain ⟨lv, cv, rfl, hl, hc⟩ := hb
  refine enter 31 Try.func44 rfl rfl rfl rfl fun h0 => ?_
  refine C.seq ?_
  refine C.region [(false,0),(false,1),(false,2)] rfl ?_
  refine L.boxD rfl rfl rfl rfl trivial (fun q1 E1 hE1 hB1 => ?_)
  refine L.boxD rfl rfl rfl rfl trivial (fun q2 E2 hE2 hB2 => ?_)
  refine L.assign rfl rfl rfl trivial ?_
  refine L.nil ?_
  refine C.next ?_
  refine C.seq ?_
  refine C.region [(false,0),(false,1),(false,2),(false,3)] rfl ?_
  refine L.fieldAddr rfl Tf.f86_1 rfl rfl trivial ?_
  refine L.loadDP rfl (k := 1) Tf.a43 Tf.s43 rfl hB2 (by first | simp | assumption) rfl rfl List.not_mem_nil rfl trivial ?_
  refine L.alloc rfl Tf.z43 rfl rfl trivial (fun q3 => ?_)
  refine L.storeW rfl rfl rfl rfl Tf.s43 (by first | rfl | (simp only [ints_length, *]; done) | (simp only [ints_length, *]; rfl) | (simp only [ints_length, *]; omega)) (by first | rfl | (simp only [ints_length, *]; done) | (simp only [ints_length, *]; rfl) | (simp only [ints_length, *]; omega)) (Has.head) (by first | exact ints_cell1 _ | simp [cell1]) trivial ?_
  refine L.nil ?_
  refine C.next ?_
  refine C.seq ?_
  refine C.region [(false,0),(false,1),(false,2),(false,3),(false,4),(false,5),(false,6),(false,7),(false,8),(false,9),(false,10),(false,11),(false,12),(false,13),(false,14),(false,15),(false,16),(false,17),(false,18),(false,19),(false,20),(false,21),(false,22),(false,23)] rfl ?_
  refine L.fieldAddr rfl Tf.f86_0 rfl rfl trivial ?_
  refine L.loadD1 rfl (k := 0) Tf.a3 rfl hB2 (by first | simp | assumption) rfl List.not_mem_nil rfl trivial ?_
  refine L.fieldAddr rfl Tf.f40_3 rfl rfl trivial ?_
  refine L.loadD1 rfl (k := 3) Tf.a37 rfl hB1 (by first | simp | assumption) rfl List.not_mem_nil rfl trivial ?_
  refine L.len rfl Try.underlying37 rfl hl rfl rfl trivial ?_
  refine L.callV rfl rfl rfl (fun D1 hD1 => twithin_ok _ _ _ _) rfl trivial ?_
  refine L.move rfl rfl rfl trivial ?_
  refine' L.and [(false,7),(false,8),(false,9),(false,10)] [(false,11),(false,12),(false,13),(false,14),(false,15),(false,16),(false,17),(false,18),(false,19),(false,20),(false,21),(false,22),(false,23)] (s := 14) (p := 18) rfl rfl (fun hg1 => ?_) (fun hg1 => ?_) ?_
  rotate_left
  · refine L.fieldAddr rfl Tf.f43_0 rfl rfl ⟨_, rfl, rfl⟩ ?_
    refine L.loadB1 rfl Tf.a3 rfl (List.Mem.head _) rfl List.not_mem_nil rfl ⟨_, rfl, rfl⟩ ?_
    refine L.leq rfl rfl rfl rfl ⟨_, rfl, rfl⟩ ?_
    refine L.pickT rfl rfl rfl rfl trivial ?_
    exact L.nil fun a w hh => hh.cutK 3 rfl
  · refine L.pass rfl rfl rfl ⟨_, _, rfl, rfl, rfl⟩ ?_
    refine L.pass rfl rfl rfl ⟨_, _, rfl, rfl, rfl⟩ ?_
    refine L.pass rfl rfl rfl ⟨_, _, rfl, rfl, rfl⟩ ?_
    refine L.pickF rfl rfl rfl rfl trivial ?_
    exact L.nil fun a w hh => hh.cutK 3 rfl
  refine L.move rfl rfl rfl trivial ?_
  refine' L.and [(false,12),(false,13),(false,14),(false,15),(false,16),(false,17)] [(false,18),(false,19),(false,20),(false,21),(false,22),(false,23)] (s := 19) (p := 25) rfl rfl (fun hg2 => ?_) (fun hg2 => ?_) ?_
  rotate_left
  · refine L.fieldAddr rfl Tf.f43_0 rfl rfl ⟨_, rfl, rfl⟩ ?_
    refine L.loadB1 rfl Tf.a3 rfl (List.Mem.head _) rfl List.not_mem_nil rfl ⟨_, rfl, rfl⟩ ?_
    refine L.fieldAddr rfl Tf.f43_1 rfl rfl ⟨_, rfl, rfl⟩ ?_
    refine L.loadB1 rfl Tf.a3 rfl (List.Mem.head _) rfl List.not_mem_nil rfl ⟨_, rfl, rfl⟩ ?_
    refine L.leq rfl rfl rfl rfl ⟨_, rfl, rfl⟩ ?_
    refine L.pickT rfl rfl rfl rfl trivial ?_
    exact L.nil fun a w hh => hh.cutK 5 rfl
  · refine L.pass rfl rfl rfl ⟨_, _, rfl, rfl, rfl⟩ ?_
    refine L.pass rfl rfl rfl ⟨_, _, rfl, rfl, rfl⟩ ?_
    refine L.pass rfl rfl rfl ⟨_, _, rfl, rfl, rfl⟩ ?_
    refine L.pass rfl rfl rfl ⟨_, _, rfl, rfl, rfl⟩ ?_
    refine L.pass rfl rfl rfl ⟨_, _, rfl, rfl, rfl⟩ ?_
    refine L.pickF rfl rfl rfl rfl trivial ?_
    exact L.nil fun a w hh => hh.cutK 5 rfl
  refine L.move rfl rfl rfl trivial ?_
  refine' L.and [(false,19),(false,20),(false,21),(false,22)] [(false,23)] (s := 26) (p := 30) rfl rfl (fun hg3 => ?_) (fun hg3 => ?_) ?_
  rotate_left
  · refine L.fieldAddr rfl Tf.f43_1 rfl rfl ⟨_, rfl, rfl⟩ ?_
    refine L.loadB1 rfl Tf.a3 rfl (List.Mem.head _) rfl List.not_mem_nil rfl ⟨_, rfl, rfl⟩ ?_
    refine L.leq rfl rfl rfl rfl ⟨_, rfl, rfl⟩ ?_
    refine L.pickT rfl rfl rfl rfl trivial ?_
    exact L.nil fun a w hh => hh.cutK 3 rfl
  · refine L.pass rfl rfl rfl ⟨_, _, rfl, rfl, rfl⟩ ?_
    refine L.pass rfl rfl rfl ⟨_, _, rfl, rfl, rfl⟩ ?_
    refine L.pass rfl rfl rfl ⟨_, _, rfl, rfl, rfl⟩ ?_
    refine L.pickF rfl rfl rfl rfl trivial ?_
    exact L.nil fun a w hh => hh.cutK 3 rfl
  refine L.assign rfl rfl rfl trivial ?_
  refine L.nil ?_
  refine C.next ?_
  refine C.ret ?_
  exact leave (vs := [_]) rfl rfl rfl ⟨rfl, trivial⟩ (fun D hD => rfl)
theorem ways_ok (s n lo hi : Int) (D : Data) (h1 : -10 ≤ lo ∧ lo ≤ 10) (h2 : -10 ≤ hi ∧ hi ≤ 100) : Fn Try.prog 71 #[.int .i64 s, .int .i64 n, .int .i64 lo, .int .i64 hi] D (fun D' v => Sl D' RI 1 v (waysB s n lo hi)) := by
  refine enter 26 Try.func71 rfl rfl rfl rfl fun h0 => ?_
  refine C.seq ?_
  refine C.region [(false,0)] rfl ?_
  refine L.assign rfl rfl rfl trivial ?_
  refine L.nil ?_
  refine C.next ?_
  refine C.seq ?_
  refine C.seq ?_
  refine C.region [(false,0),(false,1),(false,2)] rfl ?_
  refine L.move rfl rfl rfl trivial ?_
  refine L.move rfl rfl rfl trivial ?_
  refine L.neq rfl rfl rfl rfl trivial ?_
  refine L.nil ?_
  refine C.next ?_
  refine C.condD rfl (fun hc1 => ?_) (fun hc1 => ?_)
  · refine C.seq ?_
    refine C.region [(false,0),(false,1),(false,2)] rfl ?_
    refine L.move rfl rfl rfl trivial ?_
    refine L.buildSlice rfl Try.underlying33 Tf.s3 Tf.z3 rfl rfl rfl rfl (.cons rfl rfl .nil) rfl trivial (fun b901 D901 hD901 hA901 => ?_)
    have hS901 := Sl.ofInts (l := [_]) (n := 1) (cap := 1) hA901 rfl (by omega) (by omega)
    refine L.assign rfl rfl rfl trivial ?_
    refine L.nil ?_
    refine C.next ?_
    refine C.ret ?_
    refine C.thenRet ?_
    exact leave (vs := [_]) rfl rfl rfl ⟨rfl, trivial⟩ (fun D hD => by rw [ways_one hc1]; exact hS901.up RI.up (hD _ (by simp)))
  · refine C.skip ?_
    refine C.next ?_
    refine C.seq ?_
    refine C.seq ?_
    refine C.region [(false,0),(false,1)] rfl ?_
    refine L.move rfl rfl rfl trivial ?_
    refine L.assign rfl rfl rfl trivial ?_
    refine L.nil ?_
    refine C.next ?_
    refine C.block ?_
    refine C.loopR (γ := Nat × Value × Boxes) (fun g => (hi + 1 - lo).toNat - g.1) (fun g => g.1 ≤ (hi + 1 - lo).toNat ∧ Acc 3 1 g.2.1 g.1 (ints (upTo lo g.1)) g.2.2) (fun g => [(8, g.2.1), (9, .int .i64 (lo + (g.1 : Int)))]) [(3, _)] (fun g => g.2.2 ++ []) (fun g => [D]) (0, .slice none 0 0, []) ⟨by simp, by simpa [ints, upTo] using Acc.nil⟩ ⟨(by first | rfl | (show some (Value.int _ _) = some (Value.int _ _); congr 2; omega)), (by first | rfl | (show some (Value.int _ _) = some (Value.int _ _); congr 2; omega)), trivial⟩ ⟨rfl, trivial⟩ (List.Sublist.refl _) (ds_same) ?_
    rintro ⟨k, v, ν⟩ ⟨h11, ha⟩
    simp only at h11 ha
    refine C.seq ?_
    refine C.seq ?_
    refine C.region [(false,0),(false,1),(false,2)] rfl ?_
    refine L.move rfl rfl rfl trivial ?_
    refine L.move rfl rfl rfl trivial ?_
    refine L.leq rfl rfl rfl rfl trivial ?_
    refine L.nil ?_
    refine C.next ?_
    refine C.condD rfl (fun hc2 => ?_) (fun hc2 => ?_)
    · simp only at hc2
      refine C.skip ?_
      refine C.next ?_
      refine C.seq ?_
      refine C.block ?_
      refine C.region [(false,0),(false,1),(false,2),(false,3),(false,4)] rfl ?_
      refine L.move rfl rfl rfl trivial ?_
      refine L.move rfl rfl rfl trivial ?_
      refine L.buildSlice rfl Try.underlying33 Tf.s3 Tf.z3 rfl rfl rfl rfl (.cons rfl rfl .nil) rfl trivial (fun b902 D902 hD902 hA902 => ?_)
      have hS902 := Sl.ofInts (l := [_]) (n := 1) (cap := 1) hA902 rfl (by omega) (by omega)
      refine L.append (A := []) (B := _) rfl Try.underlying33 rfl rfl Tf.s3 Tf.z3 rfl Tf.i3 rfl rfl rfl ha (Src.lit hA902) (by simp) rfl (by simp [upTo]) (by simp [cell1]) (by omega) (Or.inl rfl) rfl trivial (fun v1 ν1 ha1 => ?_)
      have ha2 : Acc 3 1 v1 (k + 1) (ints (upTo lo (k + 1))) ν1 := by unfold upTo; rw [List.range_succ, List.map_append, List.map_singleton, ← ints_append]; exact ha1
      refine L.assign rfl rfl rfl trivial ?_
      refine L.nil ?_
      refine C.blockEnd ?_
      refine C.next ?_
      refine C.region [(false,0),(false,1),(false,2)] rfl ?_
      refine L.move rfl rfl rfl trivial ?_
      refine L.add rfl rfl rfl (by simp only [inK]; omega) rfl trivial ?_
      refine L.assign rfl rfl rfl trivial ?_
      refine L.nil ?_
      exact C.againR 13 (k + 1, v1, ν1) ⟨by simp only; omega, ha2⟩ (by simp only; omega) ⟨rfl, (by show some (Value.int _ _) = some (Value.int _ _); congr 2; push_cast; omega), trivial⟩ rfl rfl (List.Sublist.refl _) (fun D h => ⟨D, List.Mem.tail _ (h), Le.refl D⟩)
    · have hk : k = (hi + 1 - lo).toNat := by simp only at hc2; omega
      rw [hk] at ha
      refine C.exit ?_
      refine C.thenExit ?_
      refine C.thenExit ?_
      refine C.blockExit ?_
      refine C.next ?_
      refine C.seq ?_
      refine C.region [(false,0),(false,1)] rfl ?_
      refine L.move rfl rfl rfl trivial ?_
      refine L.assign rfl rfl rfl trivial ?_
      refine L.nil ?_
      refine C.next ?_
      refine C.ret ?_
      refine Q.freeze (A := []) (B := []) ha rfl (fun D2 hD2 hF => ?_)
      exact leave (vs := [_]) rfl rfl rfl ⟨rfl, trivial⟩ (fun D hD => by rw [ways_all hc1]; exact (hF.ints (by simp [upTo]) (by omega)).up RI.up (hD _ (by simp)))
end Go.Fs
namespace Go.Fs
open Go.Proofs
open C3
def rd2 (n : Int) (l : Lin) (x c : Int) : List Lin := (waysB l.token (-1) 0 (n - 1)).map fun t => ⟨x, c, t⟩
def rd1 (n : Int) (l : Lin) (x : Int) : List Lin := (waysB l.chair (-1) 0 (n - 1)).flatMap (rd2 n l x)
def rdK (n : Int) (l : Lin) (k : Nat) : List Lin := ((waysB l.kind 0 1 2).take k).flatMap (rd1 n l)
def rdJ (n : Int) (l : Lin) (k : Nat) (x : Int) (j : Nat) : List Lin := rdK n l k ++ ((waysB l.chair (-1) 0 (n - 1)).take j).flatMap (rd2 n l x)
def rdI (n : Int) (l : Lin) (k : Nat) (x : Int) (j : Nat) (c : Int) (i : Nat) : List Lin := rdJ n l k x j ++ ((waysB l.token (-1) 0 (n - 1)).take i).map fun t => ⟨x, c, t⟩
theorem rdK_all {n : Int} {l : Lin} : rdK n l (waysB l.kind 0 1 2).length = readings n l := by unfold rdK; rw [List.take_length]; rfl
theorem rdJ_zero {n : Int} {l : Lin} {k : Nat} {x : Int} : rdJ n l k x 0 = rdK n l k := by unfold rdJ; simp
theorem rdI_zero {n : Int} {l : Lin} {k : Nat} {x : Int} {j : Nat} {c : Int} : rdI n l k x j c 0 = rdJ n l k x j := by unfold rdI; simp
theorem rdJ_all {n : Int} {l : Lin} {k : Nat} {x : Int} (h : (waysB l.kind 0 1 2)[k]? = some x) : rdJ n l k x (waysB l.chair (-1) 0 (n - 1)).length = rdK n l (k + 1) := by
  unfold rdJ rdK; rw [List.take_length, List.take_add_one, h, Option.toList_some, List.flatMap_append, List.flatMap_singleton]; rfl
theorem rdI_all {n : Int} {l : Lin} {k : Nat} {x : Int} {j : Nat} {c : Int} (h : (waysB l.chair (-1) 0 (n - 1))[j]? = some c) : rdI n l k x j c (waysB l.token (-1) 0 (n - 1)).length = rdJ n l k x (j + 1) := by
  unfold rdI rdJ; rw [List.take_length, List.take_add_one, h, Option.toList_some, List.flatMap_append, List.flatMap_singleton, List.append_assoc]; rfl
theorem rdI_step {n : Int} {l : Lin} {k : Nat} {x : Int} {j : Nat} {c : Int} {i : Nat} {t : Int} (h : (waysB l.token (-1) 0 (n - 1))[i]? = some t) : rdI n l k x j c (i + 1) = rdI n l k x j c i ++ [⟨x, c, t⟩] := by
  unfold rdI; rw [List.take_add_one, h, Option.toList_some, List.map_append, ← List.append_assoc]; rfl
theorem waysB_len {s none lo hi : Int} {m : Nat} (h : hi + 1 - lo ≤ m) (h1 : 1 ≤ m) : (waysB s none lo hi).length ≤ m := by
  unfold waysB
  split
  · simpa using h1
  · simp; omega
theorem flatMap_len {α β : Type} {f : α → List β} {m : Nat} : ∀ (l : List α), (∀ x ∈ l, (f x).length ≤ m) → (l.flatMap f).length ≤ l.length * m
  | [], _ => by simp
  | x :: l, h => by
    rw [List.flatMap_cons, List.length_append, List.length_cons, Nat.add_mul]
    have := flatMap_len l fun y hy => h y (List.mem_cons_of_mem _ hy)
    have := h x List.mem_cons_self
    omega
theorem rd2_len {n : Int} {l : Lin} (hn : n ≤ 4) (x c : Int) : (rd2 n l x c).length ≤ 4 := by unfold rd2; rw [List.length_map]; exact waysB_len (by omega) (by omega)
theorem rd1_len {n : Int} {l : Lin} (hn : n ≤ 4) (x : Int) : (rd1 n l x).length ≤ 16 := by
  unfold rd1
  have h1 := flatMap_len (m := 4) (f := rd2 n l x) (waysB l.chair (-1) 0 (n - 1)) fun c _ => rd2_len hn x c
  have h2 := waysB_len (s := l.chair) (none := -1) (lo := 0) (hi := n - 1) (m := 4) (by omega) (by omega)
  omega
theorem rdK_len {n : Int} {l : Lin} (hn : n ≤ 4) (k : Nat) : (rdK n l k).length ≤ 32 := by
  unfold rdK
  have h1 := flatMap_len (m := 16) (f := rd1 n l) ((waysB l.kind 0 1 2).take k) fun x _ => rd1_len hn x
  have h2 := waysB_len (s := l.kind) (none := 0) (lo := 1) (hi := 2) (m := 2) (by omega) (by omega)
  have h3 : ((waysB l.kind 0 1 2).take k).length ≤ (waysB l.kind 0 1 2).length := by rw [List.length_take]; omega
  omega
theorem rd_len {n : Int} {l : Lin} (hn : n ≤ 4) : (readings n l).length ≤ 32 := by rw [← rdK_all]; exact rdK_len hn _
theorem rdI_len {n : Int} {l : Lin} {k : Nat} {x : Int} {j : Nat} {c : Int} {i : Nat} (hn : n ≤ 4) : (rdI n l k x j c i).length ≤ 60 := by
  unfold rdI rdJ
  rw [List.length_append, List.length_append, List.length_map]
  have h0 := rdK_len (l := l) hn k
  have h1 := flatMap_len (m := 4) (f := rd2 n l x) ((waysB l.chair (-1) 0 (n - 1)).take j) fun c _ => rd2_len hn x c
  have h2 := waysB_len (s := l.chair) (none := -1) (lo := 0) (hi := n - 1) (m := 4) (by omega) (by omega)
  have h3 := waysB_len (s := l.token) (none := -1) (lo := 0) (hi := n - 1) (m := 4) (by omega) (by omega)
  have h4 : ((waysB l.chair (-1) 0 (n - 1)).take j).length ≤ 4 := by rw [List.length_take]; omega
  have h5 : ((waysB l.token (-1) 0 (n - 1)).take i).length ≤ 4 := by rw [List.length_take]; omega
  omega
def linC (l : List Lin) : List Value := l.flatMap fun x => [.int .i64 x.kind, .int .i64 x.chair, .int .i64 x.token]
theorem linC_len (l : List Lin) : (linC l).length = l.length * 3 := by
  induction l with
  | nil => rfl
  | cons c l ih => unfold linC at ih ⊢; rw [List.flatMap_cons, List.length_append, ih]; simp only [List.length_cons, List.length_nil]; omega
theorem linC_get {l : List Lin} {i : Nat} {c : Lin} (hi : l[i]? = some c) : ((linC l).drop (i * 3)).take 3 = [.int .i64 c.kind, .int .i64 c.chair, .int .i64 c.token] := by
  induction l generalizing i with
  | nil => simp at hi
  | cons d l ih =>
    unfold linC at ih ⊢
    rw [List.flatMap_cons]
    cases i with
    | zero => obtain rfl : d = c := by simpa using hi
              rfl
    | succ i =>
      rw [List.drop_append, List.drop_eq_nil_of_le (by simp; omega), List.nil_append]
      have : (i + 1) * 3 - [Value.int .i64 d.kind, Value.int .i64 d.chair, Value.int .i64 d.token].length = i * 3 := by simp; omega
      rw [this]; exact ih (by simpa using hi)
theorem Froz.lins {D : Data} {v : Value} {n : Nat} {l : List Lin} (hF : Froz D v n (linC l)) (hn : l.length = n) (hb : n ≤ 9223372036854775807) : Sl D RLin 3 v l :=
  hF.sl hn hb fun _i _t hi => ⟨_, rfl, rfl, linC_get hi⟩
theorem readings_ok (bv : Value) (b : BookD) (l : Lin) (D : Data) (hb : BookIs D bv b) (hn : 1 ≤ b.chairs ∧ b.chairs ≤ 4) : Fn Try.prog 48 #[bv, linV l] D (fun D' v => Sl D' RLin 3 v (readings b.chairs l)) := by
  obtain ⟨lv, cv, rfl, hl, hc⟩ := hb
  refine enter 52 Try.func48 rfl rfl rfl rfl fun h0 => ?_
  refine C.seq ?_
  refine C.region [(false,0),(false,1),(false,2)] rfl ?_
  refine L.boxD rfl rfl rfl rfl trivial (fun q1 E1 hE1 hB1 => ?_)
  refine L.boxD rfl rfl rfl rfl trivial (fun q2 E2 hE2 hB2 => ?_)
  refine L.assign rfl rfl rfl trivial ?_
  refine L.nil ?_
  refine C.next ?_
  refine C.seq ?_
  refine C.seq ?_
  refine C.region [(false,0),(false,1),(false,2),(false,3),(false,4)] rfl ?_
  refine L.fieldAddr rfl Tf.f64_0 rfl rfl trivial ?_
  refine L.loadD1 rfl (k := 0) Tf.a3 rfl hB2 (by first | simp | assumption) rfl List.not_mem_nil rfl trivial ?_
  refine L.call rfl rfl rfl (fun D1 hD1 => ways_ok _ _ _ _ _ (by omega) (by omega)) rfl trivial (fun v1 D1 hD1 hp1 => ?_)
  have hw1 := hp1
  refine L.len rfl Try.underlying33 rfl hw1 rfl rfl trivial ?_
  refine L.move rfl rfl rfl trivial ?_
  refine L.nil ?_
  refine C.next ?_
  refine C.block ?_
  refine C.loopR (γ := Nat × Value × Boxes) (fun g => (waysB l.kind 0 1 2).length - g.1) (fun g => g.1 ≤ (waysB l.kind 0 1 2).length ∧ Acc 64 3 g.2.1 (rdK b.chairs l g.1).length (linC (rdK b.chairs l g.1)) g.2.2) (fun g => [(4, g.2.1), (15, .int .i64 (g.1 : Int))]) [(14, _), (13, _), (3, _), (2, _)] (fun g => g.2.2 ++ []) (fun g => [D1, E2, E1, D]) (0, .slice none 0 0, []) ⟨by simp, Acc.nil⟩ ⟨(by first | rfl | (show some (Value.int _ _) = some (Value.int _ _); congr 2; omega)), (by first | rfl | (show some (Value.int _ _) = some (Value.int _ _); congr 2; omega)), trivial⟩ ⟨rfl, rfl, rfl, rfl, trivial⟩ (List.Sublist.refl _) (ds_same) ?_
  rintro ⟨k, v, ν⟩ ⟨h1, ha1⟩
  simp only at h1 ha1
  refine C.seq ?_
  refine C.region [(false,0)] rfl ?_
  refine L.lss rfl rfl rfl rfl trivial ?_
  refine L.nil ?_
  refine C.next ?_
  refine C.seq ?_
  refine C.condD rfl (fun hc1 => ?_) (fun hc1 => ?_)
  · simp only at hc1
    have hlw1 := hw1.len
    obtain ⟨x, hx1⟩ : ∃ x, (waysB l.kind 0 1 2)[k]? = some x := ⟨_, List.getElem?_eq_getElem (by omega)⟩
    refine C.skip ?_
    refine C.next ?_
    refine C.seq ?_
    refine C.block ?_
    refine C.seq ?_
    refine C.region [(false,0),(false,1),(false,2)] rfl ?_
    refine L.indexS rfl Try.underlying33 Tf.s3 rfl hw1 rfl (by omega) hx1 rfl trivial (fun b1 o1 cs1 hr1 hcl1 hA1 => ?_)
    obtain rfl : cs1 = [.int .i64 _] := hr1
    refine L.loadD1 rfl (k := 0) Tf.a3 rfl hA1 (by first | simp | assumption) rfl List.not_mem_nil rfl trivial ?_
    refine L.assign rfl rfl rfl trivial ?_
    refine L.nil ?_
    refine C.next ?_
    refine C.seq ?_
    refine C.region [(false,0),(false,1),(false,2),(false,3),(false,4),(false,5),(false,6),(false,7)] rfl ?_
    refine L.fieldAddr rfl Tf.f64_1 rfl rfl trivial ?_
    refine L.loadD1 rfl (k := 1) Tf.a3 rfl hB2 (by first | simp | assumption) rfl List.not_mem_nil rfl trivial ?_
    refine L.fieldAddr rfl Tf.f40_0 rfl rfl trivial ?_
    refine L.loadD1 rfl (k := 0) Tf.a3 rfl hB1 (by first | simp | assumption) rfl List.not_mem_nil rfl trivial ?_
    refine L.sub rfl rfl rfl (by simp only [inK]; omega) rfl trivial ?_
    refine L.call rfl rfl rfl (fun D2 hD2 => ways_ok _ _ _ _ _ (by omega) (by omega)) rfl trivial (fun v2 D2 hD2 hp2 => ?_)
    have hw2 := hp2
    refine L.len rfl Try.underlying33 rfl hw2 rfl rfl trivial ?_
    refine L.move rfl rfl rfl trivial ?_
    refine L.nil ?_
    refine C.next ?_
    refine C.block ?_
    refine C.loopR (γ := Nat × Value × Boxes) (fun g => (waysB l.chair (-1) 0 (b.chairs - 1)).length - g.1) (fun g => g.1 ≤ (waysB l.chair (-1) 0 (b.chairs - 1)).length ∧ Acc 64 3 g.2.1 (rdJ b.chairs l k x g.1).length (linC (rdJ b.chairs l k x g.1)) g.2.2) (fun g => [(4, g.2.1), (26, .int .i64 (g.1 : Int))]) [(25, _), (24, _), (23, _), (22, _), (21, _), (20, _), (19, _), (6, _), (18, _), (17, _), (16, _), (15, _), (14, _), (13, _), (3, _), (2, _)] (fun g => g.2.2 ++ []) (fun g => [D2, D1, E2, E1, D]) (0, v, ν) ⟨by simp, by rw [rdJ_zero]; exact ha1⟩ ⟨(by first | rfl | (show some (Value.int _ _) = some (Value.int _ _); congr 2; omega)), (by first | rfl | (show some (Value.int _ _) = some (Value.int _ _); congr 2; omega)), trivial⟩ ⟨rfl, rfl, rfl, rfl, rfl, rfl, rfl, rfl, rfl, rfl, rfl, rfl, rfl, rfl, rfl, rfl, trivial⟩ (List.Sublist.refl _) (ds_same) ?_
    rintro ⟨j, w, ν2⟩ ⟨h2, haJ⟩
    simp only at h2 haJ
    refine C.seq ?_
    refine C.region [(false,0)] rfl ?_
    refine L.lss rfl rfl rfl rfl trivial ?_
    refine L.nil ?_
    refine C.next ?_
    refine C.seq ?_
    refine C.condD rfl (fun hc2 => ?_) (fun hc2 => ?_)
    · simp only at hc2
      have hlw2 := hw2.len
      obtain ⟨c, hx2⟩ : ∃ x, (waysB l.chair (-1) 0 (b.chairs - 1))[j]? = some x := ⟨_, List.getElem?_eq_getElem (by omega)⟩
      refine C.skip ?_
      refine C.next ?_
      refine C.seq ?_
      refine C.block ?_
      refine C.seq ?_
      refine C.region [(false,0),(false,1),(false,2)] rfl ?_
      refine L.indexS rfl Try.underlying33 Tf.s3 rfl hw2 rfl (by omega) hx2 rfl trivial (fun b2 o2 cs2 hr2 hcl2 hA2 => ?_)
      obtain rfl : cs2 = [.int .i64 _] := hr2
      refine L.loadD1 rfl (k := 0) Tf.a3 rfl hA2 (by first | simp | assumption) rfl List.not_mem_nil rfl trivial ?_
      refine L.assign rfl rfl rfl trivial ?_
      refine L.nil ?_
      refine C.next ?_
      refine C.seq ?_
      refine C.region [(false,0),(false,1),(false,2),(false,3),(false,4),(false,5),(false,6),(false,7)] rfl ?_
      refine L.fieldAddr rfl Tf.f64_2 rfl rfl trivial ?_
      refine L.loadD1 rfl (k := 2) Tf.a3 rfl hB2 (by first | simp | assumption) rfl List.not_mem_nil rfl trivial ?_
      refine L.fieldAddr rfl Tf.f40_0 rfl rfl trivial ?_
      refine L.loadD1 rfl (k := 0) Tf.a3 rfl hB1 (by first | simp | assumption) rfl List.not_mem_nil rfl trivial ?_
      refine L.sub rfl rfl rfl (by simp only [inK]; omega) rfl trivial ?_
      refine L.call rfl rfl rfl (fun D3 hD3 => ways_ok _ _ _ _ _ (by omega) (by omega)) rfl trivial (fun v3 D3 hD3 hp3 => ?_)
      have hw3 := hp3
      refine L.len rfl Try.underlying33 rfl hw3 rfl rfl trivial ?_
      refine L.move rfl rfl rfl trivial ?_
      refine L.nil ?_
      refine C.next ?_
      refine C.block ?_
      refine C.loopR (γ := Nat × Value × Boxes) (fun g => (waysB l.token (-1) 0 (b.chairs - 1)).length - g.1) (fun g => g.1 ≤ (waysB l.token (-1) 0 (b.chairs - 1)).length ∧ Acc 64 3 g.2.1 (rdI b.chairs l k x j c g.1).length (linC (rdI b.chairs l k x j c g.1)) g.2.2) (fun g => [(4, g.2.1), (37, .int .i64 (g.1 : Int))]) [(36, _), (35, _), (34, _), (33, _), (32, _), (31, _), (30, _), (8, _), (29, _), (28, _), (27, _), (26, _), (25, _), (24, _), (23, _), (22, _), (21, _), (20, _), (19, _), (6, _), (18, _), (17, _), (16, _), (15, _), (14, _), (13, _), (3, _), (2, _)] (fun g => g.2.2 ++ []) (fun g => [D3, D2, D1, E2, E1, D]) (0, w, ν2) ⟨by simp, by rw [rdI_zero]; exact haJ⟩ ⟨(by first | rfl | (show some (Value.int _ _) = some (Value.int _ _); congr 2; omega)), (by first | rfl | (show some (Value.int _ _) = some (Value.int _ _); congr 2; omega)), trivial⟩ ⟨rfl, rfl, rfl, rfl, rfl, rfl, rfl, rfl, rfl, rfl, rfl, rfl, rfl, rfl, rfl, rfl, rfl, rfl, rfl, rfl, rfl, rfl, rfl, rfl, rfl, rfl, rfl, rfl, trivial⟩ (List.Sublist.refl _) (ds_same) ?_
      rintro ⟨i, u, ν3⟩ ⟨h3, haI⟩
      simp only at h3 haI
      refine C.seq ?_
      refine C.region [(false,0)] rfl ?_
      refine L.lss rfl rfl rfl rfl trivial ?_
      refine L.nil ?_
      refine C.next ?_
      refine C.seq ?_
      refine C.condD rfl (fun hc3 => ?_) (fun hc3 => ?_)
      · simp only at hc3
        have hlw3 := hw3.len
        obtain ⟨t, hx3⟩ : ∃ x, (waysB l.token (-1) 0 (b.chairs - 1))[i]? = some x := ⟨_, List.getElem?_eq_getElem (by omega)⟩
        refine C.skip ?_
        refine C.next ?_
        refine C.seq ?_
        refine C.block ?_
        refine C.seq ?_
        refine C.region [(false,0),(false,1),(false,2)] rfl ?_
        refine L.indexS rfl Try.underlying33 Tf.s3 rfl hw3 rfl (by omega) hx3 rfl trivial (fun b3 o3 cs3 hr3 hcl3 hA3 => ?_)
        obtain rfl : cs3 = [.int .i64 _] := hr3
        refine L.loadD1 rfl (k := 0) Tf.a3 rfl hA3 (by first | simp | assumption) rfl List.not_mem_nil rfl trivial ?_
        refine L.assign rfl rfl rfl trivial ?_
        refine L.nil ?_
        refine C.next ?_
        refine C.region [(false,0),(false,1),(false,2),(false,3),(false,4),(false,5),(false,6),(false,7)] rfl ?_
        refine L.move rfl rfl rfl trivial ?_
        refine L.move rfl rfl rfl trivial ?_
        refine L.move rfl rfl rfl trivial ?_
        refine L.move rfl rfl rfl trivial ?_
        refine L.build (cs := [.int .i64 x, .int .i64 c, .int .i64 t]) rfl Tf.p64 Tf.z64 rfl rfl rfl trivial ?_
        refine L.buildSlice rfl Try.underlying37 Tf.s64 Tf.z64 rfl rfl rfl rfl (.cons rfl rfl .nil) rfl trivial (fun b901 D901 hD901 hA901 => ?_)
        have hli := rdI_len (n := b.chairs) (l := l) (k := k) (x := x) (j := j) (c := c) (i := i) (by omega)
        refine L.append (A := []) (B := []) rfl Try.underlying37 rfl rfl Tf.s64 Tf.z64 rfl Tf.i64 rfl rfl rfl haI (Src.lit hA901) (by simp) rfl (linC_len _) (by simp [cell1]) (by omega) (Or.inl rfl) rfl trivial (fun v7 ν7 ha7 => ?_)
        have hn7 : Acc 64 3 v7 (rdI b.chairs l k x j c (i + 1)).length (linC (rdI b.chairs l k x j c (i + 1))) ν7 := by rw [rdI_step hx3]; simpa [linC] using ha7
        refine L.assign rfl rfl rfl trivial ?_
        refine L.nil ?_
        refine C.blockEnd ?_
        refine C.next ?_
        refine C.region [(false,0),(false,1)] rfl ?_
        refine L.add rfl rfl rfl (by simp only [inK]; omega) rfl trivial ?_
        refine L.move rfl rfl rfl trivial ?_
        refine L.nil ?_
        exact C.againR 16 (i + 1, v7, ν7) ⟨by simp only; omega, hn7⟩ (by simp only; omega) ⟨(by first | rfl | (show some (Value.int _ _) = some (Value.int _ _); congr 2; omega)), (by first | rfl | (show some (Value.int _ _) = some (Value.int _ _); congr 2; omega)), trivial⟩ rfl rfl (List.Sublist.refl _) (fun D h => ⟨D, List.Mem.tail _ (h), Le.refl D⟩)
      · have hi : i = (waysB l.token (-1) 0 (b.chairs - 1)).length := by simp only at hc3; omega
        rw [hi, rdI_all hx2] at haI
        refine C.exit ?_
        refine C.thenExit ?_
        refine C.thenExit ?_
        refine C.blockExit ?_
        refine C.blockEnd ?_
        refine C.next ?_
        refine C.region [(false,0),(false,1)] rfl ?_
        refine L.add rfl rfl rfl (by simp only [inK]; omega) rfl trivial ?_
        refine L.move rfl rfl rfl trivial ?_
        refine L.nil ?_
        exact C.againR 17 (j + 1, u, ν3) ⟨by simp only; omega, haI⟩ (by simp only; omega) ⟨(by first | rfl | (show some (Value.int _ _) = some (Value.int _ _); congr 2; omega)), (by first | rfl | (show some (Value.int _ _) = some (Value.int _ _); congr 2; omega)), trivial⟩ rfl rfl (List.Sublist.refl _) (fun D h => ⟨D, List.Mem.tail _ (h), Le.refl D⟩)
    · have hj : j = (waysB l.chair (-1) 0 (b.chairs - 1)).length := by simp only at hc2; omega
      rw [hj, rdJ_all hx1] at haJ
      refine C.exit ?_
      refine C.thenExit ?_
      refine C.thenExit ?_
      refine C.blockExit ?_
      refine C.blockEnd ?_
      refine C.next ?_
      refine C.region [(false,0),(false,1)] rfl ?_
      refine L.add rfl rfl rfl (by simp only [inK]; omega) rfl trivial ?_
      refine L.move rfl rfl rfl trivial ?_
      refine L.nil ?_
      exact C.againR 17 (k + 1, w, ν2) ⟨by simp only; omega, haJ⟩ (by simp only; omega) ⟨(by first | rfl | (show some (Value.int _ _) = some (Value.int _ _); congr 2; omega)), (by first | rfl | (show some (Value.int _ _) = some (Value.int _ _); congr 2; omega)), trivial⟩ rfl rfl (List.Sublist.refl _) (fun D h => ⟨D, List.Mem.tail _ (h), Le.refl D⟩)
  · have hk : k = (waysB l.kind 0 1 2).length := by simp only at hc1; omega
    rw [hk, rdK_all] at ha1
    refine C.exit ?_
    refine C.thenExit ?_
    refine C.thenExit ?_
    refine C.blockExit ?_
    refine C.next ?_
    refine C.seq ?_
    refine C.region [(false,0),(false,1)] rfl ?_
    refine L.move rfl rfl rfl trivial ?_
    refine L.assign rfl rfl rfl trivial ?_
    refine L.nil ?_
    refine C.next ?_
    refine C.ret ?_
    refine Q.freeze (A := []) (B := []) ha1 rfl (fun D2 hD2 hF => ?_)
    exact leave (vs := [_]) rfl rfl rfl ⟨rfl, trivial⟩ (fun D hD => (hF.lins rfl (by have := rd_len (l := l) hn.2; omega)).up RLin.up (hD _ (by simp)))
end Go.Fs
