/- Of the proof of TopStand: V10. -/
import Derived.Test.YtjbdakpeheajgaaZTopStandH
namespace Go.Fs
open Go.Proofs
section
variable {P : Program} {X : Cx} {γb : Type} [Membership Nat γb] {bad : γb} {all : Array Oper} {K : Act → World → Prop} {Q : Exit → Act → World → Prop}
variable {σ : Slots} {μ : Boxes} {Ds : List Data} {os : List (Bool × Nat)}
theorem L.nd (k : (μ.map fun p => p.1).Nodup → WL P X bad all K Q os σ μ Ds) : WL P X bad all K Q os σ μ Ds := fun a w hh => by
  obtain ⟨_, _, _, D, hs, _⟩ := id hh
  exact k hs.nd a w hh
end
theorem apart3 {w q1 q3 q4 : Nat} {o o3 : Obj} {R : Boxes} (h1 : w ∉ Boxes.ks ((q4, o) :: (q3, o3) :: R)) (h2 : q1 ∉ Boxes.ks ((q4, o) :: (q3, o3) :: R)) (h3 : (((q4, o) :: (q3, o3) :: R).map fun p => p.1).Nodup) : q4 ∉ [w, q1, q3] := by
  simp only [List.map_cons, List.nodup_cons, List.mem_cons, not_or] at h1 h2 h3
  intro h
  simp only [List.mem_cons, List.not_mem_nil, or_false] at h
  rcases h with rfl | rfl | rfl
  · exact h1.1 rfl
  · exact h2.1 rfl
  · exact h3.1.1 rfl
open C3
def MoOk (b : BookD) (Mm : List (Ints 9 × Bool)) : Prop := ∀ p ∈ Mm, ∀ (i : Nat) (s : Sc), MInv b s → Pos s → s.ch.length = 4 → p.1.l = momL s i → p.2 = endsB b (b.lines.drop i) i s
theorem MoOk.nil {b : BookD} : MoOk b [] := fun p hp => by cases hp
theorem MoOk.add {b : BookD} {Mm M' : List (Ints 9 × Bool)} {i : Nat} {s : Sc} {a : Ints 9} {r : Bool} (h : MoOk b Mm) (hm : ∀ p ∈ M', p ∈ Mm ∨ p = (a, r)) (ha : a.l = momL s i) (hi : MInv b s) (hp : Pos s) (h4 : s.ch.length = 4) (hr : r = endsB b (b.lines.drop i) i s) : MoOk b M' := by
  intro p hp' i' s' hi' hps' h4' he
  rcases hm p hp' with h1 | h1
  · exact h p h1 i' s' hi' hps' h4' he
  · subst h1
    simp only at he ⊢
    rw [ha] at he
    obtain ⟨e1, e2⟩ := ends_mom (ls := b.lines.drop i) he hi hi' hp hps' h4 h4'
    rw [hr, ← e1]
    exact e2.trans (by rw [← e1])
theorem book_eq {a c d : Value} {lv cv lv' cv' : Value} (h : Value.agg #[a, c, d, lv, cv] = .agg #[a, c, d, lv', cv']) : lv = lv' ∧ cv = cv' := by
  simp at h; exact h
theorem ends_no {b : BookD} {ls : List Lin} {i : Nat} {s : Sc} (h : countedB b s i = false) : endsB b ls i s = false := by
  cases ls with
  | nil => exact h
  | cons l ls => unfold endsB; rw [h]; rfl
theorem ends_all {b : BookD} {i : Nat} {s : Sc} (h : countedB b s i = true) (hi : (i : Int) = (b.lines.length : Int)) : endsB b (b.lines.drop i) i s = true := by
  rw [List.drop_eq_nil_of_le (by omega)]; exact h
def goB (b : BookD) (i : Nat) (s : Sc) (r : Lin) : Bool := canN s r && endsB b (b.lines.drop (i + 1)) (i + 1) (nextN b s i r)
theorem go_yes {b : BookD} {i : Nat} {s : Sc} {r : Lin} (h : canN s r = true) : endsB b (b.lines.drop (i + 1)) (i + 1) (nextN b s i r) = goB b i s r := by unfold goB; rw [h]; rfl
theorem go_no {b : BookD} {i : Nat} {s : Sc} {r : Lin} (h : canN s r = false) : false = goB b i s r := by unfold goB; rw [h]; rfl
theorem nx_len {b : BookD} {s : Sc} {i : Int} {r : Lin} (h4 : s.ch.length = 4) (h5 : s.tk.length = 4) : (scL (nextN b s i r)).length = 10 := by
  unfold nextN
  split
  · exact scL_len (by simp [h4]) (by simp [h5])
  · exact scL_len (by simp [h4]) (by simp [h5])
theorem unf_m {mb cl : Nat} {es : Array MapEntry} : ∀ p ∈ [(mb, Obj.map es cl)], unfrozen p.2 := by
  intro p hp
  simp only [List.mem_cons, List.not_mem_nil, or_false] at hp
  subst hp; trivial
set_option maxHeartbeats 1000000 in
theorem ends_ok {b : BookD} {bv lv cv : Value} {wb mb : Nat} (hbo : BOk b) (hbv : bv = .agg #[.int .i64 b.chairs, .int .i64 b.coin, .int .i64 b.box, lv, cv]) :
    ∀ (j i : Nat) (s : Sc) (es : Array MapEntry) (cl : Nat) (Mm : List (Ints 9 × Bool)) (D : Data), i + j = b.lines.length → ScB b s i → Pos s → MInv b s → MapV kaV Value.bool es Mm → MoOk b Mm → BookIs D bv b → At D wb 0 [.int .i64 b.chairs, .int .i64 b.coin, .int .i64 b.box, lv, cv, .map (some mb)] →
    FnM Try.prog 62 [.pointer (some ⟨wb, 0, none⟩), scV s, .int .i64 (i : Int)] D [(mb, .map es cl)] (fun _ v ν' => v = .bool (endsB b (b.lines.drop i) i s) ∧ ∃ es' cl' M', ν' = [(mb, .map es' cl')] ∧ MapV kaV Value.bool es' M' ∧ MoOk b M') := by
  subst hbv
  intro j
  induction j using Nat.strongRecOn with
  | _ j ih =>
  intro i s es cl Mm D hij hsb hsp hsi hM hok hb0 hA
  obtain ⟨ch, tk, mo, mi⟩ := s
  obtain ⟨c0, c1, c2, c3, rfl⟩ := four hsb.lc
  obtain ⟨k0, k1, k2, k3, rfl⟩ := four hsb.lt
  have hb := hb0
  obtain ⟨lv', cv', he, hl, hc⟩ := hb
  obtain ⟨rfl, rfl⟩ := book_eq he
  have hl8 := hbo.l8
  have hch := hbo.ch
  have hco := hbo.co
  have hbx := hbo.bx
  have hmo := hsb.mo
  have hmi := hsb.mi
  simp only at hmo hmi
  show FnM _ _ [.pointer (some ⟨wb, 0, none⟩), .agg #[.int .i64 c0, .int .i64 c1, .int .i64 c2, .int .i64 c3, .int .i64 k0, .int .i64 k1, .int .i64 k2, .int .i64 k3, .int .i64 mo, .int .i64 mi], .int .i64 (i : Int)] _ _ _
  refine enterMany 94 Try.func62 rfl rfl rfl rfl (fun h0 hwl hwn => ?_)
  refine C.seq ?_
  refine C.region [(false,0),(false,1)] rfl ?_
  refine L.boxD rfl rfl rfl rfl trivial (fun q1 E1 hE1 hB1 => ?_)
  refine L.assign rfl rfl rfl trivial ?_
  refine L.nil ?_
  refine C.next ?_
  refine C.seq ?_
  refine C.seq ?_
  refine C.draw [] 5 [0,1,2,3,4,5,6,7] [false,false,false,false,true,true,false,false] [(false,0),(false,1),(false,2),(false,3),(true,4),(true,5),(false,6),(false,7)] Tf.follows (fun _ _ _ h => np_bodyMany (P := Try.prog) (fn := Try.f62) _ _ _ h) (by kernel_rfl) rfl ?_
  refine L.move rfl rfl rfl trivial ?_
  refine L.nilCheck rfl rfl rfl trivial ?_
  refine L.fieldAddr rfl Tf.f139_0 rfl rfl trivial ?_
  refine L.loadDP rfl (k := 0) Tf.a40 Tf.s40 rfl hA (by first | simp | assumption) rfl rfl List.not_mem_nil rfl trivial ?_
  refine L.loadDW rfl Tf.a80 rfl hB1 (by first | simp | assumption) Tf.s80 List.not_mem_nil rfl trivial ?_
  refine L.move rfl rfl rfl trivial ?_
  refine L.callV rfl rfl rfl (fun D1 hD1 => counted_ok _ b (⟨[c0, c1, c2, c3], [k0, k1, k2, k3], mo, mi⟩ : Sc) i _ (hb0.up (hD1 _ (by simp))) rfl rfl) rfl trivial ?_
  refine L.not rfl rfl rfl trivial ?_
  refine L.nil ?_
  refine C.next ?_
  refine C.cond rfl (fun hc1 => ?_) (fun hc1 => ?_)
  · refine C.seq ?_
    refine C.region [(false,0)] rfl ?_
    refine L.assign rfl rfl rfl trivial ?_
    refine L.nil ?_
    refine C.next ?_
    refine C.ret ?_
    refine C.thenRet ?_
    exact leaveMany (A := []) (ν' := [_]) (B := []) (vs := [_]) rfl rfl rfl ⟨rfl, trivial⟩ rfl (fun D' hD => ⟨congrArg Value.bool (ends_no (by simpa using hc1)).symm, es, cl, Mm, rfl, hM, hok⟩)
  · have hcd : countedB b (⟨[c0, c1, c2, c3], [k0, k1, k2, k3], mo, mi⟩ : Sc) i = true := by simpa using hc1
    refine C.skip ?_
    refine C.next ?_
    refine C.seq ?_
    refine C.seq ?_
    refine C.region [(false,0),(false,1),(false,2),(false,3),(false,4),(false,5),(false,6),(false,7)] rfl ?_
    refine L.move rfl rfl rfl trivial ?_
    refine L.move rfl rfl rfl trivial ?_
    refine L.nilCheck rfl rfl rfl trivial ?_
    refine L.fieldAddr rfl Tf.f139_0 rfl rfl trivial ?_
    refine L.fieldAddr rfl Tf.f40_3 rfl rfl trivial ?_
    refine L.loadD1 rfl (k := 3) Tf.a37 rfl hA (by first | simp | assumption) rfl List.not_mem_nil rfl trivial ?_
    refine L.len rfl Try.underlying37 rfl hl rfl rfl trivial ?_
    refine L.eql rfl rfl rfl rfl trivial ?_
    refine L.nil ?_
    refine C.next ?_
    refine C.condD rfl (fun hc2 => ?_) (fun hc2 => ?_)
    · refine C.seq ?_
      refine C.region [(false,0)] rfl ?_
      refine L.assign rfl rfl rfl trivial ?_
      refine L.nil ?_
      refine C.next ?_
      refine C.ret ?_
      refine C.thenRet ?_
      exact leaveMany (A := []) (ν' := [_]) (B := []) (vs := [_]) rfl rfl rfl ⟨rfl, trivial⟩ rfl (fun D' hD => ⟨congrArg Value.bool (ends_all hcd hc2).symm, es, cl, Mm, rfl, hM, hok⟩)
    · have hil : i < b.lines.length := by omega
      obtain ⟨z, hz⟩ : ∃ z, b.lines[i]? = some z := ⟨_, List.getElem?_eq_getElem hil⟩
      have hdr : b.lines.drop i = z :: b.lines.drop (i + 1) := by rw [List.drop_eq_getElem_cons hil]; congr 1; exact Option.some.inj ((List.getElem?_eq_getElem hil).symm.trans hz)
      refine C.skip ?_
      refine C.next ?_
      refine C.seq ?_
      refine C.drawS [] 3 [false,true,true,true,true,true,true,false,true,false] [.fork [0,1,2,4,5] 3 (.fork [] 6 (.fin [7,8]) 8 (.fin [6,7])) 8 (.fin [3,6,7]), .fin [9]] Tf.follows (fun _ _ _ h => np_bodyMany (P := Try.prog) (fn := Try.f62) _ _ _ h) (by kernel_rfl) ?_
      refine S.cons ?_
      refine L.planFork [(false,0),(true,1),(true,2),(true,4),(true,5)] rfl ?_
      refine L.move rfl rfl rfl trivial ?_
      refine L.fieldAddr rfl Tf.f80_0 rfl rfl trivial ?_
      refine L.loadDP rfl (k := 0) Tf.a78 Tf.s78 rfl hB1 (by first | simp | assumption) rfl rfl List.not_mem_nil rfl trivial ?_
      refine L.fieldAddr rfl Tf.f80_1 rfl rfl trivial ?_
      refine L.loadDP rfl (k := 4) Tf.a78 Tf.s78 rfl hB1 (by first | simp | assumption) rfl rfl List.not_mem_nil rfl trivial ?_
      refine L.nil (L.forkP true true rfl rfl ?_ ?_)
      · refine L.callV rfl rfl rfl (fun D2 hD2 => out_ok [c0, c1, c2, c3] _ rfl) rfl trivial ?_
        refine L.nil ?_
        refine L.planFork [] rfl ?_
        refine L.nil (L.forkP true true rfl rfl ?_ ?_)
        · refine L.callV rfl rfl rfl (fun D3 hD3 => out_ok [k0, k1, k2, k3] _ rfl) rfl trivial ?_
          refine L.nil ?_
          refine L.planFin [(false,7),(true,8)] rfl ?_
          refine L.build (cs := [.int .i64 (i : Int), .int .i64 (min c0 1), .int .i64 (min c1 1), .int .i64 (min c2 1), .int .i64 (min c3 1), .int .i64 (min k0 1), .int .i64 (min k1 1), .int .i64 (min k2 1), .int .i64 (min k3 1)]) rfl Tf.p151 Tf.z151 rfl (by kernel_rfl) rfl trivial ?_
          refine L.alloc rfl Tf.z151 rfl rfl trivial (fun q2 => ?_)
          refine L.nil ?_
          refine S.fin [(false,9)] rfl ?_
          refine L.storeW rfl rfl rfl rfl Tf.s151 (by first | rfl | (simp only [ints_length, *]; done) | (simp only [ints_length, *]; rfl) | (simp only [ints_length, *]; omega)) (by first | rfl | (simp only [ints_length, *]; done) | (simp only [ints_length, *]; rfl) | (simp only [ints_length, *]; omega)) (Has.head) (by first | exact ints_cell1 _ | simp [cell1]) trivial ?_
          refine L.nil ?_
          refine S.nil ?_
          refine C.next ?_
          refine C.seq ?_
          refine C.draw [] 6 [0,1,2,3,4,5,6,7,8,9,10] [false,false,false,false,true,false,false,false,true,true,false] [(false,0),(false,1),(false,2),(false,3),(true,4),(false,5),(false,6),(false,7),(true,8),(true,9),(false,10)] Tf.follows (fun _ _ _ h => np_bodyMany (P := Try.prog) (fn := Try.f62) _ _ _ h) (by kernel_rfl) rfl ?_
          refine L.move rfl rfl rfl trivial ?_
          refine L.nilCheck rfl rfl rfl trivial ?_
          refine L.fieldAddr rfl Tf.f139_1 rfl rfl trivial ?_
          refine L.loadD1 rfl (k := 5) Tf.a137 rfl hA (by first | simp | assumption) rfl List.not_mem_nil rfl trivial ?_
          refine L.loadBW rfl Tf.a151 rfl (List.Mem.head _) Tf.s151 List.not_mem_nil rfl trivial ?_
          refine L.lookupV (val := kaV (n := 9)) (wal := Value.bool) (a := ⟨[(i : Int), min c0 1, min c1 1, min c2 1, min c3 1, min k0 1, min k1 1, min k2 1, min k3 1], rfl⟩) rfl Try.underlying137 mokey Tf.z4 rfl rfl (List.Mem.tail _ (List.Mem.head _)) List.not_mem_nil hM rfl trivial (fun nv ok hin hout => ?_)
          refine L.move rfl rfl rfl trivial ?_
          refine L.extract rfl rfl rfl rfl trivial ?_
          refine L.extract rfl rfl rfl rfl trivial ?_
          refine L.assign rfl rfl rfl trivial ?_
          refine L.assign rfl rfl rfl trivial ?_
          refine L.nil ?_
          refine C.next ?_
          refine C.seq ?_
          refine C.seq ?_
          refine C.region [(false,0)] rfl ?_
          refine L.move rfl rfl rfl trivial ?_
          refine L.nil ?_
          refine C.next ?_
          refine C.cond rfl (fun hc3 => ?_) (fun hc3 => ?_)
          · obtain ⟨r, rfl, hmem⟩ := hin hc3
            refine C.seq ?_
            refine C.region [(false,0),(false,1)] rfl ?_
            refine L.move rfl rfl rfl trivial ?_
            refine L.assign rfl rfl rfl trivial ?_
            refine L.nil ?_
            refine C.next ?_
            refine C.ret ?_
            refine C.thenRet ?_
            exact leaveMany (A := [(_, _)]) (ν' := [_]) (B := []) (vs := [_]) rfl rfl rfl ⟨rfl, trivial⟩ rfl (fun D' hD => ⟨congrArg Value.bool (hok _ hmem i (⟨[c0, c1, c2, c3], [k0, k1, k2, k3], mo, mi⟩ : Sc) hsi hsp rfl rfl), es, cl, Mm, rfl, hM, hok⟩)
          · obtain rfl := hout hc3
            refine C.skip ?_
            refine C.next ?_
            refine C.seq ?_
            refine C.seq ?_
            refine C.draw [] 3 [0,1,2,3,4,5,6,7,8,9,10,11,14,12,13] [false,false,false,false,true,true,true,true,true,true,true,true,true,true,true] [(false,0),(false,1),(false,2),(false,3),(true,4),(true,5),(true,6),(true,7),(true,8),(true,9),(true,10),(true,11),(true,14),(true,12),(true,13)] Tf.follows (fun _ _ _ h => np_bodyMany (P := Try.prog) (fn := Try.f62) _ _ _ h) (by kernel_rfl) rfl ?_
            refine L.move rfl rfl rfl trivial ?_
            refine L.nilCheck rfl rfl rfl trivial ?_
            refine L.fieldAddr rfl Tf.f139_0 rfl rfl trivial ?_
            refine L.loadDP rfl (k := 0) Tf.a40 Tf.s40 rfl hA (by first | simp | assumption) rfl rfl List.not_mem_nil rfl trivial ?_
            refine L.move rfl rfl rfl trivial ?_
            refine L.nilCheck rfl rfl rfl trivial ?_
            refine L.fieldAddr rfl Tf.f139_0 rfl rfl trivial ?_
            refine L.fieldAddr rfl Tf.f40_3 rfl rfl trivial ?_
            refine L.loadD1 rfl (k := 3) Tf.a37 rfl hA (by first | simp | assumption) rfl List.not_mem_nil rfl trivial ?_
            refine L.move rfl rfl rfl trivial ?_
            refine L.indexS rfl Try.underlying37 Tf.s64 rfl hl rfl (by omega) hz rfl trivial (fun b1 o1 cs1 hr1 hcl1 hA1 => ?_)
            obtain rfl : cs1 = [.int .i64 _, .int .i64 _, .int .i64 _] := hr1
            refine L.loadDW rfl Tf.a64 rfl hA1 (by first | simp | assumption) Tf.s64 List.not_mem_nil rfl trivial ?_
            refine L.move rfl rfl rfl trivial ?_
            refine L.call rfl rfl rfl (fun D4 hD4 => readings_ok _ b z _ (hb0.up (hD4 _ (by simp))) (by omega)) rfl trivial (fun v4 D4 hD4 hp4 => ?_)
            have hr := hp4
            have hrl := hr.len
            refine L.len rfl Try.underlying37 rfl (by assumption) rfl rfl trivial ?_
            refine L.nil ?_
            refine C.next ?_
            refine C.block ?_
            refine C.loopR (γ := Nat × Array MapEntry × Nat × List (Ints 9 × Bool)) (fun g => (readings b.chairs z).length - g.1) (fun g => g.1 ≤ (readings b.chairs z).length ∧ ((readings b.chairs z).take g.1).any (fun r => goB b i (⟨[c0, c1, c2, c3], [k0, k1, k2, k3], mo, mi⟩ : Sc) r) = false ∧ MapV kaV Value.bool g.2.1 g.2.2.2 ∧ MoOk b g.2.2.2) (fun g => [(63, .int .i64 (g.1 : Int)), (8, .bool false)]) [(62, _), (61, _), (7, _), (6, _), (4, _), (0, _), (2, _)] (fun g => [(q2, .cells [.int .i64 (i : Int), .int .i64 (min c0 1), .int .i64 (min c1 1), .int .i64 (min c2 1), .int .i64 (min c3 1), .int .i64 (min k0 1), .int .i64 (min k1 1), .int .i64 (min k2 1), .int .i64 (min k3 1)].toArray 151 (0, 0)), (mb, .map g.2.1 g.2.2.1)]) (fun g => [D4, E1, D]) (0, es, cl, Mm) ⟨by simp, rfl, hM, hok⟩ ⟨(by first | rfl | (show some (Value.int _ _) = some (Value.int _ _); congr 2; omega)), (by first | rfl | (show some (Value.int _ _) = some (Value.int _ _); congr 2; omega)), trivial⟩ ⟨rfl, rfl, rfl, rfl, rfl, rfl, rfl, trivial⟩ (List.Sublist.refl _) (ds_same) ?_
            rintro ⟨k, es2, cl2, M2⟩ ⟨h1, hno, hM2, hok2⟩
            simp only at h1 hno hM2 hok2
            refine C.seq ?_
            refine C.region [(false,0)] rfl ?_
            refine L.lss rfl rfl rfl rfl trivial ?_
            refine L.nil ?_
            refine C.next ?_
            refine C.seq ?_
            refine C.condD rfl (fun hc4 => ?_) (fun hc4 => ?_)
            · simp only at hc4
              obtain ⟨x, hx⟩ : ∃ x, (readings b.chairs z)[k]? = some x := ⟨_, List.getElem?_eq_getElem (by omega)⟩
              have hin := ((readings_mem (hbo.ln z (List.mem_of_getElem? hz))).1 (List.mem_of_getElem? hx)).1
              refine C.skip ?_
              refine C.next ?_
              refine C.seq ?_
              refine C.block ?_
              refine C.seq ?_
              refine C.region [(false,0),(false,1),(false,2),(false,3)] rfl ?_
              refine L.indexS rfl Try.underlying37 Tf.s64 rfl hr rfl (by omega) hx rfl trivial (fun b2 o2 cs2 hr2 hcl2 hA2 => ?_)
              obtain rfl : cs2 = [.int .i64 _, .int .i64 _, .int .i64 _] := hr2
              refine L.loadDW rfl Tf.a64 rfl hA2 (by first | simp | assumption) Tf.s64 List.not_mem_nil rfl trivial ?_
              refine L.alloc rfl Tf.z64 rfl rfl trivial (fun q3 => ?_)
              refine L.storeW rfl rfl rfl rfl Tf.s64 (by first | rfl | (simp only [ints_length, *]; done) | (simp only [ints_length, *]; rfl) | (simp only [ints_length, *]; omega)) (by first | rfl | (simp only [ints_length, *]; done) | (simp only [ints_length, *]; rfl) | (simp only [ints_length, *]; omega)) (Has.head) (by first | exact ints_cell1 _ | simp [cell1]) trivial ?_
              refine L.nil ?_
              refine C.next ?_
              refine C.seq ?_
              have hif : (scL (if canN (⟨[c0, c1, c2, c3], [k0, k1, k2, k3], mo, mi⟩ : Sc) x = true then (nextN b (⟨[c0, c1, c2, c3], [k0, k1, k2, k3], mo, mi⟩ : Sc) i x) else (⟨[c0, c1, c2, c3], [k0, k1, k2, k3], mo, mi⟩ : Sc))).length = 10 := by split; exact nx_len rfl rfl; rfl
              have hnl : (scL (nextN b (⟨[c0, c1, c2, c3], [k0, k1, k2, k3], mo, mi⟩ : Sc) i x)).length = 10 := nx_len rfl rfl
              refine C.drawS (But.mk [wb, q1, q3]) 6 [false,false,false,false,true,true,true,true,false,false,true,true,true,false] [.fork [0,1,2,3,4,5,6] 7 (.fin [8,9,10,11]) 11 (.fin [7,8,9,10]), .fin [12,13]] Tf.follows (fun _ _ _ h => np_bodyMany (P := Try.prog) (fn := Try.f62) _ _ _ h) (by kernel_rfl) ?_
              refine S.cons ?_
              refine L.planFork [(false,0),(false,1),(false,2),(false,3),(true,4),(true,5),(true,6)] rfl ?_
              refine L.move rfl rfl rfl trivial ?_
              refine L.nilCheck rfl rfl rfl trivial ?_
              refine L.fieldAddr rfl Tf.f139_0 rfl rfl trivial ?_
              refine L.loadDP rfl (k := 0) Tf.a40 Tf.s40 rfl hA (by first | simp | assumption) rfl rfl (But.out (by simp)) rfl trivial ?_
              refine L.loadDW rfl Tf.a80 rfl hB1 (by first | assumption | simp) Tf.s80 (But.out (by simp)) rfl trivial ?_
              refine L.move rfl rfl rfl trivial ?_
              refine L.loadBW rfl Tf.a64 rfl (List.Mem.head _) Tf.s64 (But.out (by simp)) rfl trivial ?_
              refine L.nil (L.forkP true true rfl rfl ?_ ?_)
              · refine L.callV rfl rfl rfl (fun D5 hD5 => next_ok _ b (⟨[c0, c1, c2, c3], [k0, k1, k2, k3], mo, mi⟩ : Sc) i x _ (hb0.up (hD5 _ (by simp))) rfl rfl (by have := hin.2; omega) (by have := hin.2; omega) (by omega) (by show -100000 ≤ mo ∧ mo ≤ 100000; omega) (by show 0 ≤ mi ∧ mi ≤ 1000; omega) (by omega)) rfl trivial ?_
                refine L.nil ?_
                refine L.planFin [(false,8),(false,9),(true,10),(true,11)] rfl ?_
                refine L.move rfl rfl rfl trivial ?_
                refine L.extract rfl rfl rfl rfl trivial ?_
                refine L.extract rfl rfl rfl rfl trivial ?_
                refine L.alloc rfl Tf.z80 rfl rfl trivial (fun q4 => ?_)
                refine L.nil ?_
                refine S.fin [(true,12),(false,13)] rfl ?_
                refine L.apart hA (by simp) (fun hap1 => ?_)
                refine L.apart hB1 (by simp) (fun hap2 => ?_)
                refine L.nd (fun hnd => ?_)
                refine L.storeB (off := 0) (us := ints (scL (if canN (⟨[c0, c1, c2, c3], [k0, k1, k2, k3], mo, mi⟩ : Sc) x = true then (nextN b (⟨[c0, c1, c2, c3], [k0, k1, k2, k3], mo, mi⟩ : Sc) i x) else (⟨[c0, c1, c2, c3], [k0, k1, k2, k3], mo, mi⟩ : Sc)))) (ws := ints (scL (if canN (⟨[c0, c1, c2, c3], [k0, k1, k2, k3], mo, mi⟩ : Sc) x = true then (nextN b (⟨[c0, c1, c2, c3], [k0, k1, k2, k3], mo, mi⟩ : Sc) i x) else (⟨[c0, c1, c2, c3], [k0, k1, k2, k3], mo, mi⟩ : Sc)))) rfl rfl rfl rfl (by rw [show (ints _).length = 10 by simp [hif]]; exact Tf.s80) .head (by simp [hif]) (by simp [hif]) (ints_cell1 _) (Or.inr (But.in_ (apart3 hap1 hap2 hnd))) trivial ?_
                refine L.assign rfl rfl rfl trivial ?_
                refine L.nil ?_
                refine S.nil ?_
                refine C.next ?_
                refine C.seq ?_
                refine C.region [(false,0),(false,1),(false,2),(false,3),(false,4),(false,5),(false,6),(false,7)] rfl ?_
                refine L.move rfl rfl rfl trivial ?_
                refine L.move rfl rfl rfl trivial ?_
                refine L.andM (γ := Bool × Array MapEntry × Nat × List (Ints 9 × Bool)) (fun g => g.1 = goB b i (⟨[c0, c1, c2, c3], [k0, k1, k2, k3], mo, mi⟩ : Sc) x ∧ MapV kaV Value.bool g.2.1 g.2.2.2 ∧ MoOk b g.2.2.2) (fun g => g.1) (fun g => [(q4, .cells (ints (scL (if canN (⟨[c0, c1, c2, c3], [k0, k1, k2, k3], mo, mi⟩ : Sc) x = true then (nextN b (⟨[c0, c1, c2, c3], [k0, k1, k2, k3], mo, mi⟩ : Sc) i x) else (⟨[c0, c1, c2, c3], [k0, k1, k2, k3], mo, mi⟩ : Sc)))).toArray 80 (0, 0)), (q3, .cells [.int .i64 x.kind, .int .i64 x.chair, .int .i64 x.token].toArray 64 (0, 0)), (q2, .cells [.int .i64 (i : Int), .int .i64 (min c0 1), .int .i64 (min c1 1), .int .i64 (min c2 1), .int .i64 (min c3 1), .int .i64 (min k0 1), .int .i64 (min k1 1), .int .i64 (min k2 1), .int .i64 (min k3 1)].toArray 151 (0, 0)), (mb, .map g.2.1 g.2.2.1)]) [(false,2),(false,3),(false,4),(false,5),(false,6),(false,7)] [] (s := 79) (p := 85) rfl rfl (fun hg1 => ?_) (fun hg1 => ?_) ?_
                · have hgc := hg1
                  rw [if_pos hgc]
                  refine L.move rfl rfl rfl ⟨_, rfl, rfl⟩ ?_
                  refine L.loadBW (e := 80) (fz := (0, 0)) rfl Tf.a80 rfl (List.Mem.head _) (by rw [show (ints _).length = 10 by simp [hnl]]; exact Tf.s80) List.not_mem_nil rfl ⟨_, rfl, rfl⟩ ?_
                  refine L.move rfl rfl rfl ⟨_, rfl, rfl⟩ ?_
                  refine L.add rfl rfl rfl (by simp only [inK]; omega) rfl ⟨_, rfl, rfl⟩ ?_
                  refine L.boxesEq ([(_, _), (_, _), (_, _)] ++ [(_, _)] ++ ([])) rfl ?_
                  refine L.callM (A := [(_, _), (_, _), (_, _)]) (ν := [(_, _)]) (B := []) rfl rfl rfl rfl (Or.inl rfl) unf_m (fun D9 hD9 => ih (j - 1) (by omega) (i + 1) (nextN b (⟨[c0, c1, c2, c3], [k0, k1, k2, k3], mo, mi⟩ : Sc) i x) es2 cl2 M2 _ (by omega) (next_b hbo hsb x i) (next_pos hsp i x) (next_inv hsi rfl hgc hin.2.1 (by have := hin.2.2.1; omega)) hM2 hok2 (hb0.up (hD9 _ (by simp))) (hA.up (hD9 _ (by simp)))) rfl ⟨_, rfl, rfl⟩ (fun v9 D10 _ hD10 hp9 => ?_)
                  obtain ⟨rfl, es3, cl3, M3, rfl, hM3, hok3⟩ := hp9
                  refine L.pickT rfl rfl rfl rfl trivial ?_
                  exact L.nil fun a w hh => ⟨(_, es3, cl3, M3), ⟨go_yes (by assumption), hM3, hok3⟩, (hh.cutK 5 rfl).ds (fun _ h => List.Mem.tail _ (h))⟩
                · refine L.pass rfl rfl rfl ⟨_, _, rfl, rfl, rfl⟩ ?_
                  refine L.pass rfl rfl rfl ⟨_, _, rfl, rfl, rfl⟩ ?_
                  refine L.pass rfl rfl rfl ⟨_, _, rfl, rfl, rfl⟩ ?_
                  refine L.pass rfl rfl rfl ⟨_, _, rfl, rfl, rfl⟩ ?_
                  refine L.pass rfl rfl rfl ⟨_, _, rfl, rfl, rfl⟩ ?_
                  refine L.pickF rfl rfl rfl rfl trivial ?_
                  exact L.nil fun a w hh => ⟨(false, es2, cl2, M2), ⟨go_no (by assumption), hM2, hok2⟩, hh.cutK 5 rfl⟩
                rintro ⟨bm, es3, cl3, M3⟩ ⟨hbm, hM3, hok3⟩
                simp only at hbm hM3 hok3
                refine L.nil ?_
                refine C.next ?_
                refine C.cond rfl (fun hc5 => ?_) (fun hc5 => ?_)
                · obtain rfl : bm = true := hc5
                  have hres : true = endsB b (b.lines.drop i) i (⟨[c0, c1, c2, c3], [k0, k1, k2, k3], mo, mi⟩ : Sc) := by rw [hdr, endsB, hcd, Bool.true_and]; exact (List.any_eq_true.2 ⟨x, List.mem_of_getElem? hx, hbm.symm⟩).symm
                  refine C.seq ?_
                  refine C.region [(false,0)] rfl ?_
                  refine L.assign rfl rfl rfl trivial ?_
                  refine L.nil ?_
                  refine C.next ?_
                  refine C.exit ?_
                  refine C.blockPass rfl ?_
                  refine C.thenExit ?_
                  refine C.thenExit ?_
                  refine C.blockExit ?_
                  refine C.next ?_
                  refine C.seq ?_
                  refine C.draw [] 3 [0,1,2,3,4,5,6] [false,false,false,false,true,true,false] [(false,0),(false,1),(false,2),(false,3),(true,4),(true,5),(false,6)] Tf.follows (fun _ _ _ h => np_bodyMany (P := Try.prog) (fn := Try.f62) _ _ _ h) (by kernel_rfl) rfl ?_
                  refine L.move rfl rfl rfl trivial ?_
                  refine L.nilCheck rfl rfl rfl trivial ?_
                  refine L.fieldAddr rfl Tf.f139_1 rfl rfl trivial ?_
                  refine L.loadD1 rfl (k := 5) Tf.a137 rfl hA (by first | simp | assumption) rfl List.not_mem_nil rfl trivial ?_
                  refine L.loadBW rfl Tf.a151 rfl (List.Mem.tail _ (List.Mem.tail _ (List.Mem.head _))) Tf.s151 List.not_mem_nil rfl trivial ?_
                  refine L.move rfl rfl rfl trivial ?_
                  refine L.updateV (val := kaV (n := 9)) (wal := Value.bool) (A := [(_, _), (_, _), (_, _)]) (B := []) (a := ⟨[(i : Int), min c0 1, min c1 1, min c2 1, min c3 1, min k0 1, min k1 1, min k2 1, min k3 1], rfl⟩) (n := true) rfl Try.underlying137 mokey rfl rfl rfl hM3 trivial (fun es9 cl9 M9 hM9 hm9 => ?_)
                  refine L.nil ?_
                  refine C.next ?_
                  refine C.seq ?_
                  refine C.region [(false,0),(false,1)] rfl ?_
                  refine L.move rfl rfl rfl trivial ?_
                  refine L.assign rfl rfl rfl trivial ?_
                  refine L.nil ?_
                  refine C.next ?_
                  refine C.ret ?_
                  exact leaveMany (A := [(_, _), (_, _), (_, _)]) (ν' := [_]) (B := []) (vs := [_]) rfl rfl rfl ⟨rfl, trivial⟩ rfl (fun D' hD => ⟨congrArg Value.bool hres, es9, cl9, M9, rfl, hM9, hok3.add hm9 rfl hsi hsp rfl hres⟩)
                · obtain rfl : bm = false := hc5
                  have hgo : goB b i (⟨[c0, c1, c2, c3], [k0, k1, k2, k3], mo, mi⟩ : Sc) x = false := hbm.symm
                  refine C.skip ?_
                  refine C.blockEnd ?_
                  refine C.next ?_
                  refine C.region [(false,0),(false,1)] rfl ?_
                  refine L.add rfl rfl rfl (by simp only [inK]; omega) rfl trivial ?_
                  refine L.move rfl rfl rfl trivial ?_
                  refine L.nil ?_
                  exact C.againR 24 (k + 1, es3, cl3, M3) ⟨by simp only; omega, by simp only; rw [List.take_add_one, hx, List.any_append, hno]; simp [hgo], hM3, hok3⟩ (by simp only; omega) ⟨(by first | rfl | (show some (Value.int _ _) = some (Value.int _ _); congr 2; omega)), (by first | rfl | (show some (Value.int _ _) = some (Value.int _ _); congr 2; omega)), trivial⟩ rfl rfl (List.Sublist.cons _ (List.Sublist.cons _ (List.Sublist.refl _))) (ds_same)
              · refine L.alloc rfl Tf.z80 rfl rfl trivial (fun q4 => ?_)
                refine L.nil ?_
                refine L.planFin [(true,7),(false,8),(false,9),(true,10)] rfl ?_
                refine L.callV rfl rfl rfl (fun D5 hD5 => next_ok _ b (⟨[c0, c1, c2, c3], [k0, k1, k2, k3], mo, mi⟩ : Sc) i x _ (hb0.up (hD5 _ (by simp))) rfl rfl (by have := hin.2; omega) (by have := hin.2; omega) (by omega) (by show -100000 ≤ mo ∧ mo ≤ 100000; omega) (by show 0 ≤ mi ∧ mi ≤ 1000; omega) (by omega)) rfl trivial ?_
                refine L.move rfl rfl rfl trivial ?_
                refine L.extract rfl rfl rfl rfl trivial ?_
                refine L.extract rfl rfl rfl rfl trivial ?_
                refine L.nil ?_
                refine S.fin [(true,12),(false,13)] rfl ?_
                refine L.apart hA (by simp) (fun hap1 => ?_)
                refine L.apart hB1 (by simp) (fun hap2 => ?_)
                refine L.nd (fun hnd => ?_)
                refine L.storeB (off := 0) (us := ints (scL (if canN (⟨[c0, c1, c2, c3], [k0, k1, k2, k3], mo, mi⟩ : Sc) x = true then (nextN b (⟨[c0, c1, c2, c3], [k0, k1, k2, k3], mo, mi⟩ : Sc) i x) else (⟨[c0, c1, c2, c3], [k0, k1, k2, k3], mo, mi⟩ : Sc)))) (ws := ints (scL (if canN (⟨[c0, c1, c2, c3], [k0, k1, k2, k3], mo, mi⟩ : Sc) x = true then (nextN b (⟨[c0, c1, c2, c3], [k0, k1, k2, k3], mo, mi⟩ : Sc) i x) else (⟨[c0, c1, c2, c3], [k0, k1, k2, k3], mo, mi⟩ : Sc)))) rfl rfl rfl rfl (by rw [show (ints _).length = 10 by simp [hif]]; exact Tf.s80) .head (by simp [hif]) (by simp [hif]) (ints_cell1 _) (Or.inr (But.in_ (apart3 hap1 hap2 hnd))) trivial ?_
                refine L.assign rfl rfl rfl trivial ?_
                refine L.nil ?_
                refine S.nil ?_
                refine C.next ?_
                refine C.seq ?_
                refine C.region [(false,0),(false,1),(false,2),(false,3),(false,4),(false,5),(false,6),(false,7)] rfl ?_
                refine L.move rfl rfl rfl trivial ?_
                refine L.move rfl rfl rfl trivial ?_
                refine L.andM (γ := Bool × Array MapEntry × Nat × List (Ints 9 × Bool)) (fun g => g.1 = goB b i (⟨[c0, c1, c2, c3], [k0, k1, k2, k3], mo, mi⟩ : Sc) x ∧ MapV kaV Value.bool g.2.1 g.2.2.2 ∧ MoOk b g.2.2.2) (fun g => g.1) (fun g => [(q4, .cells (ints (scL (if canN (⟨[c0, c1, c2, c3], [k0, k1, k2, k3], mo, mi⟩ : Sc) x = true then (nextN b (⟨[c0, c1, c2, c3], [k0, k1, k2, k3], mo, mi⟩ : Sc) i x) else (⟨[c0, c1, c2, c3], [k0, k1, k2, k3], mo, mi⟩ : Sc)))).toArray 80 (0, 0)), (q3, .cells [.int .i64 x.kind, .int .i64 x.chair, .int .i64 x.token].toArray 64 (0, 0)), (q2, .cells [.int .i64 (i : Int), .int .i64 (min c0 1), .int .i64 (min c1 1), .int .i64 (min c2 1), .int .i64 (min c3 1), .int .i64 (min k0 1), .int .i64 (min k1 1), .int .i64 (min k2 1), .int .i64 (min k3 1)].toArray 151 (0, 0)), (mb, .map g.2.1 g.2.2.1)]) [(false,2),(false,3),(false,4),(false,5),(false,6),(false,7)] [] (s := 79) (p := 85) rfl rfl (fun hg1 => ?_) (fun hg1 => ?_) ?_
                · have hgc := hg1
                  rw [if_pos hgc]
                  refine L.move rfl rfl rfl ⟨_, rfl, rfl⟩ ?_
                  refine L.loadBW (e := 80) (fz := (0, 0)) rfl Tf.a80 rfl (List.Mem.head _) (by rw [show (ints _).length = 10 by simp [hnl]]; exact Tf.s80) List.not_mem_nil rfl ⟨_, rfl, rfl⟩ ?_
                  refine L.move rfl rfl rfl ⟨_, rfl, rfl⟩ ?_
                  refine L.add rfl rfl rfl (by simp only [inK]; omega) rfl ⟨_, rfl, rfl⟩ ?_
                  refine L.boxesEq ([(_, _), (_, _), (_, _)] ++ [(_, _)] ++ ([])) rfl ?_
                  refine L.callM (A := [(_, _), (_, _), (_, _)]) (ν := [(_, _)]) (B := []) rfl rfl rfl rfl (Or.inl rfl) unf_m (fun D9 hD9 => ih (j - 1) (by omega) (i + 1) (nextN b (⟨[c0, c1, c2, c3], [k0, k1, k2, k3], mo, mi⟩ : Sc) i x) es2 cl2 M2 _ (by omega) (next_b hbo hsb x i) (next_pos hsp i x) (next_inv hsi rfl hgc hin.2.1 (by have := hin.2.2.1; omega)) hM2 hok2 (hb0.up (hD9 _ (by simp))) (hA.up (hD9 _ (by simp)))) rfl ⟨_, rfl, rfl⟩ (fun v9 D10 _ hD10 hp9 => ?_)
                  obtain ⟨rfl, es3, cl3, M3, rfl, hM3, hok3⟩ := hp9
                  refine L.pickT rfl rfl rfl rfl trivial ?_
                  exact L.nil fun a w hh => ⟨(_, es3, cl3, M3), ⟨go_yes (by assumption), hM3, hok3⟩, (hh.cutK 5 rfl).ds (fun _ h => List.Mem.tail _ (h))⟩
                · refine L.pass rfl rfl rfl ⟨_, _, rfl, rfl, rfl⟩ ?_
                  refine L.pass rfl rfl rfl ⟨_, _, rfl, rfl, rfl⟩ ?_
                  refine L.pass rfl rfl rfl ⟨_, _, rfl, rfl, rfl⟩ ?_
                  refine L.pass rfl rfl rfl ⟨_, _, rfl, rfl, rfl⟩ ?_
                  refine L.pass rfl rfl rfl ⟨_, _, rfl, rfl, rfl⟩ ?_
                  refine L.pickF rfl rfl rfl rfl trivial ?_
                  exact L.nil fun a w hh => ⟨(false, es2, cl2, M2), ⟨go_no (by assumption), hM2, hok2⟩, hh.cutK 5 rfl⟩
                rintro ⟨bm, es3, cl3, M3⟩ ⟨hbm, hM3, hok3⟩
                simp only at hbm hM3 hok3
                refine L.nil ?_
                refine C.next ?_
                refine C.cond rfl (fun hc5 => ?_) (fun hc5 => ?_)
                · obtain rfl : bm = true := hc5
                  have hres : true = endsB b (b.lines.drop i) i (⟨[c0, c1, c2, c3], [k0, k1, k2, k3], mo, mi⟩ : Sc) := by rw [hdr, endsB, hcd, Bool.true_and]; exact (List.any_eq_true.2 ⟨x, List.mem_of_getElem? hx, hbm.symm⟩).symm
                  refine C.seq ?_
                  refine C.region [(false,0)] rfl ?_
                  refine L.assign rfl rfl rfl trivial ?_
                  refine L.nil ?_
                  refine C.next ?_
                  refine C.exit ?_
                  refine C.blockPass rfl ?_
                  refine C.thenExit ?_
                  refine C.thenExit ?_
                  refine C.blockExit ?_
                  refine C.next ?_
                  refine C.seq ?_
                  refine C.draw [] 3 [0,1,2,3,4,5,6] [false,false,false,false,true,true,false] [(false,0),(false,1),(false,2),(false,3),(true,4),(true,5),(false,6)] Tf.follows (fun _ _ _ h => np_bodyMany (P := Try.prog) (fn := Try.f62) _ _ _ h) (by kernel_rfl) rfl ?_
                  refine L.move rfl rfl rfl trivial ?_
                  refine L.nilCheck rfl rfl rfl trivial ?_
                  refine L.fieldAddr rfl Tf.f139_1 rfl rfl trivial ?_
                  refine L.loadD1 rfl (k := 5) Tf.a137 rfl hA (by first | simp | assumption) rfl List.not_mem_nil rfl trivial ?_
                  refine L.loadBW rfl Tf.a151 rfl (List.Mem.tail _ (List.Mem.tail _ (List.Mem.head _))) Tf.s151 List.not_mem_nil rfl trivial ?_
                  refine L.move rfl rfl rfl trivial ?_
                  refine L.updateV (val := kaV (n := 9)) (wal := Value.bool) (A := [(_, _), (_, _), (_, _)]) (B := []) (a := ⟨[(i : Int), min c0 1, min c1 1, min c2 1, min c3 1, min k0 1, min k1 1, min k2 1, min k3 1], rfl⟩) (n := true) rfl Try.underlying137 mokey rfl rfl rfl hM3 trivial (fun es9 cl9 M9 hM9 hm9 => ?_)
                  refine L.nil ?_
                  refine C.next ?_
                  refine C.seq ?_
                  refine C.region [(false,0),(false,1)] rfl ?_
                  refine L.move rfl rfl rfl trivial ?_
                  refine L.assign rfl rfl rfl trivial ?_
                  refine L.nil ?_
                  refine C.next ?_
                  refine C.ret ?_
                  exact leaveMany (A := [(_, _), (_, _), (_, _)]) (ν' := [_]) (B := []) (vs := [_]) rfl rfl rfl ⟨rfl, trivial⟩ rfl (fun D' hD => ⟨congrArg Value.bool hres, es9, cl9, M9, rfl, hM9, hok3.add hm9 rfl hsi hsp rfl hres⟩)
                · obtain rfl : bm = false := hc5
                  have hgo : goB b i (⟨[c0, c1, c2, c3], [k0, k1, k2, k3], mo, mi⟩ : Sc) x = false := hbm.symm
                  refine C.skip ?_
                  refine C.blockEnd ?_
                  refine C.next ?_
                  refine C.region [(false,0),(false,1)] rfl ?_
                  refine L.add rfl rfl rfl (by simp only [inK]; omega) rfl trivial ?_
                  refine L.move rfl rfl rfl trivial ?_
                  refine L.nil ?_
                  exact C.againR 24 (k + 1, es3, cl3, M3) ⟨by simp only; omega, by simp only; rw [List.take_add_one, hx, List.any_append, hno]; simp [hgo], hM3, hok3⟩ (by simp only; omega) ⟨(by first | rfl | (show some (Value.int _ _) = some (Value.int _ _); congr 2; omega)), (by first | rfl | (show some (Value.int _ _) = some (Value.int _ _); congr 2; omega)), trivial⟩ rfl rfl (List.Sublist.cons _ (List.Sublist.cons _ (List.Sublist.refl _))) (ds_same)
            · obtain rfl : k = (readings b.chairs z).length := by simp only at hc4; omega
              rw [List.take_length] at hno
              have hres : false = endsB b (b.lines.drop i) i (⟨[c0, c1, c2, c3], [k0, k1, k2, k3], mo, mi⟩ : Sc) := by rw [hdr, endsB, hcd]; exact hno.symm
              refine C.exit ?_
              refine C.thenExit ?_
              refine C.thenExit ?_
              refine C.blockExit ?_
              refine C.next ?_
              refine C.seq ?_
              refine C.draw [] 3 [0,1,2,3,4,5,6] [false,false,false,false,true,true,false] [(false,0),(false,1),(false,2),(false,3),(true,4),(true,5),(false,6)] Tf.follows (fun _ _ _ h => np_bodyMany (P := Try.prog) (fn := Try.f62) _ _ _ h) (by kernel_rfl) rfl ?_
              refine L.move rfl rfl rfl trivial ?_
              refine L.nilCheck rfl rfl rfl trivial ?_
              refine L.fieldAddr rfl Tf.f139_1 rfl rfl trivial ?_
              refine L.loadD1 rfl (k := 5) Tf.a137 rfl hA (by first | simp | assumption) rfl List.not_mem_nil rfl trivial ?_
              refine L.loadBW rfl Tf.a151 rfl (List.Mem.head _) Tf.s151 List.not_mem_nil rfl trivial ?_
              refine L.move rfl rfl rfl trivial ?_
              refine L.updateV (val := kaV (n := 9)) (wal := Value.bool) (A := [(_, _)]) (B := []) (a := ⟨[(i : Int), min c0 1, min c1 1, min c2 1, min c3 1, min k0 1, min k1 1, min k2 1, min k3 1], rfl⟩) (n := false) rfl Try.underlying137 mokey rfl rfl rfl hM2 trivial (fun es9 cl9 M9 hM9 hm9 => ?_)
              refine L.nil ?_
              refine C.next ?_
              refine C.seq ?_
              refine C.region [(false,0),(false,1)] rfl ?_
              refine L.move rfl rfl rfl trivial ?_
              refine L.assign rfl rfl rfl trivial ?_
              refine L.nil ?_
              refine C.next ?_
              refine C.ret ?_
              exact leaveMany (A := [(_, _)]) (ν' := [_]) (B := []) (vs := [_]) rfl rfl rfl ⟨rfl, trivial⟩ rfl (fun D' hD => ⟨congrArg Value.bool hres, es9, cl9, M9, rfl, hM9, hok2.add hm9 rfl hsi hsp rfl hres⟩)
        · refine L.alloc rfl Tf.z151 rfl rfl trivial (fun q2 => ?_)
          refine L.nil ?_
          refine L.planFin [(true,6),(false,7)] rfl ?_
          refine L.callV rfl rfl rfl (fun D3 hD3 => out_ok [k0, k1, k2, k3] _ rfl) rfl trivial ?_
          refine L.build (cs := [.int .i64 (i : Int), .int .i64 (min c0 1), .int .i64 (min c1 1), .int .i64 (min c2 1), .int .i64 (min c3 1), .int .i64 (min k0 1), .int .i64 (min k1 1), .int .i64 (min k2 1), .int .i64 (min k3 1)]) rfl Tf.p151 Tf.z151 rfl (by kernel_rfl) rfl trivial ?_
          refine L.nil ?_
          refine S.fin [(false,9)] rfl ?_
          refine L.storeW rfl rfl rfl rfl Tf.s151 (by first | rfl | (simp only [ints_length, *]; done) | (simp only [ints_length, *]; rfl) | (simp only [ints_length, *]; omega)) (by first | rfl | (simp only [ints_length, *]; done) | (simp only [ints_length, *]; rfl) | (simp only [ints_length, *]; omega)) (Has.head) (by first | exact ints_cell1 _ | simp [cell1]) trivial ?_
          refine L.nil ?_
          refine S.nil ?_
          refine C.next ?_
          refine C.seq ?_
          refine C.draw [] 6 [0,1,2,3,4,5,6,7,8,9,10] [false,false,false,false,true,false,false,false,true,true,false] [(false,0),(false,1),(false,2),(false,3),(true,4),(false,5),(false,6),(false,7),(true,8),(true,9),(false,10)] Tf.follows (fun _ _ _ h => np_bodyMany (P := Try.prog) (fn := Try.f62) _ _ _ h) (by kernel_rfl) rfl ?_
          refine L.move rfl rfl rfl trivial ?_
          refine L.nilCheck rfl rfl rfl trivial ?_
          refine L.fieldAddr rfl Tf.f139_1 rfl rfl trivial ?_
          refine L.loadD1 rfl (k := 5) Tf.a137 rfl hA (by first | simp | assumption) rfl List.not_mem_nil rfl trivial ?_
          refine L.loadBW rfl Tf.a151 rfl (List.Mem.head _) Tf.s151 List.not_mem_nil rfl trivial ?_
          refine L.lookupV (val := kaV (n := 9)) (wal := Value.bool) (a := ⟨[(i : Int), min c0 1, min c1 1, min c2 1, min c3 1, min k0 1, min k1 1, min k2 1, min k3 1], rfl⟩) rfl Try.underlying137 mokey Tf.z4 rfl rfl (List.Mem.tail _ (List.Mem.head _)) List.not_mem_nil hM rfl trivial (fun nv ok hin hout => ?_)
          refine L.move rfl rfl rfl trivial ?_
          refine L.extract rfl rfl rfl rfl trivial ?_
          refine L.extract rfl rfl rfl rfl trivial ?_
          refine L.assign rfl rfl rfl trivial ?_
          refine L.assign rfl rfl rfl trivial ?_
          refine L.nil ?_
          refine C.next ?_
          refine C.seq ?_
          refine C.seq ?_
          refine C.region [(false,0)] rfl ?_
          refine L.move rfl rfl rfl trivial ?_
          refine L.nil ?_
          refine C.next ?_
          refine C.cond rfl (fun hc3 => ?_) (fun hc3 => ?_)
          · obtain ⟨r, rfl, hmem⟩ := hin hc3
            refine C.seq ?_
            refine C.region [(false,0),(false,1)] rfl ?_
            refine L.move rfl rfl rfl trivial ?_
            refine L.assign rfl rfl rfl trivial ?_
            refine L.nil ?_
            refine C.next ?_
            refine C.ret ?_
            refine C.thenRet ?_
            exact leaveMany (A := [(_, _)]) (ν' := [_]) (B := []) (vs := [_]) rfl rfl rfl ⟨rfl, trivial⟩ rfl (fun D' hD => ⟨congrArg Value.bool (hok _ hmem i (⟨[c0, c1, c2, c3], [k0, k1, k2, k3], mo, mi⟩ : Sc) hsi hsp rfl rfl), es, cl, Mm, rfl, hM, hok⟩)
          · obtain rfl := hout hc3
            refine C.skip ?_
            refine C.next ?_
            refine C.seq ?_
            refine C.seq ?_
            refine C.draw [] 3 [0,1,2,3,4,5,6,7,8,9,10,11,14,12,13] [false,false,false,false,true,true,true,true,true,true,true,true,true,true,true] [(false,0),(false,1),(false,2),(false,3),(true,4),(true,5),(true,6),(true,7),(true,8),(true,9),(true,10),(true,11),(true,14),(true,12),(true,13)] Tf.follows (fun _ _ _ h => np_bodyMany (P := Try.prog) (fn := Try.f62) _ _ _ h) (by kernel_rfl) rfl ?_
            refine L.move rfl rfl rfl trivial ?_
            refine L.nilCheck rfl rfl rfl trivial ?_
            refine L.fieldAddr rfl Tf.f139_0 rfl rfl trivial ?_
            refine L.loadDP rfl (k := 0) Tf.a40 Tf.s40 rfl hA (by first | simp | assumption) rfl rfl List.not_mem_nil rfl trivial ?_
            refine L.move rfl rfl rfl trivial ?_
            refine L.nilCheck rfl rfl rfl trivial ?_
            refine L.fieldAddr rfl Tf.f139_0 rfl rfl trivial ?_
            refine L.fieldAddr rfl Tf.f40_3 rfl rfl trivial ?_
            refine L.loadD1 rfl (k := 3) Tf.a37 rfl hA (by first | simp | assumption) rfl List.not_mem_nil rfl trivial ?_
            refine L.move rfl rfl rfl trivial ?_
            refine L.indexS rfl Try.underlying37 Tf.s64 rfl hl rfl (by omega) hz rfl trivial (fun b1 o1 cs1 hr1 hcl1 hA1 => ?_)
            obtain rfl : cs1 = [.int .i64 _, .int .i64 _, .int .i64 _] := hr1
            refine L.loadDW rfl Tf.a64 rfl hA1 (by first | simp | assumption) Tf.s64 List.not_mem_nil rfl trivial ?_
            refine L.move rfl rfl rfl trivial ?_
            refine L.call rfl rfl rfl (fun D4 hD4 => readings_ok _ b z _ (hb0.up (hD4 _ (by simp))) (by omega)) rfl trivial (fun v4 D4 hD4 hp4 => ?_)
            have hr := hp4
            have hrl := hr.len
            refine L.len rfl Try.underlying37 rfl (by assumption) rfl rfl trivial ?_
            refine L.nil ?_
            refine C.next ?_
            refine C.block ?_
            refine C.loopR (γ := Nat × Array MapEntry × Nat × List (Ints 9 × Bool)) (fun g => (readings b.chairs z).length - g.1) (fun g => g.1 ≤ (readings b.chairs z).length ∧ ((readings b.chairs z).take g.1).any (fun r => goB b i (⟨[c0, c1, c2, c3], [k0, k1, k2, k3], mo, mi⟩ : Sc) r) = false ∧ MapV kaV Value.bool g.2.1 g.2.2.2 ∧ MoOk b g.2.2.2) (fun g => [(63, .int .i64 (g.1 : Int)), (8, .bool false)]) [(62, _), (61, _), (7, _), (6, _), (4, _), (0, _), (2, _)] (fun g => [(q2, .cells [.int .i64 (i : Int), .int .i64 (min c0 1), .int .i64 (min c1 1), .int .i64 (min c2 1), .int .i64 (min c3 1), .int .i64 (min k0 1), .int .i64 (min k1 1), .int .i64 (min k2 1), .int .i64 (min k3 1)].toArray 151 (0, 0)), (mb, .map g.2.1 g.2.2.1)]) (fun g => [D4, E1, D]) (0, es, cl, Mm) ⟨by simp, rfl, hM, hok⟩ ⟨(by first | rfl | (show some (Value.int _ _) = some (Value.int _ _); congr 2; omega)), (by first | rfl | (show some (Value.int _ _) = some (Value.int _ _); congr 2; omega)), trivial⟩ ⟨rfl, rfl, rfl, rfl, rfl, rfl, rfl, trivial⟩ (List.Sublist.refl _) (ds_same) ?_
            rintro ⟨k, es2, cl2, M2⟩ ⟨h1, hno, hM2, hok2⟩
            simp only at h1 hno hM2 hok2
            refine C.seq ?_
            refine C.region [(false,0)] rfl ?_
            refine L.lss rfl rfl rfl rfl trivial ?_
            refine L.nil ?_
            refine C.next ?_
            refine C.seq ?_
            refine C.condD rfl (fun hc4 => ?_) (fun hc4 => ?_)
            · simp only at hc4
              obtain ⟨x, hx⟩ : ∃ x, (readings b.chairs z)[k]? = some x := ⟨_, List.getElem?_eq_getElem (by omega)⟩
              have hin := ((readings_mem (hbo.ln z (List.mem_of_getElem? hz))).1 (List.mem_of_getElem? hx)).1
              refine C.skip ?_
              refine C.next ?_
              refine C.seq ?_
              refine C.block ?_
              refine C.seq ?_
              refine C.region [(false,0),(false,1),(false,2),(false,3)] rfl ?_
              refine L.indexS rfl Try.underlying37 Tf.s64 rfl hr rfl (by omega) hx rfl trivial (fun b2 o2 cs2 hr2 hcl2 hA2 => ?_)
              obtain rfl : cs2 = [.int .i64 _, .int .i64 _, .int .i64 _] := hr2
              refine L.loadDW rfl Tf.a64 rfl hA2 (by first | simp | assumption) Tf.s64 List.not_mem_nil rfl trivial ?_
              refine L.alloc rfl Tf.z64 rfl rfl trivial (fun q3 => ?_)
              refine L.storeW rfl rfl rfl rfl Tf.s64 (by first | rfl | (simp only [ints_length, *]; done) | (simp only [ints_length, *]; rfl) | (simp only [ints_length, *]; omega)) (by first | rfl | (simp only [ints_length, *]; done) | (simp only [ints_length, *]; rfl) | (simp only [ints_length, *]; omega)) (Has.head) (by first | exact ints_cell1 _ | simp [cell1]) trivial ?_
              refine L.nil ?_
              refine C.next ?_
              refine C.seq ?_
              have hif : (scL (if canN (⟨[c0, c1, c2, c3], [k0, k1, k2, k3], mo, mi⟩ : Sc) x = true then (nextN b (⟨[c0, c1, c2, c3], [k0, k1, k2, k3], mo, mi⟩ : Sc) i x) else (⟨[c0, c1, c2, c3], [k0, k1, k2, k3], mo, mi⟩ : Sc))).length = 10 := by split; exact nx_len rfl rfl; rfl
              have hnl : (scL (nextN b (⟨[c0, c1, c2, c3], [k0, k1, k2, k3], mo, mi⟩ : Sc) i x)).length = 10 := nx_len rfl rfl
              refine C.drawS (But.mk [wb, q1, q3]) 6 [false,false,false,false,true,true,true,true,false,false,true,true,true,false] [.fork [0,1,2,3,4,5,6] 7 (.fin [8,9,10,11]) 11 (.fin [7,8,9,10]), .fin [12,13]] Tf.follows (fun _ _ _ h => np_bodyMany (P := Try.prog) (fn := Try.f62) _ _ _ h) (by kernel_rfl) ?_
              refine S.cons ?_
              refine L.planFork [(false,0),(false,1),(false,2),(false,3),(true,4),(true,5),(true,6)] rfl ?_
              refine L.move rfl rfl rfl trivial ?_
              refine L.nilCheck rfl rfl rfl trivial ?_
              refine L.fieldAddr rfl Tf.f139_0 rfl rfl trivial ?_
              refine L.loadDP rfl (k := 0) Tf.a40 Tf.s40 rfl hA (by first | simp | assumption) rfl rfl (But.out (by simp)) rfl trivial ?_
              refine L.loadDW rfl Tf.a80 rfl hB1 (by first | assumption | simp) Tf.s80 (But.out (by simp)) rfl trivial ?_
              refine L.move rfl rfl rfl trivial ?_
              refine L.loadBW rfl Tf.a64 rfl (List.Mem.head _) Tf.s64 (But.out (by simp)) rfl trivial ?_
              refine L.nil (L.forkP true true rfl rfl ?_ ?_)
              · refine L.callV rfl rfl rfl (fun D5 hD5 => next_ok _ b (⟨[c0, c1, c2, c3], [k0, k1, k2, k3], mo, mi⟩ : Sc) i x _ (hb0.up (hD5 _ (by simp))) rfl rfl (by have := hin.2; omega) (by have := hin.2; omega) (by omega) (by show -100000 ≤ mo ∧ mo ≤ 100000; omega) (by show 0 ≤ mi ∧ mi ≤ 1000; omega) (by omega)) rfl trivial ?_
                refine L.nil ?_
                refine L.planFin [(false,8),(false,9),(true,10),(true,11)] rfl ?_
                refine L.move rfl rfl rfl trivial ?_
                refine L.extract rfl rfl rfl rfl trivial ?_
                refine L.extract rfl rfl rfl rfl trivial ?_
                refine L.alloc rfl Tf.z80 rfl rfl trivial (fun q4 => ?_)
                refine L.nil ?_
                refine S.fin [(true,12),(false,13)] rfl ?_
                refine L.apart hA (by simp) (fun hap1 => ?_)
                refine L.apart hB1 (by simp) (fun hap2 => ?_)
                refine L.nd (fun hnd => ?_)
                refine L.storeB (off := 0) (us := ints (scL (if canN (⟨[c0, c1, c2, c3], [k0, k1, k2, k3], mo, mi⟩ : Sc) x = true then (nextN b (⟨[c0, c1, c2, c3], [k0, k1, k2, k3], mo, mi⟩ : Sc) i x) else (⟨[c0, c1, c2, c3], [k0, k1, k2, k3], mo, mi⟩ : Sc)))) (ws := ints (scL (if canN (⟨[c0, c1, c2, c3], [k0, k1, k2, k3], mo, mi⟩ : Sc) x = true then (nextN b (⟨[c0, c1, c2, c3], [k0, k1, k2, k3], mo, mi⟩ : Sc) i x) else (⟨[c0, c1, c2, c3], [k0, k1, k2, k3], mo, mi⟩ : Sc)))) rfl rfl rfl rfl (by rw [show (ints _).length = 10 by simp [hif]]; exact Tf.s80) .head (by simp [hif]) (by simp [hif]) (ints_cell1 _) (Or.inr (But.in_ (apart3 hap1 hap2 hnd))) trivial ?_
                refine L.assign rfl rfl rfl trivial ?_
                refine L.nil ?_
                refine S.nil ?_
                refine C.next ?_
                refine C.seq ?_
                refine C.region [(false,0),(false,1),(false,2),(false,3),(false,4),(false,5),(false,6),(false,7)] rfl ?_
                refine L.move rfl rfl rfl trivial ?_
                refine L.move rfl rfl rfl trivial ?_
                refine L.andM (γ := Bool × Array MapEntry × Nat × List (Ints 9 × Bool)) (fun g => g.1 = goB b i (⟨[c0, c1, c2, c3], [k0, k1, k2, k3], mo, mi⟩ : Sc) x ∧ MapV kaV Value.bool g.2.1 g.2.2.2 ∧ MoOk b g.2.2.2) (fun g => g.1) (fun g => [(q4, .cells (ints (scL (if canN (⟨[c0, c1, c2, c3], [k0, k1, k2, k3], mo, mi⟩ : Sc) x = true then (nextN b (⟨[c0, c1, c2, c3], [k0, k1, k2, k3], mo, mi⟩ : Sc) i x) else (⟨[c0, c1, c2, c3], [k0, k1, k2, k3], mo, mi⟩ : Sc)))).toArray 80 (0, 0)), (q3, .cells [.int .i64 x.kind, .int .i64 x.chair, .int .i64 x.token].toArray 64 (0, 0)), (q2, .cells [.int .i64 (i : Int), .int .i64 (min c0 1), .int .i64 (min c1 1), .int .i64 (min c2 1), .int .i64 (min c3 1), .int .i64 (min k0 1), .int .i64 (min k1 1), .int .i64 (min k2 1), .int .i64 (min k3 1)].toArray 151 (0, 0)), (mb, .map g.2.1 g.2.2.1)]) [(false,2),(false,3),(false,4),(false,5),(false,6),(false,7)] [] (s := 79) (p := 85) rfl rfl (fun hg1 => ?_) (fun hg1 => ?_) ?_
                · have hgc := hg1
                  rw [if_pos hgc]
                  refine L.move rfl rfl rfl ⟨_, rfl, rfl⟩ ?_
                  refine L.loadBW (e := 80) (fz := (0, 0)) rfl Tf.a80 rfl (List.Mem.head _) (by rw [show (ints _).length = 10 by simp [hnl]]; exact Tf.s80) List.not_mem_nil rfl ⟨_, rfl, rfl⟩ ?_
                  refine L.move rfl rfl rfl ⟨_, rfl, rfl⟩ ?_
                  refine L.add rfl rfl rfl (by simp only [inK]; omega) rfl ⟨_, rfl, rfl⟩ ?_
                  refine L.boxesEq ([(_, _), (_, _), (_, _)] ++ [(_, _)] ++ ([])) rfl ?_
                  refine L.callM (A := [(_, _), (_, _), (_, _)]) (ν := [(_, _)]) (B := []) rfl rfl rfl rfl (Or.inl rfl) unf_m (fun D9 hD9 => ih (j - 1) (by omega) (i + 1) (nextN b (⟨[c0, c1, c2, c3], [k0, k1, k2, k3], mo, mi⟩ : Sc) i x) es2 cl2 M2 _ (by omega) (next_b hbo hsb x i) (next_pos hsp i x) (next_inv hsi rfl hgc hin.2.1 (by have := hin.2.2.1; omega)) hM2 hok2 (hb0.up (hD9 _ (by simp))) (hA.up (hD9 _ (by simp)))) rfl ⟨_, rfl, rfl⟩ (fun v9 D10 _ hD10 hp9 => ?_)
                  obtain ⟨rfl, es3, cl3, M3, rfl, hM3, hok3⟩ := hp9
                  refine L.pickT rfl rfl rfl rfl trivial ?_
                  exact L.nil fun a w hh => ⟨(_, es3, cl3, M3), ⟨go_yes (by assumption), hM3, hok3⟩, (hh.cutK 5 rfl).ds (fun _ h => List.Mem.tail _ (h))⟩
                · refine L.pass rfl rfl rfl ⟨_, _, rfl, rfl, rfl⟩ ?_
                  refine L.pass rfl rfl rfl ⟨_, _, rfl, rfl, rfl⟩ ?_
                  refine L.pass rfl rfl rfl ⟨_, _, rfl, rfl, rfl⟩ ?_
                  refine L.pass rfl rfl rfl ⟨_, _, rfl, rfl, rfl⟩ ?_
                  refine L.pass rfl rfl rfl ⟨_, _, rfl, rfl, rfl⟩ ?_
                  refine L.pickF rfl rfl rfl rfl trivial ?_
                  exact L.nil fun a w hh => ⟨(false, es2, cl2, M2), ⟨go_no (by assumption), hM2, hok2⟩, hh.cutK 5 rfl⟩
                rintro ⟨bm, es3, cl3, M3⟩ ⟨hbm, hM3, hok3⟩
                simp only at hbm hM3 hok3
                refine L.nil ?_
                refine C.next ?_
                refine C.cond rfl (fun hc5 => ?_) (fun hc5 => ?_)
                · obtain rfl : bm = true := hc5
                  have hres : true = endsB b (b.lines.drop i) i (⟨[c0, c1, c2, c3], [k0, k1, k2, k3], mo, mi⟩ : Sc) := by rw [hdr, endsB, hcd, Bool.true_and]; exact (List.any_eq_true.2 ⟨x, List.mem_of_getElem? hx, hbm.symm⟩).symm
                  refine C.seq ?_
                  refine C.region [(false,0)] rfl ?_
                  refine L.assign rfl rfl rfl trivial ?_
                  refine L.nil ?_
                  refine C.next ?_
                  refine C.exit ?_
                  refine C.blockPass rfl ?_
                  refine C.thenExit ?_
                  refine C.thenExit ?_
                  refine C.blockExit ?_
                  refine C.next ?_
                  refine C.seq ?_
                  refine C.draw [] 3 [0,1,2,3,4,5,6] [false,false,false,false,true,true,false] [(false,0),(false,1),(false,2),(false,3),(true,4),(true,5),(false,6)] Tf.follows (fun _ _ _ h => np_bodyMany (P := Try.prog) (fn := Try.f62) _ _ _ h) (by kernel_rfl) rfl ?_
                  refine L.move rfl rfl rfl trivial ?_
                  refine L.nilCheck rfl rfl rfl trivial ?_
                  refine L.fieldAddr rfl Tf.f139_1 rfl rfl trivial ?_
                  refine L.loadD1 rfl (k := 5) Tf.a137 rfl hA (by first | simp | assumption) rfl List.not_mem_nil rfl trivial ?_
                  refine L.loadBW rfl Tf.a151 rfl (List.Mem.tail _ (List.Mem.tail _ (List.Mem.head _))) Tf.s151 List.not_mem_nil rfl trivial ?_
                  refine L.move rfl rfl rfl trivial ?_
                  refine L.updateV (val := kaV (n := 9)) (wal := Value.bool) (A := [(_, _), (_, _), (_, _)]) (B := []) (a := ⟨[(i : Int), min c0 1, min c1 1, min c2 1, min c3 1, min k0 1, min k1 1, min k2 1, min k3 1], rfl⟩) (n := true) rfl Try.underlying137 mokey rfl rfl rfl hM3 trivial (fun es9 cl9 M9 hM9 hm9 => ?_)
                  refine L.nil ?_
                  refine C.next ?_
                  refine C.seq ?_
                  refine C.region [(false,0),(false,1)] rfl ?_
                  refine L.move rfl rfl rfl trivial ?_
                  refine L.assign rfl rfl rfl trivial ?_
                  refine L.nil ?_
                  refine C.next ?_
                  refine C.ret ?_
                  exact leaveMany (A := [(_, _), (_, _), (_, _)]) (ν' := [_]) (B := []) (vs := [_]) rfl rfl rfl ⟨rfl, trivial⟩ rfl (fun D' hD => ⟨congrArg Value.bool hres, es9, cl9, M9, rfl, hM9, hok3.add hm9 rfl hsi hsp rfl hres⟩)
                · obtain rfl : bm = false := hc5
                  have hgo : goB b i (⟨[c0, c1, c2, c3], [k0, k1, k2, k3], mo, mi⟩ : Sc) x = false := hbm.symm
                  refine C.skip ?_
                  refine C.blockEnd ?_
                  refine C.next ?_
                  refine C.region [(false,0),(false,1)] rfl ?_
                  refine L.add rfl rfl rfl (by simp only [inK]; omega) rfl trivial ?_
                  refine L.move rfl rfl rfl trivial ?_
                  refine L.nil ?_
                  exact C.againR 24 (k + 1, es3, cl3, M3) ⟨by simp only; omega, by simp only; rw [List.take_add_one, hx, List.any_append, hno]; simp [hgo], hM3, hok3⟩ (by simp only; omega) ⟨(by first | rfl | (show some (Value.int _ _) = some (Value.int _ _); congr 2; omega)), (by first | rfl | (show some (Value.int _ _) = some (Value.int _ _); congr 2; omega)), trivial⟩ rfl rfl (List.Sublist.cons _ (List.Sublist.cons _ (List.Sublist.refl _))) (ds_same)
              · refine L.alloc rfl Tf.z80 rfl rfl trivial (fun q4 => ?_)
                refine L.nil ?_
                refine L.planFin [(true,7),(false,8),(false,9),(true,10)] rfl ?_
                refine L.callV rfl rfl rfl (fun D5 hD5 => next_ok _ b (⟨[c0, c1, c2, c3], [k0, k1, k2, k3], mo, mi⟩ : Sc) i x _ (hb0.up (hD5 _ (by simp))) rfl rfl (by have := hin.2; omega) (by have := hin.2; omega) (by omega) (by show -100000 ≤ mo ∧ mo ≤ 100000; omega) (by show 0 ≤ mi ∧ mi ≤ 1000; omega) (by omega)) rfl trivial ?_
                refine L.move rfl rfl rfl trivial ?_
                refine L.extract rfl rfl rfl rfl trivial ?_
                refine L.extract rfl rfl rfl rfl trivial ?_
                refine L.nil ?_
                refine S.fin [(true,12),(false,13)] rfl ?_
                refine L.apart hA (by simp) (fun hap1 => ?_)
                refine L.apart hB1 (by simp) (fun hap2 => ?_)
                refine L.nd (fun hnd => ?_)
                refine L.storeB (off := 0) (us := ints (scL (if canN (⟨[c0, c1, c2, c3], [k0, k1, k2, k3], mo, mi⟩ : Sc) x = true then (nextN b (⟨[c0, c1, c2, c3], [k0, k1, k2, k3], mo, mi⟩ : Sc) i x) else (⟨[c0, c1, c2, c3], [k0, k1, k2, k3], mo, mi⟩ : Sc)))) (ws := ints (scL (if canN (⟨[c0, c1, c2, c3], [k0, k1, k2, k3], mo, mi⟩ : Sc) x = true then (nextN b (⟨[c0, c1, c2, c3], [k0, k1, k2, k3], mo, mi⟩ : Sc) i x) else (⟨[c0, c1, c2, c3], [k0, k1, k2, k3], mo, mi⟩ : Sc)))) rfl rfl rfl rfl (by rw [show (ints _).length = 10 by simp [hif]]; exact Tf.s80) .head (by simp [hif]) (by simp [hif]) (ints_cell1 _) (Or.inr (But.in_ (apart3 hap1 hap2 hnd))) trivial ?_
                refine L.assign rfl rfl rfl trivial ?_
                refine L.nil ?_
                refine S.nil ?_
                refine C.next ?_
                refine C.seq ?_
                refine C.region [(false,0),(false,1),(false,2),(false,3),(false,4),(false,5),(false,6),(false,7)] rfl ?_
                refine L.move rfl rfl rfl trivial ?_
                refine L.move rfl rfl rfl trivial ?_
                refine L.andM (γ := Bool × Array MapEntry × Nat × List (Ints 9 × Bool)) (fun g => g.1 = goB b i (⟨[c0, c1, c2, c3], [k0, k1, k2, k3], mo, mi⟩ : Sc) x ∧ MapV kaV Value.bool g.2.1 g.2.2.2 ∧ MoOk b g.2.2.2) (fun g => g.1) (fun g => [(q4, .cells (ints (scL (if canN (⟨[c0, c1, c2, c3], [k0, k1, k2, k3], mo, mi⟩ : Sc) x = true then (nextN b (⟨[c0, c1, c2, c3], [k0, k1, k2, k3], mo, mi⟩ : Sc) i x) else (⟨[c0, c1, c2, c3], [k0, k1, k2, k3], mo, mi⟩ : Sc)))).toArray 80 (0, 0)), (q3, .cells [.int .i64 x.kind, .int .i64 x.chair, .int .i64 x.token].toArray 64 (0, 0)), (q2, .cells [.int .i64 (i : Int), .int .i64 (min c0 1), .int .i64 (min c1 1), .int .i64 (min c2 1), .int .i64 (min c3 1), .int .i64 (min k0 1), .int .i64 (min k1 1), .int .i64 (min k2 1), .int .i64 (min k3 1)].toArray 151 (0, 0)), (mb, .map g.2.1 g.2.2.1)]) [(false,2),(false,3),(false,4),(false,5),(false,6),(false,7)] [] (s := 79) (p := 85) rfl rfl (fun hg1 => ?_) (fun hg1 => ?_) ?_
                · have hgc := hg1
                  rw [if_pos hgc]
                  refine L.move rfl rfl rfl ⟨_, rfl, rfl⟩ ?_
                  refine L.loadBW (e := 80) (fz := (0, 0)) rfl Tf.a80 rfl (List.Mem.head _) (by rw [show (ints _).length = 10 by simp [hnl]]; exact Tf.s80) List.not_mem_nil rfl ⟨_, rfl, rfl⟩ ?_
                  refine L.move rfl rfl rfl ⟨_, rfl, rfl⟩ ?_
                  refine L.add rfl rfl rfl (by simp only [inK]; omega) rfl ⟨_, rfl, rfl⟩ ?_
                  refine L.boxesEq ([(_, _), (_, _), (_, _)] ++ [(_, _)] ++ ([])) rfl ?_
                  refine L.callM (A := [(_, _), (_, _), (_, _)]) (ν := [(_, _)]) (B := []) rfl rfl rfl rfl (Or.inl rfl) unf_m (fun D9 hD9 => ih (j - 1) (by omega) (i + 1) (nextN b (⟨[c0, c1, c2, c3], [k0, k1, k2, k3], mo, mi⟩ : Sc) i x) es2 cl2 M2 _ (by omega) (next_b hbo hsb x i) (next_pos hsp i x) (next_inv hsi rfl hgc hin.2.1 (by have := hin.2.2.1; omega)) hM2 hok2 (hb0.up (hD9 _ (by simp))) (hA.up (hD9 _ (by simp)))) rfl ⟨_, rfl, rfl⟩ (fun v9 D10 _ hD10 hp9 => ?_)
                  obtain ⟨rfl, es3, cl3, M3, rfl, hM3, hok3⟩ := hp9
                  refine L.pickT rfl rfl rfl rfl trivial ?_
                  exact L.nil fun a w hh => ⟨(_, es3, cl3, M3), ⟨go_yes (by assumption), hM3, hok3⟩, (hh.cutK 5 rfl).ds (fun _ h => List.Mem.tail _ (h))⟩
                · refine L.pass rfl rfl rfl ⟨_, _, rfl, rfl, rfl⟩ ?_
                  refine L.pass rfl rfl rfl ⟨_, _, rfl, rfl, rfl⟩ ?_
                  refine L.pass rfl rfl rfl ⟨_, _, rfl, rfl, rfl⟩ ?_
                  refine L.pass rfl rfl rfl ⟨_, _, rfl, rfl, rfl⟩ ?_
                  refine L.pass rfl rfl rfl ⟨_, _, rfl, rfl, rfl⟩ ?_
                  refine L.pickF rfl rfl rfl rfl trivial ?_
                  exact L.nil fun a w hh => ⟨(false, es2, cl2, M2), ⟨go_no (by assumption), hM2, hok2⟩, hh.cutK 5 rfl⟩
                rintro ⟨bm, es3, cl3, M3⟩ ⟨hbm, hM3, hok3⟩
                simp only at hbm hM3 hok3
                refine L.nil ?_
                refine C.next ?_
                refine C.cond rfl (fun hc5 => ?_) (fun hc5 => ?_)
                · obtain rfl : bm = true := hc5
                  have hres : true = endsB b (b.lines.drop i) i (⟨[c0, c1, c2, c3], [k0, k1, k2, k3], mo, mi⟩ : Sc) := by rw [hdr, endsB, hcd, Bool.true_and]; exact (List.any_eq_true.2 ⟨x, List.mem_of_getElem? hx, hbm.symm⟩).symm
                  refine C.seq ?_
                  refine C.region [(false,0)] rfl ?_
                  refine L.assign rfl rfl rfl trivial ?_
                  refine L.nil ?_
                  refine C.next ?_
                  refine C.exit ?_
                  refine C.blockPass rfl ?_
                  refine C.thenExit ?_
                  refine C.thenExit ?_
                  refine C.blockExit ?_
                  refine C.next ?_
                  refine C.seq ?_
                  refine C.draw [] 3 [0,1,2,3,4,5,6] [false,false,false,false,true,true,false] [(false,0),(false,1),(false,2),(false,3),(true,4),(true,5),(false,6)] Tf.follows (fun _ _ _ h => np_bodyMany (P := Try.prog) (fn := Try.f62) _ _ _ h) (by kernel_rfl) rfl ?_
                  refine L.move rfl rfl rfl trivial ?_
                  refine L.nilCheck rfl rfl rfl trivial ?_
                  refine L.fieldAddr rfl Tf.f139_1 rfl rfl trivial ?_
                  refine L.loadD1 rfl (k := 5) Tf.a137 rfl hA (by first | simp | assumption) rfl List.not_mem_nil rfl trivial ?_
                  refine L.loadBW rfl Tf.a151 rfl (List.Mem.tail _ (List.Mem.tail _ (List.Mem.head _))) Tf.s151 List.not_mem_nil rfl trivial ?_
                  refine L.move rfl rfl rfl trivial ?_
                  refine L.updateV (val := kaV (n := 9)) (wal := Value.bool) (A := [(_, _), (_, _), (_, _)]) (B := []) (a := ⟨[(i : Int), min c0 1, min c1 1, min c2 1, min c3 1, min k0 1, min k1 1, min k2 1, min k3 1], rfl⟩) (n := true) rfl Try.underlying137 mokey rfl rfl rfl hM3 trivial (fun es9 cl9 M9 hM9 hm9 => ?_)
                  refine L.nil ?_
                  refine C.next ?_
                  refine C.seq ?_
                  refine C.region [(false,0),(false,1)] rfl ?_
                  refine L.move rfl rfl rfl trivial ?_
                  refine L.assign rfl rfl rfl trivial ?_
                  refine L.nil ?_
                  refine C.next ?_
                  refine C.ret ?_
                  exact leaveMany (A := [(_, _), (_, _), (_, _)]) (ν' := [_]) (B := []) (vs := [_]) rfl rfl rfl ⟨rfl, trivial⟩ rfl (fun D' hD => ⟨congrArg Value.bool hres, es9, cl9, M9, rfl, hM9, hok3.add hm9 rfl hsi hsp rfl hres⟩)
                · obtain rfl : bm = false := hc5
                  have hgo : goB b i (⟨[c0, c1, c2, c3], [k0, k1, k2, k3], mo, mi⟩ : Sc) x = false := hbm.symm
                  refine C.skip ?_
                  refine C.blockEnd ?_
                  refine C.next ?_
                  refine C.region [(false,0),(false,1)] rfl ?_
                  refine L.add rfl rfl rfl (by simp only [inK]; omega) rfl trivial ?_
                  refine L.move rfl rfl rfl trivial ?_
                  refine L.nil ?_
                  exact C.againR 24 (k + 1, es3, cl3, M3) ⟨by simp only; omega, by simp only; rw [List.take_add_one, hx, List.any_append, hno]; simp [hgo], hM3, hok3⟩ (by simp only; omega) ⟨(by first | rfl | (show some (Value.int _ _) = some (Value.int _ _); congr 2; omega)), (by first | rfl | (show some (Value.int _ _) = some (Value.int _ _); congr 2; omega)), trivial⟩ rfl rfl (List.Sublist.cons _ (List.Sublist.cons _ (List.Sublist.refl _))) (ds_same)
            · obtain rfl : k = (readings b.chairs z).length := by simp only at hc4; omega
              rw [List.take_length] at hno
              have hres : false = endsB b (b.lines.drop i) i (⟨[c0, c1, c2, c3], [k0, k1, k2, k3], mo, mi⟩ : Sc) := by rw [hdr, endsB, hcd]; exact hno.symm
              refine C.exit ?_
              refine C.thenExit ?_
              refine C.thenExit ?_
              refine C.blockExit ?_
              refine C.next ?_
              refine C.seq ?_
              refine C.draw [] 3 [0,1,2,3,4,5,6] [false,false,false,false,true,true,false] [(false,0),(false,1),(false,2),(false,3),(true,4),(true,5),(false,6)] Tf.follows (fun _ _ _ h => np_bodyMany (P := Try.prog) (fn := Try.f62) _ _ _ h) (by kernel_rfl) rfl ?_
              refine L.move rfl rfl rfl trivial ?_
              refine L.nilCheck rfl rfl rfl trivial ?_
              refine L.fieldAddr rfl Tf.f139_1 rfl rfl trivial ?_
              refine L.loadD1 rfl (k := 5) Tf.a137 rfl hA (by first | simp | assumption) rfl List.not_mem_nil rfl trivial ?_
              refine L.loadBW rfl Tf.a151 rfl (List.Mem.head _) Tf.s151 List.not_mem_nil rfl trivial ?_
              refine L.move rfl rfl rfl trivial ?_
              refine L.updateV (val := kaV (n := 9)) (wal := Value.bool) (A := [(_, _)]) (B := []) (a := ⟨[(i : Int), min c0 1, min c1 1, min c2 1, min c3 1, min k0 1, min k1 1, min k2 1, min k3 1], rfl⟩) (n := false) rfl Try.underlying137 mokey rfl rfl rfl hM2 trivial (fun es9 cl9 M9 hM9 hm9 => ?_)
              refine L.nil ?_
              refine C.next ?_
              refine C.seq ?_
              refine C.region [(false,0),(false,1)] rfl ?_
              refine L.move rfl rfl rfl trivial ?_
              refine L.assign rfl rfl rfl trivial ?_
              refine L.nil ?_
              refine C.next ?_
              refine C.ret ?_
              exact leaveMany (A := [(_, _)]) (ν' := [_]) (B := []) (vs := [_]) rfl rfl rfl ⟨rfl, trivial⟩ rfl (fun D' hD => ⟨congrArg Value.bool hres, es9, cl9, M9, rfl, hM9, hok2.add hm9 rfl hsi hsp rfl hres⟩)
      · refine L.alloc rfl Tf.z151 rfl rfl trivial (fun q2 => ?_)
        refine L.nil ?_
        refine L.planFin [(true,3),(true,6),(false,7)] rfl ?_
        refine L.callV rfl rfl rfl (fun D2 hD2 => out_ok [c0, c1, c2, c3] _ rfl) rfl trivial ?_
        refine L.callV rfl rfl rfl (fun D3 hD3 => out_ok [k0, k1, k2, k3] _ rfl) rfl trivial ?_
        refine L.build (cs := [.int .i64 (i : Int), .int .i64 (min c0 1), .int .i64 (min c1 1), .int .i64 (min c2 1), .int .i64 (min c3 1), .int .i64 (min k0 1), .int .i64 (min k1 1), .int .i64 (min k2 1), .int .i64 (min k3 1)]) rfl Tf.p151 Tf.z151 rfl (by kernel_rfl) rfl trivial ?_
        refine L.nil ?_
        refine S.fin [(false,9)] rfl ?_
        refine L.storeW rfl rfl rfl rfl Tf.s151 (by first | rfl | (simp only [ints_length, *]; done) | (simp only [ints_length, *]; rfl) | (simp only [ints_length, *]; omega)) (by first | rfl | (simp only [ints_length, *]; done) | (simp only [ints_length, *]; rfl) | (simp only [ints_length, *]; omega)) (Has.head) (by first | exact ints_cell1 _ | simp [cell1]) trivial ?_
        refine L.nil ?_
        refine S.nil ?_
        refine C.next ?_
        refine C.seq ?_
        refine C.draw [] 6 [0,1,2,3,4,5,6,7,8,9,10] [false,false,false,false,true,false,false,false,true,true,false] [(false,0),(false,1),(false,2),(false,3),(true,4),(false,5),(false,6),(false,7),(true,8),(true,9),(false,10)] Tf.follows (fun _ _ _ h => np_bodyMany (P := Try.prog) (fn := Try.f62) _ _ _ h) (by kernel_rfl) rfl ?_
        refine L.move rfl rfl rfl trivial ?_
        refine L.nilCheck rfl rfl rfl trivial ?_
        refine L.fieldAddr rfl Tf.f139_1 rfl rfl trivial ?_
        refine L.loadD1 rfl (k := 5) Tf.a137 rfl hA (by first | simp | assumption) rfl List.not_mem_nil rfl trivial ?_
        refine L.loadBW rfl Tf.a151 rfl (List.Mem.head _) Tf.s151 List.not_mem_nil rfl trivial ?_
        refine L.lookupV (val := kaV (n := 9)) (wal := Value.bool) (a := ⟨[(i : Int), min c0 1, min c1 1, min c2 1, min c3 1, min k0 1, min k1 1, min k2 1, min k3 1], rfl⟩) rfl Try.underlying137 mokey Tf.z4 rfl rfl (List.Mem.tail _ (List.Mem.head _)) List.not_mem_nil hM rfl trivial (fun nv ok hin hout => ?_)
        refine L.move rfl rfl rfl trivial ?_
        refine L.extract rfl rfl rfl rfl trivial ?_
        refine L.extract rfl rfl rfl rfl trivial ?_
        refine L.assign rfl rfl rfl trivial ?_
        refine L.assign rfl rfl rfl trivial ?_
        refine L.nil ?_
        refine C.next ?_
        refine C.seq ?_
        refine C.seq ?_
        refine C.region [(false,0)] rfl ?_
        refine L.move rfl rfl rfl trivial ?_
        refine L.nil ?_
        refine C.next ?_
        refine C.cond rfl (fun hc3 => ?_) (fun hc3 => ?_)
        · obtain ⟨r, rfl, hmem⟩ := hin hc3
          refine C.seq ?_
          refine C.region [(false,0),(false,1)] rfl ?_
          refine L.move rfl rfl rfl trivial ?_
          refine L.assign rfl rfl rfl trivial ?_
          refine L.nil ?_
          refine C.next ?_
          refine C.ret ?_
          refine C.thenRet ?_
          exact leaveMany (A := [(_, _)]) (ν' := [_]) (B := []) (vs := [_]) rfl rfl rfl ⟨rfl, trivial⟩ rfl (fun D' hD => ⟨congrArg Value.bool (hok _ hmem i (⟨[c0, c1, c2, c3], [k0, k1, k2, k3], mo, mi⟩ : Sc) hsi hsp rfl rfl), es, cl, Mm, rfl, hM, hok⟩)
        · obtain rfl := hout hc3
          refine C.skip ?_
          refine C.next ?_
          refine C.seq ?_
          refine C.seq ?_
          refine C.draw [] 3 [0,1,2,3,4,5,6,7,8,9,10,11,14,12,13] [false,false,false,false,true,true,true,true,true,true,true,true,true,true,true] [(false,0),(false,1),(false,2),(false,3),(true,4),(true,5),(true,6),(true,7),(true,8),(true,9),(true,10),(true,11),(true,14),(true,12),(true,13)] Tf.follows (fun _ _ _ h => np_bodyMany (P := Try.prog) (fn := Try.f62) _ _ _ h) (by kernel_rfl) rfl ?_
          refine L.move rfl rfl rfl trivial ?_
          refine L.nilCheck rfl rfl rfl trivial ?_
          refine L.fieldAddr rfl Tf.f139_0 rfl rfl trivial ?_
          refine L.loadDP rfl (k := 0) Tf.a40 Tf.s40 rfl hA (by first | simp | assumption) rfl rfl List.not_mem_nil rfl trivial ?_
          refine L.move rfl rfl rfl trivial ?_
          refine L.nilCheck rfl rfl rfl trivial ?_
          refine L.fieldAddr rfl Tf.f139_0 rfl rfl trivial ?_
          refine L.fieldAddr rfl Tf.f40_3 rfl rfl trivial ?_
          refine L.loadD1 rfl (k := 3) Tf.a37 rfl hA (by first | simp | assumption) rfl List.not_mem_nil rfl trivial ?_
          refine L.move rfl rfl rfl trivial ?_
          refine L.indexS rfl Try.underlying37 Tf.s64 rfl hl rfl (by omega) hz rfl trivial (fun b1 o1 cs1 hr1 hcl1 hA1 => ?_)
          obtain rfl : cs1 = [.int .i64 _, .int .i64 _, .int .i64 _] := hr1
          refine L.loadDW rfl Tf.a64 rfl hA1 (by first | simp | assumption) Tf.s64 List.not_mem_nil rfl trivial ?_
          refine L.move rfl rfl rfl trivial ?_
          refine L.call rfl rfl rfl (fun D4 hD4 => readings_ok _ b z _ (hb0.up (hD4 _ (by simp))) (by omega)) rfl trivial (fun v4 D4 hD4 hp4 => ?_)
          have hr := hp4
          have hrl := hr.len
          refine L.len rfl Try.underlying37 rfl (by assumption) rfl rfl trivial ?_
          refine L.nil ?_
          refine C.next ?_
          refine C.block ?_
          refine C.loopR (γ := Nat × Array MapEntry × Nat × List (Ints 9 × Bool)) (fun g => (readings b.chairs z).length - g.1) (fun g => g.1 ≤ (readings b.chairs z).length ∧ ((readings b.chairs z).take g.1).any (fun r => goB b i (⟨[c0, c1, c2, c3], [k0, k1, k2, k3], mo, mi⟩ : Sc) r) = false ∧ MapV kaV Value.bool g.2.1 g.2.2.2 ∧ MoOk b g.2.2.2) (fun g => [(63, .int .i64 (g.1 : Int)), (8, .bool false)]) [(62, _), (61, _), (7, _), (6, _), (4, _), (0, _), (2, _)] (fun g => [(q2, .cells [.int .i64 (i : Int), .int .i64 (min c0 1), .int .i64 (min c1 1), .int .i64 (min c2 1), .int .i64 (min c3 1), .int .i64 (min k0 1), .int .i64 (min k1 1), .int .i64 (min k2 1), .int .i64 (min k3 1)].toArray 151 (0, 0)), (mb, .map g.2.1 g.2.2.1)]) (fun g => [D4, E1, D]) (0, es, cl, Mm) ⟨by simp, rfl, hM, hok⟩ ⟨(by first | rfl | (show some (Value.int _ _) = some (Value.int _ _); congr 2; omega)), (by first | rfl | (show some (Value.int _ _) = some (Value.int _ _); congr 2; omega)), trivial⟩ ⟨rfl, rfl, rfl, rfl, rfl, rfl, rfl, trivial⟩ (List.Sublist.refl _) (ds_same) ?_
          rintro ⟨k, es2, cl2, M2⟩ ⟨h1, hno, hM2, hok2⟩
          simp only at h1 hno hM2 hok2
          refine C.seq ?_
          refine C.region [(false,0)] rfl ?_
          refine L.lss rfl rfl rfl rfl trivial ?_
          refine L.nil ?_
          refine C.next ?_
          refine C.seq ?_
          refine C.condD rfl (fun hc4 => ?_) (fun hc4 => ?_)
          · simp only at hc4
            obtain ⟨x, hx⟩ : ∃ x, (readings b.chairs z)[k]? = some x := ⟨_, List.getElem?_eq_getElem (by omega)⟩
            have hin := ((readings_mem (hbo.ln z (List.mem_of_getElem? hz))).1 (List.mem_of_getElem? hx)).1
            refine C.skip ?_
            refine C.next ?_
            refine C.seq ?_
            refine C.block ?_
            refine C.seq ?_
            refine C.region [(false,0),(false,1),(false,2),(false,3)] rfl ?_
            refine L.indexS rfl Try.underlying37 Tf.s64 rfl hr rfl (by omega) hx rfl trivial (fun b2 o2 cs2 hr2 hcl2 hA2 => ?_)
            obtain rfl : cs2 = [.int .i64 _, .int .i64 _, .int .i64 _] := hr2
            refine L.loadDW rfl Tf.a64 rfl hA2 (by first | simp | assumption) Tf.s64 List.not_mem_nil rfl trivial ?_
            refine L.alloc rfl Tf.z64 rfl rfl trivial (fun q3 => ?_)
            refine L.storeW rfl rfl rfl rfl Tf.s64 (by first | rfl | (simp only [ints_length, *]; done) | (simp only [ints_length, *]; rfl) | (simp only [ints_length, *]; omega)) (by first | rfl | (simp only [ints_length, *]; done) | (simp only [ints_length, *]; rfl) | (simp only [ints_length, *]; omega)) (Has.head) (by first | exact ints_cell1 _ | simp [cell1]) trivial ?_
            refine L.nil ?_
            refine C.next ?_
            refine C.seq ?_
            have hif : (scL (if canN (⟨[c0, c1, c2, c3], [k0, k1, k2, k3], mo, mi⟩ : Sc) x = true then (nextN b (⟨[c0, c1, c2, c3], [k0, k1, k2, k3], mo, mi⟩ : Sc) i x) else (⟨[c0, c1, c2, c3], [k0, k1, k2, k3], mo, mi⟩ : Sc))).length = 10 := by split; exact nx_len rfl rfl; rfl
            have hnl : (scL (nextN b (⟨[c0, c1, c2, c3], [k0, k1, k2, k3], mo, mi⟩ : Sc) i x)).length = 10 := nx_len rfl rfl
            refine C.drawS (But.mk [wb, q1, q3]) 6 [false,false,false,false,true,true,true,true,false,false,true,true,true,false] [.fork [0,1,2,3,4,5,6] 7 (.fin [8,9,10,11]) 11 (.fin [7,8,9,10]), .fin [12,13]] Tf.follows (fun _ _ _ h => np_bodyMany (P := Try.prog) (fn := Try.f62) _ _ _ h) (by kernel_rfl) ?_
            refine S.cons ?_
            refine L.planFork [(false,0),(false,1),(false,2),(false,3),(true,4),(true,5),(true,6)] rfl ?_
            refine L.move rfl rfl rfl trivial ?_
            refine L.nilCheck rfl rfl rfl trivial ?_
            refine L.fieldAddr rfl Tf.f139_0 rfl rfl trivial ?_
            refine L.loadDP rfl (k := 0) Tf.a40 Tf.s40 rfl hA (by first | simp | assumption) rfl rfl (But.out (by simp)) rfl trivial ?_
            refine L.loadDW rfl Tf.a80 rfl hB1 (by first | assumption | simp) Tf.s80 (But.out (by simp)) rfl trivial ?_
            refine L.move rfl rfl rfl trivial ?_
            refine L.loadBW rfl Tf.a64 rfl (List.Mem.head _) Tf.s64 (But.out (by simp)) rfl trivial ?_
            refine L.nil (L.forkP true true rfl rfl ?_ ?_)
            · refine L.callV rfl rfl rfl (fun D5 hD5 => next_ok _ b (⟨[c0, c1, c2, c3], [k0, k1, k2, k3], mo, mi⟩ : Sc) i x _ (hb0.up (hD5 _ (by simp))) rfl rfl (by have := hin.2; omega) (by have := hin.2; omega) (by omega) (by show -100000 ≤ mo ∧ mo ≤ 100000; omega) (by show 0 ≤ mi ∧ mi ≤ 1000; omega) (by omega)) rfl trivial ?_
              refine L.nil ?_
              refine L.planFin [(false,8),(false,9),(true,10),(true,11)] rfl ?_
              refine L.move rfl rfl rfl trivial ?_
              refine L.extract rfl rfl rfl rfl trivial ?_
              refine L.extract rfl rfl rfl rfl trivial ?_
              refine L.alloc rfl Tf.z80 rfl rfl trivial (fun q4 => ?_)
              refine L.nil ?_
              refine S.fin [(true,12),(false,13)] rfl ?_
              refine L.apart hA (by simp) (fun hap1 => ?_)
              refine L.apart hB1 (by simp) (fun hap2 => ?_)
              refine L.nd (fun hnd => ?_)
              refine L.storeB (off := 0) (us := ints (scL (if canN (⟨[c0, c1, c2, c3], [k0, k1, k2, k3], mo, mi⟩ : Sc) x = true then (nextN b (⟨[c0, c1, c2, c3], [k0, k1, k2, k3], mo, mi⟩ : Sc) i x) else (⟨[c0, c1, c2, c3], [k0, k1, k2, k3], mo, mi⟩ : Sc)))) (ws := ints (scL (if canN (⟨[c0, c1, c2, c3], [k0, k1, k2, k3], mo, mi⟩ : Sc) x = true then (nextN b (⟨[c0, c1, c2, c3], [k0, k1, k2, k3], mo, mi⟩ : Sc) i x) else (⟨[c0, c1, c2, c3], [k0, k1, k2, k3], mo, mi⟩ : Sc)))) rfl rfl rfl rfl (by rw [show (ints _).length = 10 by simp [hif]]; exact Tf.s80) .head (by simp [hif]) (by simp [hif]) (ints_cell1 _) (Or.inr (But.in_ (apart3 hap1 hap2 hnd))) trivial ?_
              refine L.assign rfl rfl rfl trivial ?_
              refine L.nil ?_
              refine S.nil ?_
              refine C.next ?_
              refine C.seq ?_
              refine C.region [(false,0),(false,1),(false,2),(false,3),(false,4),(false,5),(false,6),(false,7)] rfl ?_
              refine L.move rfl rfl rfl trivial ?_
              refine L.move rfl rfl rfl trivial ?_
              refine L.andM (γ := Bool × Array MapEntry × Nat × List (Ints 9 × Bool)) (fun g => g.1 = goB b i (⟨[c0, c1, c2, c3], [k0, k1, k2, k3], mo, mi⟩ : Sc) x ∧ MapV kaV Value.bool g.2.1 g.2.2.2 ∧ MoOk b g.2.2.2) (fun g => g.1) (fun g => [(q4, .cells (ints (scL (if canN (⟨[c0, c1, c2, c3], [k0, k1, k2, k3], mo, mi⟩ : Sc) x = true then (nextN b (⟨[c0, c1, c2, c3], [k0, k1, k2, k3], mo, mi⟩ : Sc) i x) else (⟨[c0, c1, c2, c3], [k0, k1, k2, k3], mo, mi⟩ : Sc)))).toArray 80 (0, 0)), (q3, .cells [.int .i64 x.kind, .int .i64 x.chair, .int .i64 x.token].toArray 64 (0, 0)), (q2, .cells [.int .i64 (i : Int), .int .i64 (min c0 1), .int .i64 (min c1 1), .int .i64 (min c2 1), .int .i64 (min c3 1), .int .i64 (min k0 1), .int .i64 (min k1 1), .int .i64 (min k2 1), .int .i64 (min k3 1)].toArray 151 (0, 0)), (mb, .map g.2.1 g.2.2.1)]) [(false,2),(false,3),(false,4),(false,5),(false,6),(false,7)] [] (s := 79) (p := 85) rfl rfl (fun hg1 => ?_) (fun hg1 => ?_) ?_
              · have hgc := hg1
                rw [if_pos hgc]
                refine L.move rfl rfl rfl ⟨_, rfl, rfl⟩ ?_
                refine L.loadBW (e := 80) (fz := (0, 0)) rfl Tf.a80 rfl (List.Mem.head _) (by rw [show (ints _).length = 10 by simp [hnl]]; exact Tf.s80) List.not_mem_nil rfl ⟨_, rfl, rfl⟩ ?_
                refine L.move rfl rfl rfl ⟨_, rfl, rfl⟩ ?_
                refine L.add rfl rfl rfl (by simp only [inK]; omega) rfl ⟨_, rfl, rfl⟩ ?_
                refine L.boxesEq ([(_, _), (_, _), (_, _)] ++ [(_, _)] ++ ([])) rfl ?_
                refine L.callM (A := [(_, _), (_, _), (_, _)]) (ν := [(_, _)]) (B := []) rfl rfl rfl rfl (Or.inl rfl) unf_m (fun D9 hD9 => ih (j - 1) (by omega) (i + 1) (nextN b (⟨[c0, c1, c2, c3], [k0, k1, k2, k3], mo, mi⟩ : Sc) i x) es2 cl2 M2 _ (by omega) (next_b hbo hsb x i) (next_pos hsp i x) (next_inv hsi rfl hgc hin.2.1 (by have := hin.2.2.1; omega)) hM2 hok2 (hb0.up (hD9 _ (by simp))) (hA.up (hD9 _ (by simp)))) rfl ⟨_, rfl, rfl⟩ (fun v9 D10 _ hD10 hp9 => ?_)
                obtain ⟨rfl, es3, cl3, M3, rfl, hM3, hok3⟩ := hp9
                refine L.pickT rfl rfl rfl rfl trivial ?_
                exact L.nil fun a w hh => ⟨(_, es3, cl3, M3), ⟨go_yes (by assumption), hM3, hok3⟩, (hh.cutK 5 rfl).ds (fun _ h => List.Mem.tail _ (h))⟩
              · refine L.pass rfl rfl rfl ⟨_, _, rfl, rfl, rfl⟩ ?_
                refine L.pass rfl rfl rfl ⟨_, _, rfl, rfl, rfl⟩ ?_
                refine L.pass rfl rfl rfl ⟨_, _, rfl, rfl, rfl⟩ ?_
                refine L.pass rfl rfl rfl ⟨_, _, rfl, rfl, rfl⟩ ?_
                refine L.pass rfl rfl rfl ⟨_, _, rfl, rfl, rfl⟩ ?_
                refine L.pickF rfl rfl rfl rfl trivial ?_
                exact L.nil fun a w hh => ⟨(false, es2, cl2, M2), ⟨go_no (by assumption), hM2, hok2⟩, hh.cutK 5 rfl⟩
              rintro ⟨bm, es3, cl3, M3⟩ ⟨hbm, hM3, hok3⟩
              simp only at hbm hM3 hok3
              refine L.nil ?_
              refine C.next ?_
              refine C.cond rfl (fun hc5 => ?_) (fun hc5 => ?_)
              · obtain rfl : bm = true := hc5
                have hres : true = endsB b (b.lines.drop i) i (⟨[c0, c1, c2, c3], [k0, k1, k2, k3], mo, mi⟩ : Sc) := by rw [hdr, endsB, hcd, Bool.true_and]; exact (List.any_eq_true.2 ⟨x, List.mem_of_getElem? hx, hbm.symm⟩).symm
                refine C.seq ?_
                refine C.region [(false,0)] rfl ?_
                refine L.assign rfl rfl rfl trivial ?_
                refine L.nil ?_
                refine C.next ?_
                refine C.exit ?_
                refine C.blockPass rfl ?_
                refine C.thenExit ?_
                refine C.thenExit ?_
                refine C.blockExit ?_
                refine C.next ?_
                refine C.seq ?_
                refine C.draw [] 3 [0,1,2,3,4,5,6] [false,false,false,false,true,true,false] [(false,0),(false,1),(false,2),(false,3),(true,4),(true,5),(false,6)] Tf.follows (fun _ _ _ h => np_bodyMany (P := Try.prog) (fn := Try.f62) _ _ _ h) (by kernel_rfl) rfl ?_
                refine L.move rfl rfl rfl trivial ?_
                refine L.nilCheck rfl rfl rfl trivial ?_
                refine L.fieldAddr rfl Tf.f139_1 rfl rfl trivial ?_
                refine L.loadD1 rfl (k := 5) Tf.a137 rfl hA (by first | simp | assumption) rfl List.not_mem_nil rfl trivial ?_
                refine L.loadBW rfl Tf.a151 rfl (List.Mem.tail _ (List.Mem.tail _ (List.Mem.head _))) Tf.s151 List.not_mem_nil rfl trivial ?_
                refine L.move rfl rfl rfl trivial ?_
                refine L.updateV (val := kaV (n := 9)) (wal := Value.bool) (A := [(_, _), (_, _), (_, _)]) (B := []) (a := ⟨[(i : Int), min c0 1, min c1 1, min c2 1, min c3 1, min k0 1, min k1 1, min k2 1, min k3 1], rfl⟩) (n := true) rfl Try.underlying137 mokey rfl rfl rfl hM3 trivial (fun es9 cl9 M9 hM9 hm9 => ?_)
                refine L.nil ?_
                refine C.next ?_
                refine C.seq ?_
                refine C.region [(false,0),(false,1)] rfl ?_
                refine L.move rfl rfl rfl trivial ?_
                refine L.assign rfl rfl rfl trivial ?_
                refine L.nil ?_
                refine C.next ?_
                refine C.ret ?_
                exact leaveMany (A := [(_, _), (_, _), (_, _)]) (ν' := [_]) (B := []) (vs := [_]) rfl rfl rfl ⟨rfl, trivial⟩ rfl (fun D' hD => ⟨congrArg Value.bool hres, es9, cl9, M9, rfl, hM9, hok3.add hm9 rfl hsi hsp rfl hres⟩)
              · obtain rfl : bm = false := hc5
                have hgo : goB b i (⟨[c0, c1, c2, c3], [k0, k1, k2, k3], mo, mi⟩ : Sc) x = false := hbm.symm
                refine C.skip ?_
                refine C.blockEnd ?_
                refine C.next ?_
                refine C.region [(false,0),(false,1)] rfl ?_
                refine L.add rfl rfl rfl (by simp only [inK]; omega) rfl trivial ?_
                refine L.move rfl rfl rfl trivial ?_
                refine L.nil ?_
                exact C.againR 24 (k + 1, es3, cl3, M3) ⟨by simp only; omega, by simp only; rw [List.take_add_one, hx, List.any_append, hno]; simp [hgo], hM3, hok3⟩ (by simp only; omega) ⟨(by first | rfl | (show some (Value.int _ _) = some (Value.int _ _); congr 2; omega)), (by first | rfl | (show some (Value.int _ _) = some (Value.int _ _); congr 2; omega)), trivial⟩ rfl rfl (List.Sublist.cons _ (List.Sublist.cons _ (List.Sublist.refl _))) (ds_same)
            · refine L.alloc rfl Tf.z80 rfl rfl trivial (fun q4 => ?_)
              refine L.nil ?_
              refine L.planFin [(true,7),(false,8),(false,9),(true,10)] rfl ?_
              refine L.callV rfl rfl rfl (fun D5 hD5 => next_ok _ b (⟨[c0, c1, c2, c3], [k0, k1, k2, k3], mo, mi⟩ : Sc) i x _ (hb0.up (hD5 _ (by simp))) rfl rfl (by have := hin.2; omega) (by have := hin.2; omega) (by omega) (by show -100000 ≤ mo ∧ mo ≤ 100000; omega) (by show 0 ≤ mi ∧ mi ≤ 1000; omega) (by omega)) rfl trivial ?_
              refine L.move rfl rfl rfl trivial ?_
              refine L.extract rfl rfl rfl rfl trivial ?_
              refine L.extract rfl rfl rfl rfl trivial ?_
              refine L.nil ?_
              refine S.fin [(true,12),(false,13)] rfl ?_
              refine L.apart hA (by simp) (fun hap1 => ?_)
              refine L.apart hB1 (by simp) (fun hap2 => ?_)
              refine L.nd (fun hnd => ?_)
              refine L.storeB (off := 0) (us := ints (scL (if canN (⟨[c0, c1, c2, c3], [k0, k1, k2, k3], mo, mi⟩ : Sc) x = true then (nextN b (⟨[c0, c1, c2, c3], [k0, k1, k2, k3], mo, mi⟩ : Sc) i x) else (⟨[c0, c1, c2, c3], [k0, k1, k2, k3], mo, mi⟩ : Sc)))) (ws := ints (scL (if canN (⟨[c0, c1, c2, c3], [k0, k1, k2, k3], mo, mi⟩ : Sc) x = true then (nextN b (⟨[c0, c1, c2, c3], [k0, k1, k2, k3], mo, mi⟩ : Sc) i x) else (⟨[c0, c1, c2, c3], [k0, k1, k2, k3], mo, mi⟩ : Sc)))) rfl rfl rfl rfl (by rw [show (ints _).length = 10 by simp [hif]]; exact Tf.s80) .head (by simp [hif]) (by simp [hif]) (ints_cell1 _) (Or.inr (But.in_ (apart3 hap1 hap2 hnd))) trivial ?_
              refine L.assign rfl rfl rfl trivial ?_
              refine L.nil ?_
              refine S.nil ?_
              refine C.next ?_
              refine C.seq ?_
              refine C.region [(false,0),(false,1),(false,2),(false,3),(false,4),(false,5),(false,6),(false,7)] rfl ?_
              refine L.move rfl rfl rfl trivial ?_
              refine L.move rfl rfl rfl trivial ?_
              refine L.andM (γ := Bool × Array MapEntry × Nat × List (Ints 9 × Bool)) (fun g => g.1 = goB b i (⟨[c0, c1, c2, c3], [k0, k1, k2, k3], mo, mi⟩ : Sc) x ∧ MapV kaV Value.bool g.2.1 g.2.2.2 ∧ MoOk b g.2.2.2) (fun g => g.1) (fun g => [(q4, .cells (ints (scL (if canN (⟨[c0, c1, c2, c3], [k0, k1, k2, k3], mo, mi⟩ : Sc) x = true then (nextN b (⟨[c0, c1, c2, c3], [k0, k1, k2, k3], mo, mi⟩ : Sc) i x) else (⟨[c0, c1, c2, c3], [k0, k1, k2, k3], mo, mi⟩ : Sc)))).toArray 80 (0, 0)), (q3, .cells [.int .i64 x.kind, .int .i64 x.chair, .int .i64 x.token].toArray 64 (0, 0)), (q2, .cells [.int .i64 (i : Int), .int .i64 (min c0 1), .int .i64 (min c1 1), .int .i64 (min c2 1), .int .i64 (min c3 1), .int .i64 (min k0 1), .int .i64 (min k1 1), .int .i64 (min k2 1), .int .i64 (min k3 1)].toArray 151 (0, 0)), (mb, .map g.2.1 g.2.2.1)]) [(false,2),(false,3),(false,4),(false,5),(false,6),(false,7)] [] (s := 79) (p := 85) rfl rfl (fun hg1 => ?_) (fun hg1 => ?_) ?_
              · have hgc := hg1
                rw [if_pos hgc]
                refine L.move rfl rfl rfl ⟨_, rfl, rfl⟩ ?_
                refine L.loadBW (e := 80) (fz := (0, 0)) rfl Tf.a80 rfl (List.Mem.head _) (by rw [show (ints _).length = 10 by simp [hnl]]; exact Tf.s80) List.not_mem_nil rfl ⟨_, rfl, rfl⟩ ?_
                refine L.move rfl rfl rfl ⟨_, rfl, rfl⟩ ?_
                refine L.add rfl rfl rfl (by simp only [inK]; omega) rfl ⟨_, rfl, rfl⟩ ?_
                refine L.boxesEq ([(_, _), (_, _), (_, _)] ++ [(_, _)] ++ ([])) rfl ?_
                refine L.callM (A := [(_, _), (_, _), (_, _)]) (ν := [(_, _)]) (B := []) rfl rfl rfl rfl (Or.inl rfl) unf_m (fun D9 hD9 => ih (j - 1) (by omega) (i + 1) (nextN b (⟨[c0, c1, c2, c3], [k0, k1, k2, k3], mo, mi⟩ : Sc) i x) es2 cl2 M2 _ (by omega) (next_b hbo hsb x i) (next_pos hsp i x) (next_inv hsi rfl hgc hin.2.1 (by have := hin.2.2.1; omega)) hM2 hok2 (hb0.up (hD9 _ (by simp))) (hA.up (hD9 _ (by simp)))) rfl ⟨_, rfl, rfl⟩ (fun v9 D10 _ hD10 hp9 => ?_)
                obtain ⟨rfl, es3, cl3, M3, rfl, hM3, hok3⟩ := hp9
                refine L.pickT rfl rfl rfl rfl trivial ?_
                exact L.nil fun a w hh => ⟨(_, es3, cl3, M3), ⟨go_yes (by assumption), hM3, hok3⟩, (hh.cutK 5 rfl).ds (fun _ h => List.Mem.tail _ (h))⟩
              · refine L.pass rfl rfl rfl ⟨_, _, rfl, rfl, rfl⟩ ?_
                refine L.pass rfl rfl rfl ⟨_, _, rfl, rfl, rfl⟩ ?_
                refine L.pass rfl rfl rfl ⟨_, _, rfl, rfl, rfl⟩ ?_
                refine L.pass rfl rfl rfl ⟨_, _, rfl, rfl, rfl⟩ ?_
                refine L.pass rfl rfl rfl ⟨_, _, rfl, rfl, rfl⟩ ?_
                refine L.pickF rfl rfl rfl rfl trivial ?_
                exact L.nil fun a w hh => ⟨(false, es2, cl2, M2), ⟨go_no (by assumption), hM2, hok2⟩, hh.cutK 5 rfl⟩
              rintro ⟨bm, es3, cl3, M3⟩ ⟨hbm, hM3, hok3⟩
              simp only at hbm hM3 hok3
              refine L.nil ?_
              refine C.next ?_
              refine C.cond rfl (fun hc5 => ?_) (fun hc5 => ?_)
              · obtain rfl : bm = true := hc5
                have hres : true = endsB b (b.lines.drop i) i (⟨[c0, c1, c2, c3], [k0, k1, k2, k3], mo, mi⟩ : Sc) := by rw [hdr, endsB, hcd, Bool.true_and]; exact (List.any_eq_true.2 ⟨x, List.mem_of_getElem? hx, hbm.symm⟩).symm
                refine C.seq ?_
                refine C.region [(false,0)] rfl ?_
                refine L.assign rfl rfl rfl trivial ?_
                refine L.nil ?_
                refine C.next ?_
                refine C.exit ?_
                refine C.blockPass rfl ?_
                refine C.thenExit ?_
                refine C.thenExit ?_
                refine C.blockExit ?_
                refine C.next ?_
                refine C.seq ?_
                refine C.draw [] 3 [0,1,2,3,4,5,6] [false,false,false,false,true,true,false] [(false,0),(false,1),(false,2),(false,3),(true,4),(true,5),(false,6)] Tf.follows (fun _ _ _ h => np_bodyMany (P := Try.prog) (fn := Try.f62) _ _ _ h) (by kernel_rfl) rfl ?_
                refine L.move rfl rfl rfl trivial ?_
                refine L.nilCheck rfl rfl rfl trivial ?_
                refine L.fieldAddr rfl Tf.f139_1 rfl rfl trivial ?_
                refine L.loadD1 rfl (k := 5) Tf.a137 rfl hA (by first | simp | assumption) rfl List.not_mem_nil rfl trivial ?_
                refine L.loadBW rfl Tf.a151 rfl (List.Mem.tail _ (List.Mem.tail _ (List.Mem.head _))) Tf.s151 List.not_mem_nil rfl trivial ?_
                refine L.move rfl rfl rfl trivial ?_
                refine L.updateV (val := kaV (n := 9)) (wal := Value.bool) (A := [(_, _), (_, _), (_, _)]) (B := []) (a := ⟨[(i : Int), min c0 1, min c1 1, min c2 1, min c3 1, min k0 1, min k1 1, min k2 1, min k3 1], rfl⟩) (n := true) rfl Try.underlying137 mokey rfl rfl rfl hM3 trivial (fun es9 cl9 M9 hM9 hm9 => ?_)
                refine L.nil ?_
                refine C.next ?_
                refine C.seq ?_
                refine C.region [(false,0),(false,1)] rfl ?_
                refine L.move rfl rfl rfl trivial ?_
                refine L.assign rfl rfl rfl trivial ?_
                refine L.nil ?_
                refine C.next ?_
                refine C.ret ?_
                exact leaveMany (A := [(_, _), (_, _), (_, _)]) (ν' := [_]) (B := []) (vs := [_]) rfl rfl rfl ⟨rfl, trivial⟩ rfl (fun D' hD => ⟨congrArg Value.bool hres, es9, cl9, M9, rfl, hM9, hok3.add hm9 rfl hsi hsp rfl hres⟩)
              · obtain rfl : bm = false := hc5
                have hgo : goB b i (⟨[c0, c1, c2, c3], [k0, k1, k2, k3], mo, mi⟩ : Sc) x = false := hbm.symm
                refine C.skip ?_
                refine C.blockEnd ?_
                refine C.next ?_
                refine C.region [(false,0),(false,1)] rfl ?_
                refine L.add rfl rfl rfl (by simp only [inK]; omega) rfl trivial ?_
                refine L.move rfl rfl rfl trivial ?_
                refine L.nil ?_
                exact C.againR 24 (k + 1, es3, cl3, M3) ⟨by simp only; omega, by simp only; rw [List.take_add_one, hx, List.any_append, hno]; simp [hgo], hM3, hok3⟩ (by simp only; omega) ⟨(by first | rfl | (show some (Value.int _ _) = some (Value.int _ _); congr 2; omega)), (by first | rfl | (show some (Value.int _ _) = some (Value.int _ _); congr 2; omega)), trivial⟩ rfl rfl (List.Sublist.cons _ (List.Sublist.cons _ (List.Sublist.refl _))) (ds_same)
          · obtain rfl : k = (readings b.chairs z).length := by simp only at hc4; omega
            rw [List.take_length] at hno
            have hres : false = endsB b (b.lines.drop i) i (⟨[c0, c1, c2, c3], [k0, k1, k2, k3], mo, mi⟩ : Sc) := by rw [hdr, endsB, hcd]; exact hno.symm
            refine C.exit ?_
            refine C.thenExit ?_
            refine C.thenExit ?_
            refine C.blockExit ?_
            refine C.next ?_
            refine C.seq ?_
            refine C.draw [] 3 [0,1,2,3,4,5,6] [false,false,false,false,true,true,false] [(false,0),(false,1),(false,2),(false,3),(true,4),(true,5),(false,6)] Tf.follows (fun _ _ _ h => np_bodyMany (P := Try.prog) (fn := Try.f62) _ _ _ h) (by kernel_rfl) rfl ?_
            refine L.move rfl rfl rfl trivial ?_
            refine L.nilCheck rfl rfl rfl trivial ?_
            refine L.fieldAddr rfl Tf.f139_1 rfl rfl trivial ?_
            refine L.loadD1 rfl (k := 5) Tf.a137 rfl hA (by first | simp | assumption) rfl List.not_mem_nil rfl trivial ?_
            refine L.loadBW rfl Tf.a151 rfl (List.Mem.head _) Tf.s151 List.not_mem_nil rfl trivial ?_
            refine L.move rfl rfl rfl trivial ?_
            refine L.updateV (val := kaV (n := 9)) (wal := Value.bool) (A := [(_, _)]) (B := []) (a := ⟨[(i : Int), min c0 1, min c1 1, min c2 1, min c3 1, min k0 1, min k1 1, min k2 1, min k3 1], rfl⟩) (n := false) rfl Try.underlying137 mokey rfl rfl rfl hM2 trivial (fun es9 cl9 M9 hM9 hm9 => ?_)
            refine L.nil ?_
            refine C.next ?_
            refine C.seq ?_
            refine C.region [(false,0),(false,1)] rfl ?_
            refine L.move rfl rfl rfl trivial ?_
            refine L.assign rfl rfl rfl trivial ?_
            refine L.nil ?_
            refine C.next ?_
            refine C.ret ?_
            exact leaveMany (A := [(_, _)]) (ν' := [_]) (B := []) (vs := [_]) rfl rfl rfl ⟨rfl, trivial⟩ rfl (fun D' hD => ⟨congrArg Value.bool hres, es9, cl9, M9, rfl, hM9, hok2.add hm9 rfl hsi hsp rfl hres⟩)
end Go.Fs
