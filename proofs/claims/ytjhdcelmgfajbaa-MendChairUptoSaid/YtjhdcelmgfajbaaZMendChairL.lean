/- Of the proof of MendChair: W45, BulkY. -/
import Derived.Test.YtjhdcelmgfajbaaZMendChairK
import Derived.Test.YtjhdcelmgfajbaaZMendChairD
import Derived.Test.YtjhdcelmgfajbaaRows
namespace Go.Fs
open Go.Proofs
open C7
section
variable {P : Program} {X : Cx} {γb : Type} [Membership Nat γb] {bad : γb} {all : Array Oper} {K : Act → World → Prop} {Q : Exit → Act → World → Prop}
variable {σ : Slots} {μ : Boxes} {Ds : List Data} {os : List (Bool × Nat)} {fl : Bool} {ix : Nat}
variable {d : Nat} {x y z : Operand} {u v : Value} {ty : TypeId} {pos : String} {aft : Array Edge} {g : Option (Nat × Bool)}
variable {k' : IntKind} {m n : Nat} {t t' : TypeId}
theorem L.addW {k : IntKind} {m n : Int} (ho : all[ix]? = some ⟨some d, .binOp .add t x y t', ty, pos, aft, g⟩) (hx : ev σ x = some (.int k m)) (hy : ev σ y = some (.int k n)) (hN : Nat.blt d X.N = true) (hg : Gok all σ g) (kk : WL P X bad all K Q os ((d, .int k (k.wrap (m + n))) :: σ) μ Ds) :
    WL P X bad all K Q ((fl, ix) :: os) σ μ Ds :=
  L.pure ho rfl rfl hN hg (fun ρ hρ w' => run_bin (by simp) (by cases k <;> simp [binOp, Op.intArith, Pure.pure]) (hρ x _ hx) (hρ y _ hy)) kk
theorem Hl.swap2 {p q : Nat × Obj} {a : Act} {w : World} (h : Hl X σ [p, q] Ds a w) : Hl X σ [q, p] Ds a w := by
  obtain ⟨h1, h2, h3, D, h4, h5, h6⟩ := h
  refine ⟨h1, h2, h3, D, h4.sub (fun r hr => ?_) ?_, h5, h6.step (fun _ r hr => Or.inl ?_) (fun _ => Low.refl _ _ _) h4.dom⟩
  · simp only [List.mem_cons, List.not_mem_nil, or_false] at hr ⊢; exact hr.symm
  · have := h4.nd
    simp only [List.map_cons, List.map_nil, List.nodup_cons, List.mem_cons, List.not_mem_nil, or_false, not_false_eq_true, List.nodup_nil, and_true] at this ⊢
    exact fun e => this e.symm
  · refine List.mem_map.2 ⟨r, ?_, rfl⟩
    simp only [List.mem_cons, List.not_mem_nil, or_false] at hr ⊢; exact hr.symm
end
/-- A yard with one more chair; with another Fit. -/
def addY (y : YardD) (c : Ch) : YardD := { y with chairs := y.chairs ++ [c] }
def fitY (y : YardD) (f : Int) : YardD := { y with fit := f }
theorem chair_most {y : YardD} {c : Ch} {t : List Pt} (_hf : fault y = 0) (hx : fault (addY y c) = 0) (_ht : isTruth (addY y c) t = true) (hl : t.length = y.chairs.length + 1) (_h0 : isTruth y (t.take y.chairs.length) = true) : mostT y (t.take y.chairs.length) ≤ mostT (addY y c) t ∧ mostT (addY y c) t ≤ mostT y (t.take y.chairs.length) + 1 := by
  have hn := (yOk hx).len
  rw [show (addY y c).chairs.length = y.chairs.length + 1 by simp [addY]] at hn
  have l0 : (t.take y.chairs.length).length = y.chairs.length := by rw [List.length_take]; omega
  have n1 := nu_is l0 (by omega)
  have n2 := nu_is (show t.length = (addY y c).chairs.length by rw [hl]; simp [addY]) (by omega)
  have tg : ∀ i, i < y.chairs.length → (t.take y.chairs.length)[i]? = t[i]? := fun i hi => by rw [List.getElem?_take, if_pos hi]
  have cg : ∀ i, i < y.chairs.length → (addY y c).chairs[i]? = y.chairs[i]? := fun i hi => by show (y.chairs ++ [c])[i]? = _; rw [List.getElem?_append_left hi]
  have fe : ∀ i j, i < y.chairs.length → j < y.chairs.length → fitB (addY y c) t i j = fitB y (t.take y.chairs.length) i j := fun i j hi hj => by
    unfold fitB; rw [tg i hi, tg j hj, cg i hi, cg j hj]; rfl
  have be : ∀ i, i < y.chairs.length → (sceneD (addY y c) t).broken.testBit i = (sceneD y (t.take y.chairs.length)).broken.testBit i := fun i hi => by
    show (bset (brokB _) _).testBit i = (bset (brokB _) _).testBit i
    rw [bset_bit, bset_bit, l0, hl]
    unfold brokB; rw [tg i hi]
    simp [hi, show i < y.chairs.length + 1 by omega]
  have in1 : ∀ a, (sceneD y (t.take y.chairs.length)).broken.testBit a = true → a < y.chairs.length := fun a ha => by
    have : (bset (brokB _) _).testBit a = true := ha
    rw [bset_bit, l0, Bool.and_eq_true, decide_eq_true_eq] at this; exact this.1
  have in2 : ∀ a, (sceneD (addY y c) t).broken.testBit a = true → a < y.chairs.length + 1 := fun a ha => by
    have : (bset (brokB _) _).testBit a = true := ha
    rw [bset_bit, hl, Bool.and_eq_true, decide_eq_true_eq] at this; exact this.1
  have u1 := nu_mono (fun a b ha hb h => by rw [fe a b (in1 a ha) (in1 b hb)]; exact h) (fun a ha => by rw [be a (in1 a ha)]; exact ha) n1 n2
  obtain ⟨q, hq⟩ : ∃ q, t[y.chairs.length]? = some q := ⟨_, List.getElem?_eq_getElem (by omega)⟩
  have hwh : whole t = whole (t.take y.chairs.length) + if isWhole q = true then 1 else 0 := by
    have e : t = t.take y.chairs.length ++ [q] := by
      have h := List.take_add_one (l := t) (i := y.chairs.length)
      rw [hq, List.take_of_length_le (by omega)] at h
      exact h
    have e2 : whole t = whole (t.take y.chairs.length ++ [q]) := congrArg whole e
    rw [e2]
    unfold whole
    rw [List.filter_append, List.length_append, List.filter_cons]
    split <;> simp
  have ew1 : (sceneD (addY y c) t).whole = whole t := rfl
  have ew2 : (sceneD y (t.take y.chairs.length)).whole = whole (t.take y.chairs.length) := rfl
  unfold mostT mostS
  rw [ew1, ew2, hwh]
  cases hw : isWhole q with
  | true =>
    have bk : (sceneD (addY y c) t).broken.testBit y.chairs.length = false := by
      show (bset (brokB _) _).testBit _ = false
      rw [bset_bit, brok_at hq, hw]; simp
    have in3 : ∀ a, (sceneD (addY y c) t).broken.testBit a = true → a < y.chairs.length := fun a ha => by
      have h1 := in2 a ha
      have h2 : a ≠ y.chairs.length := fun e => by rw [e, bk] at ha; cases ha
      omega
    have u2 := nu_mono (fun a b ha hb h => by rw [← fe a b (in3 a ha) (in3 b hb)]; exact h) (fun a ha => by rw [← be a (in3 a ha)]; exact ha) n2 n1
    simp only [if_true]
    omega
  | false =>
    have u2 := nu_near (k := y.chairs.length) (f := fun a b => fitB (addY y c) t a b && (decide (a < y.chairs.length + 1) && decide (b < y.chairs.length + 1))) (fun a b ha hb h => by
      simp only [Bool.and_eq_true, decide_eq_true_eq] at h
      rw [← fe a b (by omega) (by omega)]; exact h.1) (fun a ha h => by
      have := in2 a h
      rw [← be a (by omega)]; exact h) (x := nuB (sceneD (addY y c) t).fits (addY y c).chairs.length (sceneD (addY y c) t).broken) (by
      have e : (fun a b => fitB (addY y c) t a b && (decide (a < y.chairs.length + 1) && decide (b < y.chairs.length + 1))) = fitB (addY y c) t := by
        funext a b
        cases e : fitB (addY y c) t a b with
        | false => rfl
        | true => have := fitB_in e; rw [decide_eq_true (show a < y.chairs.length + 1 by omega), decide_eq_true (show b < y.chairs.length + 1 by omega)]; rfl
      rw [e]; exact n2) n1
    simp only [Bool.false_eq_true, if_false]
    omega
theorem fit_most {y : YardD} {f : Int} {t : List Pt} (hn : y.chairs.length ≤ 7) (hl : t.length = y.chairs.length) (h : y.fit ≤ f) : mostT y t ≤ mostT (fitY y f) t := by
  have n1 := nu_is hl (by omega)
  have n2 := nu_is (y := fitY y f) hl (by omega)
  have u := nu_mono (fun a b _ _ hf => by
    unfold fitB at hf ⊢
    show (match t[a]?, t[b]?, y.chairs[a]?, y.chairs[b]? with
      | some p, some q, some x, some z => (decide (((b : Nat) : Int) ≠ a) && nearC f x z) && joins p q
      | _, _, _, _ => false) = true
    revert hf
    cases t[a]? <;> cases t[b]? <;> cases y.chairs[a]? <;> cases y.chairs[b]? <;> simp
    rename_i x z
    intro h1 h2 h3
    refine ⟨⟨h1, ?_⟩, h3⟩
    unfold nearC at h2 ⊢
    rw [inB_iff] at h2 ⊢
    omega) (fun a ha => ha) n1 n2
  have e : (sceneD (fitY y f) t).whole = (sceneD y t).whole := rfl
  unfold mostT mostS
  rw [e]
  exact Nat.add_le_add_left u _
theorem chair_facts {y : YardD} {c : Ch} {f : Int} {t : List Pt} (hf : fault y = 0) (hx : fault (addY y c) = 0) (_hz : fault (fitY y f) = 0) (ht : isTruth (addY y c) t = true) (hl : t.length = y.chairs.length + 1) (hfit : y.fit ≤ f) : isTruth y (t.take y.chairs.length) = true ∧ mostT y (t.take y.chairs.length) ≤ mostT (addY y c) t ∧ (mostT (addY y c) t ≤ mostT y (t.take y.chairs.length) + 1 ∧ mostT y (t.take y.chairs.length) ≤ 200) ∧ mostT y (t.take y.chairs.length) ≤ mostT (fitY y f) (t.take y.chairs.length) ∧ True := by
  have h0 : isTruth y (t.take y.chairs.length) = true := by
    unfold isTruth at ht ⊢
    rw [Bool.and_eq_true, decide_eq_true_eq, List.all_eq_true] at ht ⊢
    refine ⟨by rw [List.length_take]; omega, fun x hx => ?_⟩
    obtain ⟨i, hi⟩ := List.mem_iff_getElem?.1 hx
    obtain ⟨c', q⟩ := x
    rw [List.getElem?_zip_eq_some] at hi
    have hil := (List.getElem?_eq_some_iff.1 hi.1).1
    refine ht.2 (c', q) (List.mem_iff_getElem?.2 ⟨i, ?_⟩)
    rw [List.getElem?_zip_eq_some]
    refine ⟨by show (y.chairs ++ [c])[i]? = _; rw [List.getElem?_append_left hil]; exact hi.1, ?_⟩
    have := hi.2
    rw [List.getElem?_take, if_pos hil] at this; exact this
  obtain ⟨a1, a2⟩ := chair_most hf hx ht hl h0
  exact ⟨h0, a1, ⟨a2, most_le hf h0⟩, fit_most (yOk hf).len (truthOk h0).1 hfit, trivial⟩
theorem mc_ok {m n k : Nat} (h1 : n ≤ m) (h2 : m ≤ n + 1 ∧ n ≤ 200) (h3 : n ≤ k) : ((((((decide ((0 : Int) = 0) && decide ((0 : Int) = 0)) && decide ((m : Int) ≥ (n : Int))) && decide ((m : Int) ≤ (n : Int) + 1)) && decide ((0 : Int) = 0)) && decide ((k : Int) ≥ (n : Int))) && true) = true := by
  rw [decide_eq_true (show (m : Int) ≥ (n : Int) by omega), decide_eq_true (show (m : Int) ≤ (n : Int) + 1 by omega), decide_eq_true (show (k : Int) ≥ (n : Int) by omega)]; rfl
set_option maxHeartbeats 2000000 in
theorem MendChair_ok (yv : Value) (y : YardD) (c : Ch) (w b : Int) (D : Data) (hy : YardIs D yv y) (hw : 0 ≤ w ∧ w ≤ 65535) (hb : 0 ≤ b ∧ b ≤ 255) (hbig : y.chairs.length ≤ 1048576) : Fn Try.prog 11 #[yv, chV c, .int .u16 w, .int .u8 b] D (fun _ v => v = .bool true) := by
  have hy0 := hy
  obtain ⟨cv, qv, rfl, hc, hq⟩ := hy
  obtain ⟨wn, rfl⟩ := Int.eq_ofNat_of_zero_le hw.1
  obtain ⟨bn, rfl⟩ := Int.eq_ofNat_of_zero_le hb.1
  have hcl := hbig
  refine enter 118 Try.func11 rfl rfl rfl rfl fun h0 => ?_
  refine C.seq ?_
  refine C.region [(false,0),(false,1),(false,2)] rfl ?_
  refine L.boxD rfl rfl rfl rfl trivial (fun q1 E1 hE1 hB1 => ?_)
  refine L.boxD rfl rfl rfl rfl trivial (fun q2 E2 hE2 hB2 => ?_)
  refine L.assign rfl rfl rfl trivial ?_
  refine L.nil ?_
  refine C.next ?_
  refine C.seq ?_
  refine C.drawS (But.mk [q1]) 1 [false,true,true,true,true,false] [.fork [0,1] 2 (.fin [3]) 3 (.fin [2]), .fin [4,5]] Tf.follows (fun _ _ _ h => np_body (P := Try.prog) (fn := Try.f11) _ _ _ h) (by kernel_rfl) ?_
  refine S.join (γ := Nat × Nat) (fun g => True) (fun g => [(9, .pointer (some ⟨g.1, 0, none⟩)), (10, .pointer (some ⟨g.2, 0, none⟩)), (4, .pointer (some ⟨q1, 0, none⟩)), (5, .pointer (some ⟨q2, 0, none⟩)), (2, .int .u16 (wn : Int)), (3, .int .u8 (bn : Int)), (8, .bool false), (18, .agg #[cv, .int .i64 y.fit, qv]), (19, .agg #[cv, .int .i64 y.fit, qv])]) (fun g => [(g.1, .cells [.slice none 0 0, .int .i64 0, .slice none 0 0].toArray 25 (0, 0)), (g.2, .cells [.slice none 0 0, .int .i64 0, .slice none 0 0].toArray 25 (0, 0))]) (fun g => [E2, E1, D]) [.fork [0,1] 2 (.fin [3]) 3 (.fin [2])] [.fin [4,5]] rfl ?_ ?_
  · refine S.cons ?_
    refine L.planFork [(false,0),(true,1)] rfl ?_
    refine L.loadDW rfl Tf.a25 rfl hB1 (by simp) Tf.s25 (But.out (by simp)) rfl trivial ?_
    refine L.loadDW rfl Tf.a25 rfl hB1 (by simp) Tf.s25 (But.out (by simp)) rfl trivial ?_
    refine L.nil (L.forkP true true rfl rfl ?_ ?_)
    · refine L.alloc rfl Tf.z25 rfl rfl trivial (fun q3 => ?_)
      refine L.nil ?_
      refine L.planFin [(true,3)] rfl ?_
      refine L.alloc rfl Tf.z25 rfl rfl trivial (fun q4 => ?_)
      refine L.nil ?_
      exact fun a w hh => ⟨(q3, q4), trivial, hh.swap2.weak ⟨rfl, rfl, rfl, rfl, rfl, rfl, rfl, rfl, rfl, trivial⟩ (List.Sublist.refl _) ds_same⟩
    · refine L.alloc rfl Tf.z25 rfl rfl trivial (fun q3 => ?_)
      refine L.nil ?_
      refine L.planFin [(true,2)] rfl ?_
      refine L.alloc rfl Tf.z25 rfl rfl trivial (fun q4 => ?_)
      refine L.nil ?_
      exact fun a w hh => ⟨(q4, q3), trivial, hh.weak ⟨rfl, rfl, rfl, rfl, rfl, rfl, rfl, rfl, rfl, trivial⟩ (List.Sublist.refl _) ds_same⟩
  rintro ⟨g9, g10⟩ -
  dsimp only
  refine S.fin [(true,4),(false,5)] rfl ?_
  refine L.apart hB1 (by simp) (fun hap => ?_)
  refine L.storeB rfl rfl rfl rfl Tf.s25 (Has.head) (by simp) rfl (cell1_yard hc.cell1 hq.cell1) (by first | exact Or.inl rfl | exact (Or.inr (But.in_ (by rw [List.mem_singleton]; rintro rfl; exact hap (List.mem_map.2 ⟨_, (List.Mem.head _), rfl⟩))))) trivial ?_
  refine L.apart hB1 (by simp) (fun hap => ?_)
  refine L.storeB rfl rfl rfl rfl Tf.s25 (.tail (Has.head)) (by simp) rfl (cell1_yard hc.cell1 hq.cell1) (by first | exact Or.inl rfl | exact (Or.inr (But.in_ (by rw [List.mem_singleton]; rintro rfl; exact hap (List.mem_map.2 ⟨_, (List.Mem.tail _ (List.Mem.head _)), rfl⟩))))) trivial ?_
  refine L.nil ?_
  refine S.nil ?_
  refine C.next ?_
  refine C.seq ?_
  refine C.drawS [] 3 [true,false,false,true,true,true,false,false,false] [.fork [1,2,4] 0 (.fork [] 3 (.fin [5]) 5 (.fin [3])) 5 (.fin [0,3]), .fin [6,7,8]] Tf.follows (fun _ _ _ h => np_body (P := Try.prog) (fn := Try.f11) _ _ _ h) (by kernel_rfl) ?_
  refine S.cons ?_
  refine L.planFork [(false,1),(false,2),(true,4)] rfl ?_
  refine L.fieldAddr rfl Tf.f25_0 rfl rfl trivial ?_
  refine L.loadD1 rfl (k := 0) Tf.a22 rfl hB1 (by first | simp | assumption) rfl List.not_mem_nil rfl trivial ?_
  refine L.loadDW rfl Tf.a94 rfl hB2 (by first | simp | assumption) Tf.s94 List.not_mem_nil rfl trivial ?_
  refine L.nil (L.forkP true true rfl rfl ?_ ?_)
  · refine L.buildSlice rfl Try.underlying22 Tf.s94 Tf.z94 rfl rfl rfl rfl .nil rfl trivial (fun b901 D901 hD901 hA901 => ?_)
    skip
    refine L.nil ?_
    refine L.planFork [] rfl ?_
    refine L.nil (L.forkP true true rfl rfl ?_ ?_)
    · refine L.append (A := []) (ν := []) (B := [(_, _), (_, _)]) rfl Try.underlying22 rfl rfl Tf.s94 Tf.z94 rfl Tf.i94 rfl rfl rfl Acc.nil (Src.chs hc) (by simp) (chC_lenn _ _ rfl) (by simp) (chC_cell1 _) (by omega) (Or.inr (by simp)) rfl trivial (fun v7 ν7 ha7 => ?_)
      refine L.nil ?_
      refine L.planFin [(true,5)] rfl ?_
      refine L.buildSlice rfl Try.underlying22 Tf.s94 Tf.z94 rfl rfl rfl rfl (.cons rfl rfl .nil) rfl trivial (fun b902 D902 hD902 hA902 => ?_)
      skip
      refine L.nil ?_
      refine S.fin [(false,6),(false,7),(false,8)] rfl ?_
      refine L.append (A := []) (ν := ν7) (B := [(_, _), (_, _)]) rfl Try.underlying22 rfl rfl Tf.s94 Tf.z94 rfl Tf.i94 rfl rfl rfl ha7 (Src.lit (by assumption)) (by simp) rfl (by simpa using chC_lenn y.chairs _ rfl) (by simp [cell1]) (by omega) (Or.inl rfl) rfl trivial (fun v8 ν8 ha8 => ?_)
      have hn8 : Acc 94 4 v8 (y.chairs.length + 1) (chC (y.chairs ++ [c])) ν8 := by rw [chC_snoc]; simpa using ha8
      refine L.fieldAddr rfl Tf.f25_0 rfl rfl trivial ?_
      refine L.store rfl rfl rfl hn8.cells1 Tf.s22 (.app (Has.head)) (by simp) rfl hn8.cell1 trivial ?_
      refine L.nil ?_
      refine S.nil ?_
      refine C.next ?_
      refine C.seq ?_
      refine C.region [(false,0),(false,1),(false,2),(false,3),(false,4),(false,5),(false,6),(false,7),(false,8)] rfl ?_
      refine L.fieldAddr rfl Tf.f25_1 rfl rfl trivial ?_
      refine L.loadD1 rfl (k := 1) Tf.a3 rfl hB1 (by first | simp | assumption) rfl List.not_mem_nil rfl trivial ?_
      refine L.move rfl rfl rfl trivial ?_
      refine L.convI rfl Try.underlying5 Try.underlying3 rfl (by simp only [inK]; omega) rfl trivial ?_
      refine L.rem rfl rfl rfl (by omega) (by omega) (by simp only [inK]; omega) rfl trivial ?_
      refine L.addW rfl rfl rfl rfl trivial ?_
      refine L.min2 rfl rfl rfl rfl trivial ?_
      refine L.fieldAddr rfl Tf.f25_1 rfl rfl trivial ?_
      refine L.store rfl rfl rfl rfl Tf.s3 (.app (.tail (Has.head))) (by simp) rfl (by simp [cell1]) trivial ?_
      refine L.nil ?_
      refine C.next ?_
      refine C.seq ?_
      refine C.seq ?_
      obtain ⟨zf, hzf⟩ : ∃ z, min 9 (IntKind.i64.wrap (y.fit + (bn : Int) % 4)) = z := ⟨_, rfl⟩
      rw [hzf]
      refine C.freeze (A := []) (B := [(_, _), (_, _)]) hn8 rfl (fun D8 hD8 hF => ?_)
      have hxr : YardIs D8 (.agg #[v8, .int .i64 y.fit, qv]) (addY y c) := ⟨_, _, rfl, hF.chs (by simp) (by omega), hq.up R2.up (hD8 _ (by simp))⟩
      have hzr : YardIs D8 (.agg #[cv, .int .i64 zf, qv]) (fitY y zf) := ⟨_, _, rfl, hc.up RCh.up (hD8 _ (by simp)), hq.up R2.up (hD8 _ (by simp))⟩
      refine C.region [(false,0),(false,1),(false,2),(false,3),(false,4),(false,5),(false,6),(false,7),(false,8),(false,9),(false,10),(false,11),(false,12)] rfl ?_
      refine L.loadDW rfl Tf.a25 rfl hB1 (by first | simp | assumption) Tf.s25 List.not_mem_nil rfl trivial ?_
      refine L.callV rfl rfl rfl (fun D1 hD1 => ready_ok _ y _ (hy0.up (hD1 _ (by simp)))) rfl trivial ?_
      refine L.not rfl rfl rfl trivial ?_
      refine L.move rfl rfl rfl trivial ?_
      refine' L.or [(false,4),(false,5),(false,6),(false,7)] [(false,8),(false,9),(false,10),(false,11),(false,12)] (s := 39) (p := 43) rfl rfl (fun hg1 => ?_) (fun hg1 => ?_) ?_
      rotate_left
      · refine L.loadBW rfl Tf.a25 rfl (List.Mem.head _) Tf.s25 List.not_mem_nil rfl ⟨_, rfl, rfl⟩ ?_
        refine L.callV rfl rfl rfl (fun D2 hD2 => ready_ok _ (addY y c) _ (hxr.up (hD2 _ (by simp)))) rfl ⟨_, rfl, rfl⟩ ?_
        refine L.not rfl rfl rfl ⟨_, rfl, rfl⟩ ?_
        refine L.pickF rfl rfl rfl rfl trivial ?_
        exact L.nil fun a w hh => hh.cutK 3 rfl
      · refine L.pass rfl rfl rfl ⟨_, _, rfl, rfl, rfl⟩ ?_
        refine L.pass rfl rfl rfl ⟨_, _, rfl, rfl, rfl⟩ ?_
        refine L.pass rfl rfl rfl ⟨_, _, rfl, rfl, rfl⟩ ?_
        refine L.pickT rfl rfl rfl rfl trivial ?_
        exact L.nil fun a w hh => hh.cutK 3 rfl
      refine L.move rfl rfl rfl trivial ?_
      refine' L.or [(false,9),(false,10),(false,11),(false,12)] [] (s := 44) (p := 48) rfl rfl (fun hg2 => ?_) (fun hg2 => ?_) ?_
      rotate_left
      · refine L.loadBW rfl Tf.a25 rfl (List.Mem.tail _ (List.Mem.head _)) Tf.s25 List.not_mem_nil rfl ⟨_, rfl, rfl⟩ ?_
        refine L.callV rfl rfl rfl (fun D3 hD3 => ready_ok _ (fitY y zf) _ (hzr.up (hD3 _ (by simp)))) rfl ⟨_, rfl, rfl⟩ ?_
        refine L.not rfl rfl rfl ⟨_, rfl, rfl⟩ ?_
        refine L.pickF rfl rfl rfl rfl trivial ?_
        exact L.nil fun a w hh => hh.cutK 3 rfl
      · refine L.pass rfl rfl rfl ⟨_, _, rfl, rfl, rfl⟩ ?_
        refine L.pass rfl rfl rfl ⟨_, _, rfl, rfl, rfl⟩ ?_
        refine L.pass rfl rfl rfl ⟨_, _, rfl, rfl, rfl⟩ ?_
        refine L.pickT rfl rfl rfl rfl trivial ?_
        exact L.nil fun a w hh => hh.cutK 3 rfl
      refine L.nil ?_
      refine C.next ?_
      refine C.cond rfl (fun hc1 => ?_) (fun hc1 => ?_)
      · refine C.seq ?_
        refine C.region [(false,0),(false,1)] rfl ?_
        refine L.callV rfl rfl rfl (fun D4 hD4 => awake_ok _) rfl trivial ?_
        refine L.assign rfl rfl rfl trivial ?_
        refine L.nil ?_
        refine C.next ?_
        refine C.ret ?_
        refine C.thenRet ?_
        exact leave (vs := [_]) rfl rfl rfl ⟨rfl, trivial⟩ (fun D hD => rfl)
      · obtain ⟨hcab, hcc⟩ := two_no hc1
        obtain ⟨hca, hcb⟩ := two_no hcab
        obtain ⟨hthin, hf0⟩ := ready_inB hca
        obtain ⟨hthx, hfx⟩ := ready_inB hcb
        obtain ⟨hthz, hfz⟩ := ready_inB hcc
        obtain ⟨hlc, hlq⟩ := thin_len hthin
        have hyo := yOk hf0
        have hn7 := hyo.len
        have hux := unk_8 hfx
        have hp8 : 2 ^ unknown (addY y c).chairs ≤ 2 ^ 8 := Nat.pow_le_pow_right (by omega) hux
        have hzle : y.fit ≤ zf := by have := hyo.fit; rw [← hzf, wrap_in (show inK .i64 (y.fit + (bn : Int) % 4) by simp only [inK]; omega)]; omega
        refine C.skip ?_
        refine C.next ?_
        refine C.seq ?_
        refine C.draw [] 3 [0,1,2,3,4,5,6,7] [false,true,true,true,true,true,false,false] [(false,0),(true,1),(true,2),(true,3),(true,4),(true,5),(false,6),(false,7)] Tf.follows (fun _ _ _ h => np_body (P := Try.prog) (fn := Try.f11) _ _ _ h) (by kernel_rfl) rfl ?_
        refine L.loadBW rfl Tf.a25 rfl (List.Mem.head _) Tf.s25 List.not_mem_nil rfl trivial ?_
        refine L.move rfl rfl rfl trivial ?_
        refine L.convI rfl Try.underlying82 Try.underlying3 rfl (by simp only [inK]; omega) rfl trivial ?_
        refine L.loadBW rfl Tf.a25 rfl (List.Mem.head _) Tf.s25 List.not_mem_nil rfl trivial ?_
        refine L.callV rfl rfl rfl (fun D5 hD5 => Many_ok _ (addY y c) _ (hxr.up (hD5 _ (by simp))) (by simp only [addY, List.length_append, List.length_singleton]; omega) (unk_8 hfx)) rfl trivial ?_
        refine L.rem rfl rfl rfl (by omega) (by have := Nat.two_pow_pos (unknown (addY y c).chairs); omega) (by simp only [inK]; exact mod_in (by omega)) rfl trivial ?_
        refine L.call rfl rfl rfl (fun D6 hD6 => Nth_ok2 _ (addY y c) _ (wn % 2 ^ unknown (addY y c).chairs) _ rfl (hxr.up (hD6 _ (by simp))) (by simp only [addY, List.length_append, List.length_singleton]; omega) (by have := Nat.mod_lt wn (Nat.two_pow_pos (unknown (addY y c).chairs)); omega)) rfl trivial (fun v6 D6 hD6 hp6 => ?_)
        obtain ⟨t, ht, hit⟩ := nth_open (yOk hfx) hp6
        obtain ⟨hlen, hbt⟩ := truthOk hit
        have hln : t.length = y.chairs.length + 1 := by rw [hlen]; simp [addY]
        obtain ⟨hit0, hmm1, hmm2, hmm3, hmm4⟩ := chair_facts hf0 hfx hfz hit hln hzle
        refine L.assign rfl rfl rfl trivial ?_
        refine L.nil ?_
        refine C.next ?_
        refine C.seq ?_
        refine C.draw [] 7 [0,2,3,4,5,6,1,7,8,9,10,11,12,13] [false,true,true,true,true,true,true,false,false,false,false,true,true,false] [(false,0),(true,2),(true,3),(true,4),(true,5),(true,6),(true,1),(false,7),(false,8),(false,9),(false,10),(true,11),(true,12),(false,13)] Tf.follows (fun _ _ _ h => np_body (P := Try.prog) (fn := Try.f11) _ _ _ h) (by kernel_rfl) rfl ?_
        refine L.loadDW rfl Tf.a25 rfl hB1 (by first | simp | assumption) Tf.s25 List.not_mem_nil rfl trivial ?_
        refine L.move rfl rfl rfl trivial ?_
        refine L.move rfl rfl rfl trivial ?_
        refine L.len rfl Try.underlying26 rfl ht rfl rfl trivial ?_
        refine L.sub rfl rfl rfl (by simp only [inK]; omega) rfl trivial ?_
        refine L.sliceTo (k := y.chairs.length) rfl Try.underlying26 Tf.s91 rfl (by show some (Value.int _ _) = some (Value.int _ _); congr 2; omega) ht (by omega) rfl trivial (fun u hu => ?_)
        refine L.call rfl rfl rfl (fun D7 hD7 => YardL_ok _ y _ (hy0.up (hD7 _ (by simp))) (by omega) (by omega)) rfl trivial (fun v7 D7 hD7 hp7 => ?_)
        have hw := hp7
        refine L.call rfl rfl rfl (fun D8 hD8 => TruthL_ok _ (t.take y.chairs.length) _ (hu.up RP.up (hD8 _ (by simp))) (by first | omega | (rw [List.length_take]; omega))) rfl trivial (fun v8 D8 hD8 hp8 => ?_)
        have hz := hp8
        refine L.callV rfl rfl rfl (fun D9 hD9 => Play2_ok _ _ y (t.take y.chairs.length) _ (hw.up (hD9 _ (by simp))) (hz.up RP.up (hD9 _ (by simp))) hf0 hit0) rfl trivial ?_
        refine L.move rfl rfl rfl trivial ?_
        refine L.extract rfl rfl rfl rfl trivial ?_
        refine L.extract rfl rfl rfl rfl trivial ?_
        refine L.assign rfl rfl rfl trivial ?_
        refine L.assign rfl rfl rfl trivial ?_
        refine L.nil ?_
        refine C.next ?_
        refine C.seq ?_
        refine C.region [(false,0),(false,1),(false,2),(false,3),(false,4),(false,5),(false,6),(false,7),(false,8),(false,9)] rfl ?_
        refine L.loadBW rfl Tf.a25 rfl (List.Mem.head _) Tf.s25 List.not_mem_nil rfl trivial ?_
        refine L.call rfl rfl rfl (fun D10 hD10 => YardL_ok _ (addY y c) _ (hxr.up (hD10 _ (by simp))) (by simp only [addY, List.length_append, List.length_singleton]; omega) (by simp only [addY]; omega)) rfl trivial (fun v10 D10 hD10 hp10 => ?_)
        have hwx := hp10
        refine L.move rfl rfl rfl trivial ?_
        refine L.call rfl rfl rfl (fun D11 hD11 => TruthL_ok _ t _ (ht.up RP.up (hD11 _ (by simp))) (by first | omega | (rw [List.length_take]; omega))) rfl trivial (fun v11 D11 hD11 hp11 => ?_)
        have hz := hp11
        refine L.callV rfl rfl rfl (fun D12 hD12 => Play2_ok _ _ (addY y c) t _ (hwx.up (hD12 _ (by simp))) (hz.up RP.up (hD12 _ (by simp))) hfx hit) rfl trivial ?_
        refine L.move rfl rfl rfl trivial ?_
        refine L.extract rfl rfl rfl rfl trivial ?_
        refine L.extract rfl rfl rfl rfl trivial ?_
        refine L.assign rfl rfl rfl trivial ?_
        refine L.assign rfl rfl rfl trivial ?_
        refine L.nil ?_
        refine C.next ?_
        refine C.seq ?_
        refine C.draw [] 7 [0,2,3,4,5,6,1,7,8,9,10,11,12,13] [false,true,true,true,true,true,true,false,false,false,false,true,true,false] [(false,0),(true,2),(true,3),(true,4),(true,5),(true,6),(true,1),(false,7),(false,8),(false,9),(false,10),(true,11),(true,12),(false,13)] Tf.follows (fun _ _ _ h => np_body (P := Try.prog) (fn := Try.f11) _ _ _ h) (by kernel_rfl) rfl ?_
        refine L.loadBW rfl Tf.a25 rfl (List.Mem.tail _ (List.Mem.head _)) Tf.s25 List.not_mem_nil rfl trivial ?_
        refine L.move rfl rfl rfl trivial ?_
        refine L.move rfl rfl rfl trivial ?_
        refine L.len rfl Try.underlying26 rfl ht rfl rfl trivial ?_
        refine L.sub rfl rfl rfl (by simp only [inK]; omega) rfl trivial ?_
        refine L.sliceTo (k := y.chairs.length) rfl Try.underlying26 Tf.s91 rfl (by show some (Value.int _ _) = some (Value.int _ _); congr 2; omega) ht (by omega) rfl trivial (fun u hu => ?_)
        refine L.call rfl rfl rfl (fun D13 hD13 => YardL_ok _ (fitY y zf) _ (hzr.up (hD13 _ (by simp))) (by simp only [fitY]; omega) (by simp only [fitY]; omega)) rfl trivial (fun v13 D13 hD13 hp13 => ?_)
        have hwx := hp13
        refine L.call rfl rfl rfl (fun D14 hD14 => TruthL_ok _ (t.take y.chairs.length) _ (hu.up RP.up (hD14 _ (by simp))) (by first | omega | (rw [List.length_take]; omega))) rfl trivial (fun v14 D14 hD14 hp14 => ?_)
        have hz := hp14
        refine L.callV rfl rfl rfl (fun D15 hD15 => Play2_ok _ _ (fitY y zf) (t.take y.chairs.length) _ (hwx.up (hD15 _ (by simp))) (hz.up RP.up (hD15 _ (by simp))) hfz hit0) rfl trivial ?_
        refine L.move rfl rfl rfl trivial ?_
        refine L.extract rfl rfl rfl rfl trivial ?_
        refine L.extract rfl rfl rfl rfl trivial ?_
        refine L.assign rfl rfl rfl trivial ?_
        refine L.assign rfl rfl rfl trivial ?_
        refine L.nil ?_
        refine C.next ?_
        refine C.seq ?_
        refine C.region [(false,0),(false,1),(false,2),(false,3),(false,4),(false,5),(false,6),(false,7),(false,8),(false,9),(false,10),(false,11),(false,12),(false,13),(false,14),(false,15),(false,16),(false,17),(false,18),(false,19),(false,20),(false,21),(false,22),(false,23),(false,24),(false,25),(false,26),(false,27),(false,28),(false,29)] rfl ?_
        refine L.move rfl rfl rfl trivial ?_
        refine L.eql rfl rfl rfl rfl trivial ?_
        refine L.move rfl rfl rfl trivial ?_
        refine' L.and [(false,3),(false,4),(false,5)] [(false,6),(false,7),(false,8),(false,9),(false,10),(false,11),(false,12),(false,13),(false,14),(false,15),(false,16),(false,17),(false,18),(false,19),(false,20),(false,21),(false,22),(false,23),(false,24),(false,25),(false,26),(false,27),(false,28),(false,29)] (s := 91) (p := 94) rfl rfl (fun hg3 => ?_) (fun hg3 => ?_) ?_
        rotate_left
        · refine L.move rfl rfl rfl ⟨_, rfl, rfl⟩ ?_
          refine L.eql rfl rfl rfl rfl ⟨_, rfl, rfl⟩ ?_
          refine L.pickT rfl rfl rfl rfl trivial ?_
          exact L.nil fun a w hh => hh.cutK 2 rfl
        · refine L.pass rfl rfl rfl ⟨_, _, rfl, rfl, rfl⟩ ?_
          refine L.pass rfl rfl rfl ⟨_, _, rfl, rfl, rfl⟩ ?_
          refine L.pickF rfl rfl rfl rfl trivial ?_
          exact L.nil fun a w hh => hh.cutK 2 rfl
        refine L.move rfl rfl rfl trivial ?_
        refine' L.and [(false,7),(false,8),(false,9),(false,10)] [(false,11),(false,12),(false,13),(false,14),(false,15),(false,16),(false,17),(false,18),(false,19),(false,20),(false,21),(false,22),(false,23),(false,24),(false,25),(false,26),(false,27),(false,28),(false,29)] (s := 95) (p := 99) rfl rfl (fun hg4 => ?_) (fun hg4 => ?_) ?_
        rotate_left
        · refine L.move rfl rfl rfl ⟨_, rfl, rfl⟩ ?_
          refine L.move rfl rfl rfl ⟨_, rfl, rfl⟩ ?_
          refine L.geq rfl rfl rfl rfl ⟨_, rfl, rfl⟩ ?_
          refine L.pickT rfl rfl rfl rfl trivial ?_
          exact L.nil fun a w hh => hh.cutK 3 rfl
        · refine L.pass rfl rfl rfl ⟨_, _, rfl, rfl, rfl⟩ ?_
          refine L.pass rfl rfl rfl ⟨_, _, rfl, rfl, rfl⟩ ?_
          refine L.pass rfl rfl rfl ⟨_, _, rfl, rfl, rfl⟩ ?_
          refine L.pickF rfl rfl rfl rfl trivial ?_
          exact L.nil fun a w hh => hh.cutK 3 rfl
        refine L.move rfl rfl rfl trivial ?_
        refine' L.and [(false,12),(false,13),(false,14),(false,15),(false,16)] [(false,17),(false,18),(false,19),(false,20),(false,21),(false,22),(false,23),(false,24),(false,25),(false,26),(false,27),(false,28),(false,29)] (s := 100) (p := 105) rfl rfl (fun hg5 => ?_) (fun hg5 => ?_) ?_
        rotate_left
        · refine L.move rfl rfl rfl ⟨_, rfl, rfl⟩ ?_
          refine L.move rfl rfl rfl ⟨_, rfl, rfl⟩ ?_
          refine L.add rfl rfl rfl (by simp only [inK]; omega) rfl ⟨_, rfl, rfl⟩ ?_
          refine L.leq rfl rfl rfl rfl ⟨_, rfl, rfl⟩ ?_
          refine L.pickT rfl rfl rfl rfl trivial ?_
          exact L.nil fun a w hh => hh.cutK 4 rfl
        · refine L.pass rfl rfl rfl ⟨_, _, rfl, rfl, rfl⟩ ?_
          refine L.pass rfl rfl rfl ⟨_, _, rfl, rfl, rfl⟩ ?_
          refine L.pass rfl rfl rfl ⟨_, _, rfl, rfl, rfl⟩ ?_
          refine L.pass rfl rfl rfl ⟨_, _, rfl, rfl, rfl⟩ ?_
          refine L.pickF rfl rfl rfl rfl trivial ?_
          exact L.nil fun a w hh => hh.cutK 4 rfl
        refine L.move rfl rfl rfl trivial ?_
        refine' L.and [(false,18),(false,19),(false,20)] [(false,21),(false,22),(false,23),(false,24),(false,25),(false,26),(false,27),(false,28),(false,29)] (s := 106) (p := 109) rfl rfl (fun hg6 => ?_) (fun hg6 => ?_) ?_
        rotate_left
        · refine L.move rfl rfl rfl ⟨_, rfl, rfl⟩ ?_
          refine L.eql rfl rfl rfl rfl ⟨_, rfl, rfl⟩ ?_
          refine L.pickT rfl rfl rfl rfl trivial ?_
          exact L.nil fun a w hh => hh.cutK 2 rfl
        · refine L.pass rfl rfl rfl ⟨_, _, rfl, rfl, rfl⟩ ?_
          refine L.pass rfl rfl rfl ⟨_, _, rfl, rfl, rfl⟩ ?_
          refine L.pickF rfl rfl rfl rfl trivial ?_
          exact L.nil fun a w hh => hh.cutK 2 rfl
        refine L.move rfl rfl rfl trivial ?_
        refine' L.and [(false,22),(false,23),(false,24),(false,25)] [(false,26),(false,27),(false,28),(false,29)] (s := 110) (p := 114) rfl rfl (fun hg7 => ?_) (fun hg7 => ?_) ?_
        rotate_left
        · refine L.move rfl rfl rfl ⟨_, rfl, rfl⟩ ?_
          refine L.move rfl rfl rfl ⟨_, rfl, rfl⟩ ?_
          refine L.geq rfl rfl rfl rfl ⟨_, rfl, rfl⟩ ?_
          refine L.pickT rfl rfl rfl rfl trivial ?_
          exact L.nil fun a w hh => hh.cutK 3 rfl
        · refine L.pass rfl rfl rfl ⟨_, _, rfl, rfl, rfl⟩ ?_
          refine L.pass rfl rfl rfl ⟨_, _, rfl, rfl, rfl⟩ ?_
          refine L.pass rfl rfl rfl ⟨_, _, rfl, rfl, rfl⟩ ?_
          refine L.pickF rfl rfl rfl rfl trivial ?_
          exact L.nil fun a w hh => hh.cutK 3 rfl
        refine L.move rfl rfl rfl trivial ?_
        refine' L.and [(false,27),(false,28)] [(false,29)] (s := 115) (p := 117) rfl rfl (fun hg8 => ?_) (fun hg8 => ?_) ?_
        rotate_left
        · refine L.callV rfl rfl rfl (fun D16 hD16 => awake_ok _) rfl ⟨_, rfl, rfl⟩ ?_
          refine L.pickT rfl rfl rfl rfl trivial ?_
          exact L.nil fun a w hh => hh.cutK 1 rfl
        · refine L.pass rfl rfl rfl ⟨_, _, rfl, rfl, rfl⟩ ?_
          refine L.pickF rfl rfl rfl rfl trivial ?_
          exact L.nil fun a w hh => hh.cutK 1 rfl
        refine L.assign rfl rfl rfl trivial ?_
        refine L.nil ?_
        refine C.next ?_
        refine C.ret ?_
        exact leave (vs := [_]) rfl rfl rfl ⟨rfl, trivial⟩ (fun D hD => congrArg Value.bool (mc_ok hmm1 hmm2 hmm3))
    · refine L.buildSlice rfl Try.underlying22 Tf.s94 Tf.z94 rfl rfl rfl rfl (.cons rfl rfl .nil) rfl trivial (fun b902 D902 hD902 hA902 => ?_)
      skip
      refine L.nil ?_
      refine L.planFin [(true,3)] rfl ?_
      refine L.append (A := []) (ν := []) (B := [(_, _), (_, _)]) rfl Try.underlying22 rfl rfl Tf.s94 Tf.z94 rfl Tf.i94 rfl rfl rfl Acc.nil (Src.chs hc) (by simp) (chC_lenn _ _ rfl) (by simp) (chC_cell1 _) (by omega) (Or.inr (by simp)) rfl trivial (fun v7 ν7 ha7 => ?_)
      refine L.nil ?_
      refine S.fin [(false,6),(false,7),(false,8)] rfl ?_
      refine L.append (A := []) (ν := ν7) (B := [(_, _), (_, _)]) rfl Try.underlying22 rfl rfl Tf.s94 Tf.z94 rfl Tf.i94 rfl rfl rfl ha7 (Src.lit (by assumption)) (by simp) rfl (by simpa using chC_lenn y.chairs _ rfl) (by simp [cell1]) (by omega) (Or.inl rfl) rfl trivial (fun v8 ν8 ha8 => ?_)
      have hn8 : Acc 94 4 v8 (y.chairs.length + 1) (chC (y.chairs ++ [c])) ν8 := by rw [chC_snoc]; simpa using ha8
      refine L.fieldAddr rfl Tf.f25_0 rfl rfl trivial ?_
      refine L.store rfl rfl rfl hn8.cells1 Tf.s22 (.app (Has.head)) (by simp) rfl hn8.cell1 trivial ?_
      refine L.nil ?_
      refine S.nil ?_
      refine C.next ?_
      refine C.seq ?_
      refine C.region [(false,0),(false,1),(false,2),(false,3),(false,4),(false,5),(false,6),(false,7),(false,8)] rfl ?_
      refine L.fieldAddr rfl Tf.f25_1 rfl rfl trivial ?_
      refine L.loadD1 rfl (k := 1) Tf.a3 rfl hB1 (by first | simp | assumption) rfl List.not_mem_nil rfl trivial ?_
      refine L.move rfl rfl rfl trivial ?_
      refine L.convI rfl Try.underlying5 Try.underlying3 rfl (by simp only [inK]; omega) rfl trivial ?_
      refine L.rem rfl rfl rfl (by omega) (by omega) (by simp only [inK]; omega) rfl trivial ?_
      refine L.addW rfl rfl rfl rfl trivial ?_
      refine L.min2 rfl rfl rfl rfl trivial ?_
      refine L.fieldAddr rfl Tf.f25_1 rfl rfl trivial ?_
      refine L.store rfl rfl rfl rfl Tf.s3 (.app (.tail (Has.head))) (by simp) rfl (by simp [cell1]) trivial ?_
      refine L.nil ?_
      refine C.next ?_
      refine C.seq ?_
      refine C.seq ?_
      obtain ⟨zf, hzf⟩ : ∃ z, min 9 (IntKind.i64.wrap (y.fit + (bn : Int) % 4)) = z := ⟨_, rfl⟩
      rw [hzf]
      refine C.freeze (A := []) (B := [(_, _), (_, _)]) hn8 rfl (fun D8 hD8 hF => ?_)
      have hxr : YardIs D8 (.agg #[v8, .int .i64 y.fit, qv]) (addY y c) := ⟨_, _, rfl, hF.chs (by simp) (by omega), hq.up R2.up (hD8 _ (by simp))⟩
      have hzr : YardIs D8 (.agg #[cv, .int .i64 zf, qv]) (fitY y zf) := ⟨_, _, rfl, hc.up RCh.up (hD8 _ (by simp)), hq.up R2.up (hD8 _ (by simp))⟩
      refine C.region [(false,0),(false,1),(false,2),(false,3),(false,4),(false,5),(false,6),(false,7),(false,8),(false,9),(false,10),(false,11),(false,12)] rfl ?_
      refine L.loadDW rfl Tf.a25 rfl hB1 (by first | simp | assumption) Tf.s25 List.not_mem_nil rfl trivial ?_
      refine L.callV rfl rfl rfl (fun D1 hD1 => ready_ok _ y _ (hy0.up (hD1 _ (by simp)))) rfl trivial ?_
      refine L.not rfl rfl rfl trivial ?_
      refine L.move rfl rfl rfl trivial ?_
      refine' L.or [(false,4),(false,5),(false,6),(false,7)] [(false,8),(false,9),(false,10),(false,11),(false,12)] (s := 39) (p := 43) rfl rfl (fun hg1 => ?_) (fun hg1 => ?_) ?_
      rotate_left
      · refine L.loadBW rfl Tf.a25 rfl (List.Mem.head _) Tf.s25 List.not_mem_nil rfl ⟨_, rfl, rfl⟩ ?_
        refine L.callV rfl rfl rfl (fun D2 hD2 => ready_ok _ (addY y c) _ (hxr.up (hD2 _ (by simp)))) rfl ⟨_, rfl, rfl⟩ ?_
        refine L.not rfl rfl rfl ⟨_, rfl, rfl⟩ ?_
        refine L.pickF rfl rfl rfl rfl trivial ?_
        exact L.nil fun a w hh => hh.cutK 3 rfl
      · refine L.pass rfl rfl rfl ⟨_, _, rfl, rfl, rfl⟩ ?_
        refine L.pass rfl rfl rfl ⟨_, _, rfl, rfl, rfl⟩ ?_
        refine L.pass rfl rfl rfl ⟨_, _, rfl, rfl, rfl⟩ ?_
        refine L.pickT rfl rfl rfl rfl trivial ?_
        exact L.nil fun a w hh => hh.cutK 3 rfl
      refine L.move rfl rfl rfl trivial ?_
      refine' L.or [(false,9),(false,10),(false,11),(false,12)] [] (s := 44) (p := 48) rfl rfl (fun hg2 => ?_) (fun hg2 => ?_) ?_
      rotate_left
      · refine L.loadBW rfl Tf.a25 rfl (List.Mem.tail _ (List.Mem.head _)) Tf.s25 List.not_mem_nil rfl ⟨_, rfl, rfl⟩ ?_
        refine L.callV rfl rfl rfl (fun D3 hD3 => ready_ok _ (fitY y zf) _ (hzr.up (hD3 _ (by simp)))) rfl ⟨_, rfl, rfl⟩ ?_
        refine L.not rfl rfl rfl ⟨_, rfl, rfl⟩ ?_
        refine L.pickF rfl rfl rfl rfl trivial ?_
        exact L.nil fun a w hh => hh.cutK 3 rfl
      · refine L.pass rfl rfl rfl ⟨_, _, rfl, rfl, rfl⟩ ?_
        refine L.pass rfl rfl rfl ⟨_, _, rfl, rfl, rfl⟩ ?_
        refine L.pass rfl rfl rfl ⟨_, _, rfl, rfl, rfl⟩ ?_
        refine L.pickT rfl rfl rfl rfl trivial ?_
        exact L.nil fun a w hh => hh.cutK 3 rfl
      refine L.nil ?_
      refine C.next ?_
      refine C.cond rfl (fun hc1 => ?_) (fun hc1 => ?_)
      · refine C.seq ?_
        refine C.region [(false,0),(false,1)] rfl ?_
        refine L.callV rfl rfl rfl (fun D4 hD4 => awake_ok _) rfl trivial ?_
        refine L.assign rfl rfl rfl trivial ?_
        refine L.nil ?_
        refine C.next ?_
        refine C.ret ?_
        refine C.thenRet ?_
        exact leave (vs := [_]) rfl rfl rfl ⟨rfl, trivial⟩ (fun D hD => rfl)
      · obtain ⟨hcab, hcc⟩ := two_no hc1
        obtain ⟨hca, hcb⟩ := two_no hcab
        obtain ⟨hthin, hf0⟩ := ready_inB hca
        obtain ⟨hthx, hfx⟩ := ready_inB hcb
        obtain ⟨hthz, hfz⟩ := ready_inB hcc
        obtain ⟨hlc, hlq⟩ := thin_len hthin
        have hyo := yOk hf0
        have hn7 := hyo.len
        have hux := unk_8 hfx
        have hp8 : 2 ^ unknown (addY y c).chairs ≤ 2 ^ 8 := Nat.pow_le_pow_right (by omega) hux
        have hzle : y.fit ≤ zf := by have := hyo.fit; rw [← hzf, wrap_in (show inK .i64 (y.fit + (bn : Int) % 4) by simp only [inK]; omega)]; omega
        refine C.skip ?_
        refine C.next ?_
        refine C.seq ?_
        refine C.draw [] 3 [0,1,2,3,4,5,6,7] [false,true,true,true,true,true,false,false] [(false,0),(true,1),(true,2),(true,3),(true,4),(true,5),(false,6),(false,7)] Tf.follows (fun _ _ _ h => np_body (P := Try.prog) (fn := Try.f11) _ _ _ h) (by kernel_rfl) rfl ?_
        refine L.loadBW rfl Tf.a25 rfl (List.Mem.head _) Tf.s25 List.not_mem_nil rfl trivial ?_
        refine L.move rfl rfl rfl trivial ?_
        refine L.convI rfl Try.underlying82 Try.underlying3 rfl (by simp only [inK]; omega) rfl trivial ?_
        refine L.loadBW rfl Tf.a25 rfl (List.Mem.head _) Tf.s25 List.not_mem_nil rfl trivial ?_
        refine L.callV rfl rfl rfl (fun D5 hD5 => Many_ok _ (addY y c) _ (hxr.up (hD5 _ (by simp))) (by simp only [addY, List.length_append, List.length_singleton]; omega) (unk_8 hfx)) rfl trivial ?_
        refine L.rem rfl rfl rfl (by omega) (by have := Nat.two_pow_pos (unknown (addY y c).chairs); omega) (by simp only [inK]; exact mod_in (by omega)) rfl trivial ?_
        refine L.call rfl rfl rfl (fun D6 hD6 => Nth_ok2 _ (addY y c) _ (wn % 2 ^ unknown (addY y c).chairs) _ rfl (hxr.up (hD6 _ (by simp))) (by simp only [addY, List.length_append, List.length_singleton]; omega) (by have := Nat.mod_lt wn (Nat.two_pow_pos (unknown (addY y c).chairs)); omega)) rfl trivial (fun v6 D6 hD6 hp6 => ?_)
        obtain ⟨t, ht, hit⟩ := nth_open (yOk hfx) hp6
        obtain ⟨hlen, hbt⟩ := truthOk hit
        have hln : t.length = y.chairs.length + 1 := by rw [hlen]; simp [addY]
        obtain ⟨hit0, hmm1, hmm2, hmm3, hmm4⟩ := chair_facts hf0 hfx hfz hit hln hzle
        refine L.assign rfl rfl rfl trivial ?_
        refine L.nil ?_
        refine C.next ?_
        refine C.seq ?_
        refine C.draw [] 7 [0,2,3,4,5,6,1,7,8,9,10,11,12,13] [false,true,true,true,true,true,true,false,false,false,false,true,true,false] [(false,0),(true,2),(true,3),(true,4),(true,5),(true,6),(true,1),(false,7),(false,8),(false,9),(false,10),(true,11),(true,12),(false,13)] Tf.follows (fun _ _ _ h => np_body (P := Try.prog) (fn := Try.f11) _ _ _ h) (by kernel_rfl) rfl ?_
        refine L.loadDW rfl Tf.a25 rfl hB1 (by first | simp | assumption) Tf.s25 List.not_mem_nil rfl trivial ?_
        refine L.move rfl rfl rfl trivial ?_
        refine L.move rfl rfl rfl trivial ?_
        refine L.len rfl Try.underlying26 rfl ht rfl rfl trivial ?_
        refine L.sub rfl rfl rfl (by simp only [inK]; omega) rfl trivial ?_
        refine L.sliceTo (k := y.chairs.length) rfl Try.underlying26 Tf.s91 rfl (by show some (Value.int _ _) = some (Value.int _ _); congr 2; omega) ht (by omega) rfl trivial (fun u hu => ?_)
        refine L.call rfl rfl rfl (fun D7 hD7 => YardL_ok _ y _ (hy0.up (hD7 _ (by simp))) (by omega) (by omega)) rfl trivial (fun v7 D7 hD7 hp7 => ?_)
        have hw := hp7
        refine L.call rfl rfl rfl (fun D8 hD8 => TruthL_ok _ (t.take y.chairs.length) _ (hu.up RP.up (hD8 _ (by simp))) (by first | omega | (rw [List.length_take]; omega))) rfl trivial (fun v8 D8 hD8 hp8 => ?_)
        have hz := hp8
        refine L.callV rfl rfl rfl (fun D9 hD9 => Play2_ok _ _ y (t.take y.chairs.length) _ (hw.up (hD9 _ (by simp))) (hz.up RP.up (hD9 _ (by simp))) hf0 hit0) rfl trivial ?_
        refine L.move rfl rfl rfl trivial ?_
        refine L.extract rfl rfl rfl rfl trivial ?_
        refine L.extract rfl rfl rfl rfl trivial ?_
        refine L.assign rfl rfl rfl trivial ?_
        refine L.assign rfl rfl rfl trivial ?_
        refine L.nil ?_
        refine C.next ?_
        refine C.seq ?_
        refine C.region [(false,0),(false,1),(false,2),(false,3),(false,4),(false,5),(false,6),(false,7),(false,8),(false,9)] rfl ?_
        refine L.loadBW rfl Tf.a25 rfl (List.Mem.head _) Tf.s25 List.not_mem_nil rfl trivial ?_
        refine L.call rfl rfl rfl (fun D10 hD10 => YardL_ok _ (addY y c) _ (hxr.up (hD10 _ (by simp))) (by simp only [addY, List.length_append, List.length_singleton]; omega) (by simp only [addY]; omega)) rfl trivial (fun v10 D10 hD10 hp10 => ?_)
        have hwx := hp10
        refine L.move rfl rfl rfl trivial ?_
        refine L.call rfl rfl rfl (fun D11 hD11 => TruthL_ok _ t _ (ht.up RP.up (hD11 _ (by simp))) (by first | omega | (rw [List.length_take]; omega))) rfl trivial (fun v11 D11 hD11 hp11 => ?_)
        have hz := hp11
        refine L.callV rfl rfl rfl (fun D12 hD12 => Play2_ok _ _ (addY y c) t _ (hwx.up (hD12 _ (by simp))) (hz.up RP.up (hD12 _ (by simp))) hfx hit) rfl trivial ?_
        refine L.move rfl rfl rfl trivial ?_
        refine L.extract rfl rfl rfl rfl trivial ?_
        refine L.extract rfl rfl rfl rfl trivial ?_
        refine L.assign rfl rfl rfl trivial ?_
        refine L.assign rfl rfl rfl trivial ?_
        refine L.nil ?_
        refine C.next ?_
        refine C.seq ?_
        refine C.draw [] 7 [0,2,3,4,5,6,1,7,8,9,10,11,12,13] [false,true,true,true,true,true,true,false,false,false,false,true,true,false] [(false,0),(true,2),(true,3),(true,4),(true,5),(true,6),(true,1),(false,7),(false,8),(false,9),(false,10),(true,11),(true,12),(false,13)] Tf.follows (fun _ _ _ h => np_body (P := Try.prog) (fn := Try.f11) _ _ _ h) (by kernel_rfl) rfl ?_
        refine L.loadBW rfl Tf.a25 rfl (List.Mem.tail _ (List.Mem.head _)) Tf.s25 List.not_mem_nil rfl trivial ?_
        refine L.move rfl rfl rfl trivial ?_
        refine L.move rfl rfl rfl trivial ?_
        refine L.len rfl Try.underlying26 rfl ht rfl rfl trivial ?_
        refine L.sub rfl rfl rfl (by simp only [inK]; omega) rfl trivial ?_
        refine L.sliceTo (k := y.chairs.length) rfl Try.underlying26 Tf.s91 rfl (by show some (Value.int _ _) = some (Value.int _ _); congr 2; omega) ht (by omega) rfl trivial (fun u hu => ?_)
        refine L.call rfl rfl rfl (fun D13 hD13 => YardL_ok _ (fitY y zf) _ (hzr.up (hD13 _ (by simp))) (by simp only [fitY]; omega) (by simp only [fitY]; omega)) rfl trivial (fun v13 D13 hD13 hp13 => ?_)
        have hwx := hp13
        refine L.call rfl rfl rfl (fun D14 hD14 => TruthL_ok _ (t.take y.chairs.length) _ (hu.up RP.up (hD14 _ (by simp))) (by first | omega | (rw [List.length_take]; omega))) rfl trivial (fun v14 D14 hD14 hp14 => ?_)
        have hz := hp14
        refine L.callV rfl rfl rfl (fun D15 hD15 => Play2_ok _ _ (fitY y zf) (t.take y.chairs.length) _ (hwx.up (hD15 _ (by simp))) (hz.up RP.up (hD15 _ (by simp))) hfz hit0) rfl trivial ?_
        refine L.move rfl rfl rfl trivial ?_
        refine L.extract rfl rfl rfl rfl trivial ?_
        refine L.extract rfl rfl rfl rfl trivial ?_
        refine L.assign rfl rfl rfl trivial ?_
        refine L.assign rfl rfl rfl trivial ?_
        refine L.nil ?_
        refine C.next ?_
        refine C.seq ?_
        refine C.region [(false,0),(false,1),(false,2),(false,3),(false,4),(false,5),(false,6),(false,7),(false,8),(false,9),(false,10),(false,11),(false,12),(false,13),(false,14),(false,15),(false,16),(false,17),(false,18),(false,19),(false,20),(false,21),(false,22),(false,23),(false,24),(false,25),(false,26),(false,27),(false,28),(false,29)] rfl ?_
        refine L.move rfl rfl rfl trivial ?_
        refine L.eql rfl rfl rfl rfl trivial ?_
        refine L.move rfl rfl rfl trivial ?_
        refine' L.and [(false,3),(false,4),(false,5)] [(false,6),(false,7),(false,8),(false,9),(false,10),(false,11),(false,12),(false,13),(false,14),(false,15),(false,16),(false,17),(false,18),(false,19),(false,20),(false,21),(false,22),(false,23),(false,24),(false,25),(false,26),(false,27),(false,28),(false,29)] (s := 91) (p := 94) rfl rfl (fun hg3 => ?_) (fun hg3 => ?_) ?_
        rotate_left
        · refine L.move rfl rfl rfl ⟨_, rfl, rfl⟩ ?_
          refine L.eql rfl rfl rfl rfl ⟨_, rfl, rfl⟩ ?_
          refine L.pickT rfl rfl rfl rfl trivial ?_
          exact L.nil fun a w hh => hh.cutK 2 rfl
        · refine L.pass rfl rfl rfl ⟨_, _, rfl, rfl, rfl⟩ ?_
          refine L.pass rfl rfl rfl ⟨_, _, rfl, rfl, rfl⟩ ?_
          refine L.pickF rfl rfl rfl rfl trivial ?_
          exact L.nil fun a w hh => hh.cutK 2 rfl
        refine L.move rfl rfl rfl trivial ?_
        refine' L.and [(false,7),(false,8),(false,9),(false,10)] [(false,11),(false,12),(false,13),(false,14),(false,15),(false,16),(false,17),(false,18),(false,19),(false,20),(false,21),(false,22),(false,23),(false,24),(false,25),(false,26),(false,27),(false,28),(false,29)] (s := 95) (p := 99) rfl rfl (fun hg4 => ?_) (fun hg4 => ?_) ?_
        rotate_left
        · refine L.move rfl rfl rfl ⟨_, rfl, rfl⟩ ?_
          refine L.move rfl rfl rfl ⟨_, rfl, rfl⟩ ?_
          refine L.geq rfl rfl rfl rfl ⟨_, rfl, rfl⟩ ?_
          refine L.pickT rfl rfl rfl rfl trivial ?_
          exact L.nil fun a w hh => hh.cutK 3 rfl
        · refine L.pass rfl rfl rfl ⟨_, _, rfl, rfl, rfl⟩ ?_
          refine L.pass rfl rfl rfl ⟨_, _, rfl, rfl, rfl⟩ ?_
          refine L.pass rfl rfl rfl ⟨_, _, rfl, rfl, rfl⟩ ?_
          refine L.pickF rfl rfl rfl rfl trivial ?_
          exact L.nil fun a w hh => hh.cutK 3 rfl
        refine L.move rfl rfl rfl trivial ?_
        refine' L.and [(false,12),(false,13),(false,14),(false,15),(false,16)] [(false,17),(false,18),(false,19),(false,20),(false,21),(false,22),(false,23),(false,24),(false,25),(false,26),(false,27),(false,28),(false,29)] (s := 100) (p := 105) rfl rfl (fun hg5 => ?_) (fun hg5 => ?_) ?_
        rotate_left
        · refine L.move rfl rfl rfl ⟨_, rfl, rfl⟩ ?_
          refine L.move rfl rfl rfl ⟨_, rfl, rfl⟩ ?_
          refine L.add rfl rfl rfl (by simp only [inK]; omega) rfl ⟨_, rfl, rfl⟩ ?_
          refine L.leq rfl rfl rfl rfl ⟨_, rfl, rfl⟩ ?_
          refine L.pickT rfl rfl rfl rfl trivial ?_
          exact L.nil fun a w hh => hh.cutK 4 rfl
        · refine L.pass rfl rfl rfl ⟨_, _, rfl, rfl, rfl⟩ ?_
          refine L.pass rfl rfl rfl ⟨_, _, rfl, rfl, rfl⟩ ?_
          refine L.pass rfl rfl rfl ⟨_, _, rfl, rfl, rfl⟩ ?_
          refine L.pass rfl rfl rfl ⟨_, _, rfl, rfl, rfl⟩ ?_
          refine L.pickF rfl rfl rfl rfl trivial ?_
          exact L.nil fun a w hh => hh.cutK 4 rfl
        refine L.move rfl rfl rfl trivial ?_
        refine' L.and [(false,18),(false,19),(false,20)] [(false,21),(false,22),(false,23),(false,24),(false,25),(false,26),(false,27),(false,28),(false,29)] (s := 106) (p := 109) rfl rfl (fun hg6 => ?_) (fun hg6 => ?_) ?_
        rotate_left
        · refine L.move rfl rfl rfl ⟨_, rfl, rfl⟩ ?_
          refine L.eql rfl rfl rfl rfl ⟨_, rfl, rfl⟩ ?_
          refine L.pickT rfl rfl rfl rfl trivial ?_
          exact L.nil fun a w hh => hh.cutK 2 rfl
        · refine L.pass rfl rfl rfl ⟨_, _, rfl, rfl, rfl⟩ ?_
          refine L.pass rfl rfl rfl ⟨_, _, rfl, rfl, rfl⟩ ?_
          refine L.pickF rfl rfl rfl rfl trivial ?_
          exact L.nil fun a w hh => hh.cutK 2 rfl
        refine L.move rfl rfl rfl trivial ?_
        refine' L.and [(false,22),(false,23),(false,24),(false,25)] [(false,26),(false,27),(false,28),(false,29)] (s := 110) (p := 114) rfl rfl (fun hg7 => ?_) (fun hg7 => ?_) ?_
        rotate_left
        · refine L.move rfl rfl rfl ⟨_, rfl, rfl⟩ ?_
          refine L.move rfl rfl rfl ⟨_, rfl, rfl⟩ ?_
          refine L.geq rfl rfl rfl rfl ⟨_, rfl, rfl⟩ ?_
          refine L.pickT rfl rfl rfl rfl trivial ?_
          exact L.nil fun a w hh => hh.cutK 3 rfl
        · refine L.pass rfl rfl rfl ⟨_, _, rfl, rfl, rfl⟩ ?_
          refine L.pass rfl rfl rfl ⟨_, _, rfl, rfl, rfl⟩ ?_
          refine L.pass rfl rfl rfl ⟨_, _, rfl, rfl, rfl⟩ ?_
          refine L.pickF rfl rfl rfl rfl trivial ?_
          exact L.nil fun a w hh => hh.cutK 3 rfl
        refine L.move rfl rfl rfl trivial ?_
        refine' L.and [(false,27),(false,28)] [(false,29)] (s := 115) (p := 117) rfl rfl (fun hg8 => ?_) (fun hg8 => ?_) ?_
        rotate_left
        · refine L.callV rfl rfl rfl (fun D16 hD16 => awake_ok _) rfl ⟨_, rfl, rfl⟩ ?_
          refine L.pickT rfl rfl rfl rfl trivial ?_
          exact L.nil fun a w hh => hh.cutK 1 rfl
        · refine L.pass rfl rfl rfl ⟨_, _, rfl, rfl, rfl⟩ ?_
          refine L.pickF rfl rfl rfl rfl trivial ?_
          exact L.nil fun a w hh => hh.cutK 1 rfl
        refine L.assign rfl rfl rfl trivial ?_
        refine L.nil ?_
        refine C.next ?_
        refine C.ret ?_
        exact leave (vs := [_]) rfl rfl rfl ⟨rfl, trivial⟩ (fun D hD => congrArg Value.bool (mc_ok hmm1 hmm2 hmm3))
  · refine L.buildSlice rfl Try.underlying22 Tf.s94 Tf.z94 rfl rfl rfl rfl (.cons rfl rfl .nil) rfl trivial (fun b901 D901 hD901 hA901 => ?_)
    skip
    refine L.nil ?_
    refine L.planFin [(true,0),(true,3)] rfl ?_
    refine L.buildSlice rfl Try.underlying22 Tf.s94 Tf.z94 rfl rfl rfl rfl .nil rfl trivial (fun b902 D902 hD902 hA902 => ?_)
    skip
    refine L.append (A := []) (ν := []) (B := [(_, _), (_, _)]) rfl Try.underlying22 rfl rfl Tf.s94 Tf.z94 rfl Tf.i94 rfl rfl rfl Acc.nil (Src.chs hc) (by simp) (chC_lenn _ _ rfl) (by simp) (chC_cell1 _) (by omega) (Or.inr (by simp)) rfl trivial (fun v7 ν7 ha7 => ?_)
    refine L.nil ?_
    refine S.fin [(false,6),(false,7),(false,8)] rfl ?_
    refine L.append (A := []) (ν := ν7) (B := [(_, _), (_, _)]) rfl Try.underlying22 rfl rfl Tf.s94 Tf.z94 rfl Tf.i94 rfl rfl rfl ha7 (Src.lit (by assumption)) (by simp) rfl (by simpa using chC_lenn y.chairs _ rfl) (by simp [cell1]) (by omega) (Or.inl rfl) rfl trivial (fun v8 ν8 ha8 => ?_)
    have hn8 : Acc 94 4 v8 (y.chairs.length + 1) (chC (y.chairs ++ [c])) ν8 := by rw [chC_snoc]; simpa using ha8
    refine L.fieldAddr rfl Tf.f25_0 rfl rfl trivial ?_
    refine L.store rfl rfl rfl hn8.cells1 Tf.s22 (.app (Has.head)) (by simp) rfl hn8.cell1 trivial ?_
    refine L.nil ?_
    refine S.nil ?_
    refine C.next ?_
    refine C.seq ?_
    refine C.region [(false,0),(false,1),(false,2),(false,3),(false,4),(false,5),(false,6),(false,7),(false,8)] rfl ?_
    refine L.fieldAddr rfl Tf.f25_1 rfl rfl trivial ?_
    refine L.loadD1 rfl (k := 1) Tf.a3 rfl hB1 (by first | simp | assumption) rfl List.not_mem_nil rfl trivial ?_
    refine L.move rfl rfl rfl trivial ?_
    refine L.convI rfl Try.underlying5 Try.underlying3 rfl (by simp only [inK]; omega) rfl trivial ?_
    refine L.rem rfl rfl rfl (by omega) (by omega) (by simp only [inK]; omega) rfl trivial ?_
    refine L.addW rfl rfl rfl rfl trivial ?_
    refine L.min2 rfl rfl rfl rfl trivial ?_
    refine L.fieldAddr rfl Tf.f25_1 rfl rfl trivial ?_
    refine L.store rfl rfl rfl rfl Tf.s3 (.app (.tail (Has.head))) (by simp) rfl (by simp [cell1]) trivial ?_
    refine L.nil ?_
    refine C.next ?_
    refine C.seq ?_
    refine C.seq ?_
    obtain ⟨zf, hzf⟩ : ∃ z, min 9 (IntKind.i64.wrap (y.fit + (bn : Int) % 4)) = z := ⟨_, rfl⟩
    rw [hzf]
    refine C.freeze (A := []) (B := [(_, _), (_, _)]) hn8 rfl (fun D8 hD8 hF => ?_)
    have hxr : YardIs D8 (.agg #[v8, .int .i64 y.fit, qv]) (addY y c) := ⟨_, _, rfl, hF.chs (by simp) (by omega), hq.up R2.up (hD8 _ (by simp))⟩
    have hzr : YardIs D8 (.agg #[cv, .int .i64 zf, qv]) (fitY y zf) := ⟨_, _, rfl, hc.up RCh.up (hD8 _ (by simp)), hq.up R2.up (hD8 _ (by simp))⟩
    refine C.region [(false,0),(false,1),(false,2),(false,3),(false,4),(false,5),(false,6),(false,7),(false,8),(false,9),(false,10),(false,11),(false,12)] rfl ?_
    refine L.loadDW rfl Tf.a25 rfl hB1 (by first | simp | assumption) Tf.s25 List.not_mem_nil rfl trivial ?_
    refine L.callV rfl rfl rfl (fun D1 hD1 => ready_ok _ y _ (hy0.up (hD1 _ (by simp)))) rfl trivial ?_
    refine L.not rfl rfl rfl trivial ?_
    refine L.move rfl rfl rfl trivial ?_
    refine' L.or [(false,4),(false,5),(false,6),(false,7)] [(false,8),(false,9),(false,10),(false,11),(false,12)] (s := 39) (p := 43) rfl rfl (fun hg1 => ?_) (fun hg1 => ?_) ?_
    rotate_left
    · refine L.loadBW rfl Tf.a25 rfl (List.Mem.head _) Tf.s25 List.not_mem_nil rfl ⟨_, rfl, rfl⟩ ?_
      refine L.callV rfl rfl rfl (fun D2 hD2 => ready_ok _ (addY y c) _ (hxr.up (hD2 _ (by simp)))) rfl ⟨_, rfl, rfl⟩ ?_
      refine L.not rfl rfl rfl ⟨_, rfl, rfl⟩ ?_
      refine L.pickF rfl rfl rfl rfl trivial ?_
      exact L.nil fun a w hh => hh.cutK 3 rfl
    · refine L.pass rfl rfl rfl ⟨_, _, rfl, rfl, rfl⟩ ?_
      refine L.pass rfl rfl rfl ⟨_, _, rfl, rfl, rfl⟩ ?_
      refine L.pass rfl rfl rfl ⟨_, _, rfl, rfl, rfl⟩ ?_
      refine L.pickT rfl rfl rfl rfl trivial ?_
      exact L.nil fun a w hh => hh.cutK 3 rfl
    refine L.move rfl rfl rfl trivial ?_
    refine' L.or [(false,9),(false,10),(false,11),(false,12)] [] (s := 44) (p := 48) rfl rfl (fun hg2 => ?_) (fun hg2 => ?_) ?_
    rotate_left
    · refine L.loadBW rfl Tf.a25 rfl (List.Mem.tail _ (List.Mem.head _)) Tf.s25 List.not_mem_nil rfl ⟨_, rfl, rfl⟩ ?_
      refine L.callV rfl rfl rfl (fun D3 hD3 => ready_ok _ (fitY y zf) _ (hzr.up (hD3 _ (by simp)))) rfl ⟨_, rfl, rfl⟩ ?_
      refine L.not rfl rfl rfl ⟨_, rfl, rfl⟩ ?_
      refine L.pickF rfl rfl rfl rfl trivial ?_
      exact L.nil fun a w hh => hh.cutK 3 rfl
    · refine L.pass rfl rfl rfl ⟨_, _, rfl, rfl, rfl⟩ ?_
      refine L.pass rfl rfl rfl ⟨_, _, rfl, rfl, rfl⟩ ?_
      refine L.pass rfl rfl rfl ⟨_, _, rfl, rfl, rfl⟩ ?_
      refine L.pickT rfl rfl rfl rfl trivial ?_
      exact L.nil fun a w hh => hh.cutK 3 rfl
    refine L.nil ?_
    refine C.next ?_
    refine C.cond rfl (fun hc1 => ?_) (fun hc1 => ?_)
    · refine C.seq ?_
      refine C.region [(false,0),(false,1)] rfl ?_
      refine L.callV rfl rfl rfl (fun D4 hD4 => awake_ok _) rfl trivial ?_
      refine L.assign rfl rfl rfl trivial ?_
      refine L.nil ?_
      refine C.next ?_
      refine C.ret ?_
      refine C.thenRet ?_
      exact leave (vs := [_]) rfl rfl rfl ⟨rfl, trivial⟩ (fun D hD => rfl)
    · obtain ⟨hcab, hcc⟩ := two_no hc1
      obtain ⟨hca, hcb⟩ := two_no hcab
      obtain ⟨hthin, hf0⟩ := ready_inB hca
      obtain ⟨hthx, hfx⟩ := ready_inB hcb
      obtain ⟨hthz, hfz⟩ := ready_inB hcc
      obtain ⟨hlc, hlq⟩ := thin_len hthin
      have hyo := yOk hf0
      have hn7 := hyo.len
      have hux := unk_8 hfx
      have hp8 : 2 ^ unknown (addY y c).chairs ≤ 2 ^ 8 := Nat.pow_le_pow_right (by omega) hux
      have hzle : y.fit ≤ zf := by have := hyo.fit; rw [← hzf, wrap_in (show inK .i64 (y.fit + (bn : Int) % 4) by simp only [inK]; omega)]; omega
      refine C.skip ?_
      refine C.next ?_
      refine C.seq ?_
      refine C.draw [] 3 [0,1,2,3,4,5,6,7] [false,true,true,true,true,true,false,false] [(false,0),(true,1),(true,2),(true,3),(true,4),(true,5),(false,6),(false,7)] Tf.follows (fun _ _ _ h => np_body (P := Try.prog) (fn := Try.f11) _ _ _ h) (by kernel_rfl) rfl ?_
      refine L.loadBW rfl Tf.a25 rfl (List.Mem.head _) Tf.s25 List.not_mem_nil rfl trivial ?_
      refine L.move rfl rfl rfl trivial ?_
      refine L.convI rfl Try.underlying82 Try.underlying3 rfl (by simp only [inK]; omega) rfl trivial ?_
      refine L.loadBW rfl Tf.a25 rfl (List.Mem.head _) Tf.s25 List.not_mem_nil rfl trivial ?_
      refine L.callV rfl rfl rfl (fun D5 hD5 => Many_ok _ (addY y c) _ (hxr.up (hD5 _ (by simp))) (by simp only [addY, List.length_append, List.length_singleton]; omega) (unk_8 hfx)) rfl trivial ?_
      refine L.rem rfl rfl rfl (by omega) (by have := Nat.two_pow_pos (unknown (addY y c).chairs); omega) (by simp only [inK]; exact mod_in (by omega)) rfl trivial ?_
      refine L.call rfl rfl rfl (fun D6 hD6 => Nth_ok2 _ (addY y c) _ (wn % 2 ^ unknown (addY y c).chairs) _ rfl (hxr.up (hD6 _ (by simp))) (by simp only [addY, List.length_append, List.length_singleton]; omega) (by have := Nat.mod_lt wn (Nat.two_pow_pos (unknown (addY y c).chairs)); omega)) rfl trivial (fun v6 D6 hD6 hp6 => ?_)
      obtain ⟨t, ht, hit⟩ := nth_open (yOk hfx) hp6
      obtain ⟨hlen, hbt⟩ := truthOk hit
      have hln : t.length = y.chairs.length + 1 := by rw [hlen]; simp [addY]
      obtain ⟨hit0, hmm1, hmm2, hmm3, hmm4⟩ := chair_facts hf0 hfx hfz hit hln hzle
      refine L.assign rfl rfl rfl trivial ?_
      refine L.nil ?_
      refine C.next ?_
      refine C.seq ?_
      refine C.draw [] 7 [0,2,3,4,5,6,1,7,8,9,10,11,12,13] [false,true,true,true,true,true,true,false,false,false,false,true,true,false] [(false,0),(true,2),(true,3),(true,4),(true,5),(true,6),(true,1),(false,7),(false,8),(false,9),(false,10),(true,11),(true,12),(false,13)] Tf.follows (fun _ _ _ h => np_body (P := Try.prog) (fn := Try.f11) _ _ _ h) (by kernel_rfl) rfl ?_
      refine L.loadDW rfl Tf.a25 rfl hB1 (by first | simp | assumption) Tf.s25 List.not_mem_nil rfl trivial ?_
      refine L.move rfl rfl rfl trivial ?_
      refine L.move rfl rfl rfl trivial ?_
      refine L.len rfl Try.underlying26 rfl ht rfl rfl trivial ?_
      refine L.sub rfl rfl rfl (by simp only [inK]; omega) rfl trivial ?_
      refine L.sliceTo (k := y.chairs.length) rfl Try.underlying26 Tf.s91 rfl (by show some (Value.int _ _) = some (Value.int _ _); congr 2; omega) ht (by omega) rfl trivial (fun u hu => ?_)
      refine L.call rfl rfl rfl (fun D7 hD7 => YardL_ok _ y _ (hy0.up (hD7 _ (by simp))) (by omega) (by omega)) rfl trivial (fun v7 D7 hD7 hp7 => ?_)
      have hw := hp7
      refine L.call rfl rfl rfl (fun D8 hD8 => TruthL_ok _ (t.take y.chairs.length) _ (hu.up RP.up (hD8 _ (by simp))) (by first | omega | (rw [List.length_take]; omega))) rfl trivial (fun v8 D8 hD8 hp8 => ?_)
      have hz := hp8
      refine L.callV rfl rfl rfl (fun D9 hD9 => Play2_ok _ _ y (t.take y.chairs.length) _ (hw.up (hD9 _ (by simp))) (hz.up RP.up (hD9 _ (by simp))) hf0 hit0) rfl trivial ?_
      refine L.move rfl rfl rfl trivial ?_
      refine L.extract rfl rfl rfl rfl trivial ?_
      refine L.extract rfl rfl rfl rfl trivial ?_
      refine L.assign rfl rfl rfl trivial ?_
      refine L.assign rfl rfl rfl trivial ?_
      refine L.nil ?_
      refine C.next ?_
      refine C.seq ?_
      refine C.region [(false,0),(false,1),(false,2),(false,3),(false,4),(false,5),(false,6),(false,7),(false,8),(false,9)] rfl ?_
      refine L.loadBW rfl Tf.a25 rfl (List.Mem.head _) Tf.s25 List.not_mem_nil rfl trivial ?_
      refine L.call rfl rfl rfl (fun D10 hD10 => YardL_ok _ (addY y c) _ (hxr.up (hD10 _ (by simp))) (by simp only [addY, List.length_append, List.length_singleton]; omega) (by simp only [addY]; omega)) rfl trivial (fun v10 D10 hD10 hp10 => ?_)
      have hwx := hp10
      refine L.move rfl rfl rfl trivial ?_
      refine L.call rfl rfl rfl (fun D11 hD11 => TruthL_ok _ t _ (ht.up RP.up (hD11 _ (by simp))) (by first | omega | (rw [List.length_take]; omega))) rfl trivial (fun v11 D11 hD11 hp11 => ?_)
      have hz := hp11
      refine L.callV rfl rfl rfl (fun D12 hD12 => Play2_ok _ _ (addY y c) t _ (hwx.up (hD12 _ (by simp))) (hz.up RP.up (hD12 _ (by simp))) hfx hit) rfl trivial ?_
      refine L.move rfl rfl rfl trivial ?_
      refine L.extract rfl rfl rfl rfl trivial ?_
      refine L.extract rfl rfl rfl rfl trivial ?_
      refine L.assign rfl rfl rfl trivial ?_
      refine L.assign rfl rfl rfl trivial ?_
      refine L.nil ?_
      refine C.next ?_
      refine C.seq ?_
      refine C.draw [] 7 [0,2,3,4,5,6,1,7,8,9,10,11,12,13] [false,true,true,true,true,true,true,false,false,false,false,true,true,false] [(false,0),(true,2),(true,3),(true,4),(true,5),(true,6),(true,1),(false,7),(false,8),(false,9),(false,10),(true,11),(true,12),(false,13)] Tf.follows (fun _ _ _ h => np_body (P := Try.prog) (fn := Try.f11) _ _ _ h) (by kernel_rfl) rfl ?_
      refine L.loadBW rfl Tf.a25 rfl (List.Mem.tail _ (List.Mem.head _)) Tf.s25 List.not_mem_nil rfl trivial ?_
      refine L.move rfl rfl rfl trivial ?_
      refine L.move rfl rfl rfl trivial ?_
      refine L.len rfl Try.underlying26 rfl ht rfl rfl trivial ?_
      refine L.sub rfl rfl rfl (by simp only [inK]; omega) rfl trivial ?_
      refine L.sliceTo (k := y.chairs.length) rfl Try.underlying26 Tf.s91 rfl (by show some (Value.int _ _) = some (Value.int _ _); congr 2; omega) ht (by omega) rfl trivial (fun u hu => ?_)
      refine L.call rfl rfl rfl (fun D13 hD13 => YardL_ok _ (fitY y zf) _ (hzr.up (hD13 _ (by simp))) (by simp only [fitY]; omega) (by simp only [fitY]; omega)) rfl trivial (fun v13 D13 hD13 hp13 => ?_)
      have hwx := hp13
      refine L.call rfl rfl rfl (fun D14 hD14 => TruthL_ok _ (t.take y.chairs.length) _ (hu.up RP.up (hD14 _ (by simp))) (by first | omega | (rw [List.length_take]; omega))) rfl trivial (fun v14 D14 hD14 hp14 => ?_)
      have hz := hp14
      refine L.callV rfl rfl rfl (fun D15 hD15 => Play2_ok _ _ (fitY y zf) (t.take y.chairs.length) _ (hwx.up (hD15 _ (by simp))) (hz.up RP.up (hD15 _ (by simp))) hfz hit0) rfl trivial ?_
      refine L.move rfl rfl rfl trivial ?_
      refine L.extract rfl rfl rfl rfl trivial ?_
      refine L.extract rfl rfl rfl rfl trivial ?_
      refine L.assign rfl rfl rfl trivial ?_
      refine L.assign rfl rfl rfl trivial ?_
      refine L.nil ?_
      refine C.next ?_
      refine C.seq ?_
      refine C.region [(false,0),(false,1),(false,2),(false,3),(false,4),(false,5),(false,6),(false,7),(false,8),(false,9),(false,10),(false,11),(false,12),(false,13),(false,14),(false,15),(false,16),(false,17),(false,18),(false,19),(false,20),(false,21),(false,22),(false,23),(false,24),(false,25),(false,26),(false,27),(false,28),(false,29)] rfl ?_
      refine L.move rfl rfl rfl trivial ?_
      refine L.eql rfl rfl rfl rfl trivial ?_
      refine L.move rfl rfl rfl trivial ?_
      refine' L.and [(false,3),(false,4),(false,5)] [(false,6),(false,7),(false,8),(false,9),(false,10),(false,11),(false,12),(false,13),(false,14),(false,15),(false,16),(false,17),(false,18),(false,19),(false,20),(false,21),(false,22),(false,23),(false,24),(false,25),(false,26),(false,27),(false,28),(false,29)] (s := 91) (p := 94) rfl rfl (fun hg3 => ?_) (fun hg3 => ?_) ?_
      rotate_left
      · refine L.move rfl rfl rfl ⟨_, rfl, rfl⟩ ?_
        refine L.eql rfl rfl rfl rfl ⟨_, rfl, rfl⟩ ?_
        refine L.pickT rfl rfl rfl rfl trivial ?_
        exact L.nil fun a w hh => hh.cutK 2 rfl
      · refine L.pass rfl rfl rfl ⟨_, _, rfl, rfl, rfl⟩ ?_
        refine L.pass rfl rfl rfl ⟨_, _, rfl, rfl, rfl⟩ ?_
        refine L.pickF rfl rfl rfl rfl trivial ?_
        exact L.nil fun a w hh => hh.cutK 2 rfl
      refine L.move rfl rfl rfl trivial ?_
      refine' L.and [(false,7),(false,8),(false,9),(false,10)] [(false,11),(false,12),(false,13),(false,14),(false,15),(false,16),(false,17),(false,18),(false,19),(false,20),(false,21),(false,22),(false,23),(false,24),(false,25),(false,26),(false,27),(false,28),(false,29)] (s := 95) (p := 99) rfl rfl (fun hg4 => ?_) (fun hg4 => ?_) ?_
      rotate_left
      · refine L.move rfl rfl rfl ⟨_, rfl, rfl⟩ ?_
        refine L.move rfl rfl rfl ⟨_, rfl, rfl⟩ ?_
        refine L.geq rfl rfl rfl rfl ⟨_, rfl, rfl⟩ ?_
        refine L.pickT rfl rfl rfl rfl trivial ?_
        exact L.nil fun a w hh => hh.cutK 3 rfl
      · refine L.pass rfl rfl rfl ⟨_, _, rfl, rfl, rfl⟩ ?_
        refine L.pass rfl rfl rfl ⟨_, _, rfl, rfl, rfl⟩ ?_
        refine L.pass rfl rfl rfl ⟨_, _, rfl, rfl, rfl⟩ ?_
        refine L.pickF rfl rfl rfl rfl trivial ?_
        exact L.nil fun a w hh => hh.cutK 3 rfl
      refine L.move rfl rfl rfl trivial ?_
      refine' L.and [(false,12),(false,13),(false,14),(false,15),(false,16)] [(false,17),(false,18),(false,19),(false,20),(false,21),(false,22),(false,23),(false,24),(false,25),(false,26),(false,27),(false,28),(false,29)] (s := 100) (p := 105) rfl rfl (fun hg5 => ?_) (fun hg5 => ?_) ?_
      rotate_left
      · refine L.move rfl rfl rfl ⟨_, rfl, rfl⟩ ?_
        refine L.move rfl rfl rfl ⟨_, rfl, rfl⟩ ?_
        refine L.add rfl rfl rfl (by simp only [inK]; omega) rfl ⟨_, rfl, rfl⟩ ?_
        refine L.leq rfl rfl rfl rfl ⟨_, rfl, rfl⟩ ?_
        refine L.pickT rfl rfl rfl rfl trivial ?_
        exact L.nil fun a w hh => hh.cutK 4 rfl
      · refine L.pass rfl rfl rfl ⟨_, _, rfl, rfl, rfl⟩ ?_
        refine L.pass rfl rfl rfl ⟨_, _, rfl, rfl, rfl⟩ ?_
        refine L.pass rfl rfl rfl ⟨_, _, rfl, rfl, rfl⟩ ?_
        refine L.pass rfl rfl rfl ⟨_, _, rfl, rfl, rfl⟩ ?_
        refine L.pickF rfl rfl rfl rfl trivial ?_
        exact L.nil fun a w hh => hh.cutK 4 rfl
      refine L.move rfl rfl rfl trivial ?_
      refine' L.and [(false,18),(false,19),(false,20)] [(false,21),(false,22),(false,23),(false,24),(false,25),(false,26),(false,27),(false,28),(false,29)] (s := 106) (p := 109) rfl rfl (fun hg6 => ?_) (fun hg6 => ?_) ?_
      rotate_left
      · refine L.move rfl rfl rfl ⟨_, rfl, rfl⟩ ?_
        refine L.eql rfl rfl rfl rfl ⟨_, rfl, rfl⟩ ?_
        refine L.pickT rfl rfl rfl rfl trivial ?_
        exact L.nil fun a w hh => hh.cutK 2 rfl
      · refine L.pass rfl rfl rfl ⟨_, _, rfl, rfl, rfl⟩ ?_
        refine L.pass rfl rfl rfl ⟨_, _, rfl, rfl, rfl⟩ ?_
        refine L.pickF rfl rfl rfl rfl trivial ?_
        exact L.nil fun a w hh => hh.cutK 2 rfl
      refine L.move rfl rfl rfl trivial ?_
      refine' L.and [(false,22),(false,23),(false,24),(false,25)] [(false,26),(false,27),(false,28),(false,29)] (s := 110) (p := 114) rfl rfl (fun hg7 => ?_) (fun hg7 => ?_) ?_
      rotate_left
      · refine L.move rfl rfl rfl ⟨_, rfl, rfl⟩ ?_
        refine L.move rfl rfl rfl ⟨_, rfl, rfl⟩ ?_
        refine L.geq rfl rfl rfl rfl ⟨_, rfl, rfl⟩ ?_
        refine L.pickT rfl rfl rfl rfl trivial ?_
        exact L.nil fun a w hh => hh.cutK 3 rfl
      · refine L.pass rfl rfl rfl ⟨_, _, rfl, rfl, rfl⟩ ?_
        refine L.pass rfl rfl rfl ⟨_, _, rfl, rfl, rfl⟩ ?_
        refine L.pass rfl rfl rfl ⟨_, _, rfl, rfl, rfl⟩ ?_
        refine L.pickF rfl rfl rfl rfl trivial ?_
        exact L.nil fun a w hh => hh.cutK 3 rfl
      refine L.move rfl rfl rfl trivial ?_
      refine' L.and [(false,27),(false,28)] [(false,29)] (s := 115) (p := 117) rfl rfl (fun hg8 => ?_) (fun hg8 => ?_) ?_
      rotate_left
      · refine L.callV rfl rfl rfl (fun D16 hD16 => awake_ok _) rfl ⟨_, rfl, rfl⟩ ?_
        refine L.pickT rfl rfl rfl rfl trivial ?_
        exact L.nil fun a w hh => hh.cutK 1 rfl
      · refine L.pass rfl rfl rfl ⟨_, _, rfl, rfl, rfl⟩ ?_
        refine L.pickF rfl rfl rfl rfl trivial ?_
        exact L.nil fun a w hh => hh.cutK 1 rfl
      refine L.assign rfl rfl rfl trivial ?_
      refine L.nil ?_
      refine C.next ?_
      refine C.ret ?_
      exact leave (vs := [_]) rfl rfl rfl ⟨rfl, trivial⟩ (fun D hD => congrArg Value.bool (mc_ok hmm1 hmm2 hmm3))
end Go.Fs
namespace Go.Fs
open Go.Proofs
open C7 Go.ChangeShapes Go.WideShapes Go.RowKit Ytjhdcelmgfajbaa
theorem bulk_one {H : Type} (d : DataW H) : 1 ≤ Rows.uptoBulk d := by
  cases d with
  | lit l => cases l <;> simp [Rows.uptoBulk]
  | _ => simp [Rows.uptoBulk]
theorem bulk_part {H : Type} {d : DataW H} {l : List (DataW H)} (h : d ∈ l) : Rows.uptoBulk d ≤ Rows.uptoBulkAll l := by
  induction l with
  | nil => cases h
  | cons x r ih =>
    simp only [Rows.uptoBulkAll]
    rcases List.mem_cons.1 h with rfl | h
    · omega
    · have := ih h; omega
theorem bulk_length {H : Type} (l : List (DataW H)) : l.length ≤ Rows.uptoBulkAll l := by
  induction l with
  | nil => simp
  | cons x r ih => have := bulk_one x; simp only [Rows.uptoBulkAll, List.length_cons]; omega
theorem open_chair {H : Type} {enc : TypeId × Value → H} {P : Program} {t : TypeId} {fs : Array Field} {W : World} {r : Reach} {b0 : Nat} {v : Value} {d : DataW H} {ps : List MemPlace} {k : Nat} (ht : P.underlying t = some (.struct fs)) (hk : P.cellsOf t = k) (hr : Reads P t RCh) (hval : Value.okWide P W r b0 t v) (hd : DataW.Trod enc P W 0 (fun _ => true) true t v d ps) : ∃ c, v = chV c := by
  obtain ⟨cs, rfl, hsz, n, x, hx⟩ := open_struct ht hk hval hd
  obtain ⟨c, hc⟩ := hr _ _ _ _ _ hx
  have h : cs.toList = _ := hc
  exact ⟨c, by rw [show cs = cs.toList.toArray by simp, h]; rfl⟩
theorem chairs_bulk {H : Type} {enc : TypeId × Value → H} {P : Program} {t u e : TypeId} {fs : Array Field} {f : Field} {W : World} {v : Value} {y : YardD} {d : DataW H} {ps : List MemPlace} (ht : P.underlying t = some (.struct fs)) (hf : fs[0]? = some f) (ho : f.offset = 0) (hu : f.type = u) (hs : P.underlying u = some (.slice e)) (hk : P.cellsOf u = 1)
    (hr : YardIs (full W) v y) (hd : DataW.Trod enc P W 0 (fun _ => true) true t v d ps) : y.chairs.length ≤ Rows.uptoBulk d := by
  obtain ⟨cv, qv, rfl, hc, hq⟩ := hr
  obtain ⟨fuel, hfu⟩ := hd
  obtain ⟨xs, n, _, hx, _, hsz, hfl⟩ := DataW.trod_struct ht hfu
  have h1 := hfl 0 f hf
  rw [ho, hu, hk] at h1
  have hl : 0 < xs.length := by rw [hsz]; exact (Array.getElem?_eq_some_iff.1 hf).1
  rw [List.getElem?_eq_getElem hl] at h1
  obtain ⟨a, cap, rfl⟩ := hc.shape
  have hm : (xs[0]'hl).1 ∈ xs.map (·.1) := List.mem_map.2 ⟨_, List.getElem_mem hl, rfl⟩
  have hd2 : d = .agg (xs.map (·.1)) := by simpa using congrArg Prod.fst hx
  have hb := bulk_part hm
  rw [hd2]
  simp only [Rows.uptoBulk]
  rcases DataW.trod_slice hs h1 with ⟨h2, _⟩ | ⟨a', len, cap', elems, rest, m, _, h2, h3, _, _, _, hel, _⟩
  · have e := (List.cons.inj (show [Value.slice a y.chairs.length cap] = [.slice none 0 0] from h2)).1
    injection e with _ e2 _
    omega
  · have e := (List.cons.inj (show [Value.slice a y.chairs.length cap] = [.slice (some a') len cap'] from h2)).1
    injection e with _ e2 _
    rw [h3] at hb
    simp only [Rows.uptoBulk] at hb
    have := bulk_length (elems.map (·.1))
    rw [List.length_map] at this
    omega
theorem claims_bulk {H : Type} {enc : TypeId × Value → H} {P : Program} {t u e : TypeId} {fs : Array Field} {f : Field} {W : World} {v : Value} {y : YardD} {d : DataW H} {ps : List MemPlace} (ht : P.underlying t = some (.struct fs)) (hf : fs[2]? = some f) (ho : f.offset = 2) (hu : f.type = u) (hs : P.underlying u = some (.slice e)) (hk : P.cellsOf u = 1)
    (hr : YardIs (full W) v y) (hd : DataW.Trod enc P W 0 (fun _ => true) true t v d ps) : y.claims.length ≤ Rows.uptoBulk d := by
  obtain ⟨cv, qv, rfl, hc, hq⟩ := hr
  obtain ⟨fuel, hfu⟩ := hd
  obtain ⟨xs, n, _, hx, _, hsz, hfl⟩ := DataW.trod_struct ht hfu
  have h1 := hfl 2 f hf
  rw [ho, hu, hk] at h1
  have hl : 2 < xs.length := by rw [hsz]; exact (Array.getElem?_eq_some_iff.1 hf).1
  rw [List.getElem?_eq_getElem hl] at h1
  obtain ⟨a, cap, rfl⟩ := hq.shape
  have hm : (xs[2]'hl).1 ∈ xs.map (·.1) := List.mem_map.2 ⟨_, List.getElem_mem hl, rfl⟩
  have hd2 : d = .agg (xs.map (·.1)) := by simpa using congrArg Prod.fst hx
  have hb := bulk_part hm
  rw [hd2]
  simp only [Rows.uptoBulk]
  rcases DataW.trod_slice hs h1 with ⟨h2, _⟩ | ⟨a', len, cap', elems, rest, m, _, h2, h3, _, _, _, hel, _⟩
  · have e := (List.cons.inj (show [Value.slice a y.claims.length cap] = [.slice none 0 0] from h2)).1
    injection e with _ e2 _
    omega
  · have e := (List.cons.inj (show [Value.slice a y.claims.length cap] = [.slice (some a') len cap'] from h2)).1
    injection e with _ e2 _
    rw [h3] at hb
    simp only [Rows.uptoBulk] at hb
    have := bulk_length (elems.map (·.1))
    rw [List.length_map] at this
    omega
theorem yard_bulk {H : Type} {enc : TypeId × Value → H} {W : World} {v : Value} {y : YardD} {d : DataW H} {ps : List MemPlace} {t : TypeId} (hT : t = 25) (hr : YardIs (full W) v y) (hd : DataW.Trod enc Try.prog W 0 (fun _ => true) true t v d ps) : y.chairs.length ≤ Rows.uptoBulk d ∧ y.claims.length ≤ Rows.uptoBulk d := by
  subst hT
  exact ⟨chairs_bulk Try.underlying25 rfl rfl rfl Try.underlying22 cells_22 hr hd, claims_bulk Try.underlying25 rfl rfl rfl Try.underlying23 cells_23 hr hd⟩
end Go.Fs
