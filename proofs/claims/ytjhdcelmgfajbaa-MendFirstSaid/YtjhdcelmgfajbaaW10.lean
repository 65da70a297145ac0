/- Walks: the scenes of all truths. -/
import Derived.Test.YtjhdcelmgfajbaaW9
import Derived.Test.YtjhdcelmgfajbaaEqs
namespace Go.Fs
open Go.Proofs
open C7
def scI (s : Sc) : List Int := (s.whole : Int) :: (s.broken : Int) :: s.fits.map fun n : Nat => (n : Int)
theorem scI_len (s : Sc) (h : s.fits.length = 7) : (scI s).length = 9 := by simp [scI, h]
theorem scV_eq (s : Sc) : scV s = .agg (ints (scI s)).toArray := by
  unfold scV scC scI ints
  rw [List.map_cons, List.map_cons, List.map_map]; rfl
theorem scI_inj {s s' : Sc} (h : scI s = scI s') : s = s' := by
  obtain ⟨a, b, c⟩ := s
  obtain ⟨a', b', c'⟩ := s'
  simp only [scI, List.cons.injEq] at h
  obtain ⟨h1, h2, h3⟩ := h
  rw [casts_inj h3, show a = a' by omega, show b = b' by omega]
def lastI (acc : List (Sc × Nat)) : List Int := match acc.getLast? with
  | some p => scI p.1
  | none => []
def addSc (y : YardD) (out : List Int) (acc : List (Sc × Nat)) (t : List Pt) : List (Sc × Nat) :=
  if (rightO y.claims out (mostS y.chairs.length (sceneD y t) : Int) && (decide ((acc.length : Int) = 0) || !(lastI acc == scI (sceneD y t)))) = true then acc ++ [(sceneD y t, mostS y.chairs.length (sceneD y t))] else acc
def scPre (y : YardD) (out : List Int) (pre : List (List Int)) : List (Sc × Nat) := (pre.map grp).foldl (addSc y out) []
/-- The scenes of all truths that are right but for some claims, the same ones in a row only once; and the most chairs in them. -/
def scenesD (y : YardD) (out : List Int) : List (Sc × Nat) := (truthsD y).foldl (addSc y out) []
theorem scPre_all (y : YardD) (out : List Int) : scPre y out (C1.allT (flatC y.chairs)) = scenesD y out := rfl
theorem scPre_snoc (y : YardD) (out : List Int) (pre : List (List Int)) (x : List Int) : scPre y out (pre ++ [x]) = addSc y out (scPre y out pre) (grp x) := by
  unfold scPre; rw [List.map_append, List.foldl_append]; rfl
theorem addSc_len (y : YardD) (out : List Int) (acc : List (Sc × Nat)) (t : List Pt) : (addSc y out acc t).length ≤ acc.length + 1 := by
  unfold addSc; split
  · simp
  · omega
theorem scPre_len (y : YardD) (out : List Int) (pre : List (List Int)) : (scPre y out pre).length ≤ pre.length := by
  have key : ∀ (l : List (List Pt)) (acc : List (Sc × Nat)), (l.foldl (addSc y out) acc).length ≤ acc.length + l.length := by
    intro l
    induction l with
    | nil => intro acc; simp
    | cons t l ih => intro acc; rw [List.foldl_cons]; have := ih (addSc y out acc t); have := addSc_len y out acc t; rw [List.length_cons]; omega
  have := key (pre.map grp) []
  simpa [scPre] using this
theorem scPre_fits (y : YardD) (out : List Int) (pre : List (List Int)) : ∀ p ∈ scPre y out pre, p.1.fits.length = 7 := by
  have key : ∀ (l : List (List Pt)) (acc : List (Sc × Nat)), (∀ p ∈ acc, p.1.fits.length = 7) → ∀ p ∈ l.foldl (addSc y out) acc, p.1.fits.length = 7 := by
    intro l
    induction l with
    | nil => intro acc h; exact h
    | cons t l ih =>
      intro acc h
      rw [List.foldl_cons]
      refine ih _ fun p hp => ?_
      unfold addSc at hp
      split at hp
      · rcases List.mem_append.1 hp with hp | hp
        · exact h p hp
        · simp only [List.mem_singleton] at hp; subst hp; simp [sceneD]
      · exact h p hp
  exact key _ [] (by simp)
def scsC (l : List Sc) : List Value := l.flatMap fun s => ints (scI s)
theorem scsC_length {l : List Sc} (h : ∀ s ∈ l, s.fits.length = 7) : (scsC l).length = l.length * 9 := by
  induction l with
  | nil => rfl
  | cons c l ih =>
    have := ih fun s hs => h s (List.mem_cons_of_mem _ hs)
    unfold scsC at this ⊢
    rw [List.flatMap_cons, List.length_append, this, ints_length, scI_len c (h c List.mem_cons_self), List.length_cons]; omega
theorem scsC_len {acc : List (Sc × Nat)} (h : ∀ p ∈ acc, p.1.fits.length = 7) : (scsC (acc.map fun p => p.1)).length = acc.length * 9 := by
  rw [scsC_length fun s hs => by obtain ⟨p, hp, rfl⟩ := List.mem_map.1 hs; exact h p hp, List.length_map]
theorem scsC_get {l : List Sc} (h : ∀ s ∈ l, s.fits.length = 7) {i : Nat} {s : Sc} (hi : l[i]? = some s) (junk : List Value) : ((scsC l ++ junk).drop (i * 9)).take 9 = ints (scI s) := by
  induction l generalizing i with
  | nil => simp at hi
  | cons d l ih =>
    have h9 : (ints (scI d)).length = 9 := by rw [ints_length, scI_len d (h d List.mem_cons_self)]
    have hc : scsC (d :: l) = ints (scI d) ++ scsC l := rfl
    rw [hc, List.append_assoc]
    cases i with
    | zero =>
      obtain rfl : d = s := by simpa using hi
      rw [Nat.zero_mul, List.drop_zero, List.take_append_of_le_length (by omega), List.take_of_length_le (by omega)]
    | succ i =>
      rw [List.drop_append, List.drop_eq_nil_of_le (by omega), List.nil_append, show (i + 1) * 9 - (ints (scI d)).length = i * 9 by omega]
      exact ih (fun s hs => h s (List.mem_cons_of_mem _ hs)) (by simpa using hi)
def RSc : Rd Sc := fun _ s cs => cs = ints (scI s)
theorem RSc.up : RSc.Up := fun _ _ _ h => h
theorem Froz.scs {D : Data} {v : Value} {n : Nat} {acc : List (Sc × Nat)} (hF : Froz D v n (scsC (acc.map fun p => p.1))) (hn : (acc.map fun p => p.1).length = n) (hb : n ≤ 9223372036854775807) (h : ∀ p ∈ acc, p.1.fits.length = 7 := by assumption) : Sl D RSc 9 v (acc.map fun p => p.1) := by
  have h' : ∀ s ∈ acc.map (fun p => p.1), s.fits.length = 7 := fun s hs => by obtain ⟨p, hp, rfl⟩ := List.mem_map.1 hs; exact h p hp
  exact hF.sl hn hb fun i s hi => ⟨_, rfl, by rw [ints_length, scI_len s (h' s (List.mem_of_getElem? hi))], by have := scsC_get h' hi []; rwa [List.append_nil] at this⟩
theorem lastI_len {acc : List (Sc × Nat)} (h : ∀ p ∈ acc, p.1.fits.length = 7) (hne : acc ≠ []) : (lastI acc).length = 9 := by
  unfold lastI
  rw [List.getLast?_eq_some_getLast hne]
  exact scI_len _ (h _ (List.getLast_mem hne))
theorem lastI_at {acc : List (Sc × Nat)} (h : ∀ p ∈ acc, p.1.fits.length = 7) (hne : acc ≠ []) (junk : List Value) : ((scsC (acc.map fun p => p.1) ++ junk).drop (0 + (((acc.length : Int) - 1).toNat) * 9)).take 9 = ints (lastI acc) := by
  have h' : ∀ s ∈ acc.map (fun p => p.1), s.fits.length = 7 := fun s hs => by obtain ⟨p, hp, rfl⟩ := List.mem_map.1 hs; exact h p hp
  have hpos := List.length_pos_iff.2 hne
  unfold lastI
  rw [List.getLast?_eq_some_getLast hne, Nat.zero_add]
  refine scsC_get h' ?_ junk
  rw [List.getElem?_map, show ((acc.length : Int) - 1).toNat = acc.length - 1 by omega, ← List.getLast?_eq_getElem?, List.getLast?_eq_some_getLast hne]; rfl
theorem sl_grp {D : Data} {bo n : Nat} {x : List Int} (h : At D bo 0 (ints x)) (hx : x.length = 3 * n) (hn : n ≤ 7) : Sl D RP 3 (.slice (some ⟨bo, 0, none⟩) n n) (grp x) := by
  obtain ⟨h1, h2⟩ := grp_of _ _ hx
  have hle : n ≤ 9223372036854775807 ∨ True := Or.inr trivial
  have key : ∀ (l : List Pt) (i : Nat) (p : Pt), l[i]? = some p → ((ints (C7.flatP l)).drop (i * 3)).take 3 = [.int .i64 p.a, .int .i64 p.b, .int .i64 p.c] := by
    intro l
    induction l with
    | nil => intro i p hi; simp at hi
    | cons d l ih =>
      intro i p hi
      cases i with
      | zero => obtain rfl : d = p := by simpa using hi
                rfl
      | succ i =>
        rw [C7.flatP_cons, show (i + 1) * 3 = i * 3 + 3 by omega]
        exact ih i p (by simpa using hi)
  refine ⟨_, n, by rw [h2], by omega, ?_, Or.inr ⟨bo, 0, rfl, fun i p hi => ⟨_, rfl, rfl, fun j v hj => ?_⟩⟩⟩
  · rw [h2]; omega
  · have := key _ _ _ hi
    rw [h1] at this
    rw [← this, List.getElem?_take] at hj
    split at hj
    · rw [List.getElem?_drop] at hj
      have := h _ v hj
      rw [show 0 + i * 3 + j = 0 + (i * 3 + j) by omega]; exact this
    · cases hj
def ScI (y : YardD) (out : List Int) (pre : List (List Int)) (g : Array MapEntry × Nat × List (Ints 8 × Int) × Value × Boxes × Value × Boxes) : Prop :=
  MapG kaV g.1 g.2.2.1 ∧ MOk y.chairs.length g.2.2.1 ∧ Acc 126 9 g.2.2.2.1 (scPre y out pre).length (scsC ((scPre y out pre).map fun p => p.1)) g.2.2.2.2.1 ∧ Acc 3 1 g.2.2.2.2.2.1 (scPre y out pre).length (ints ((scPre y out pre).map fun p => (p.2 : Int))) g.2.2.2.2.2.2
theorem scI_yes {y : YardD} {out : List Int} {pre : List (List Int)} {x : List Int} {es : Array MapEntry} {cl : Nat} {M : List (Ints 8 × Int)} {v u : Value} {ν ω : Boxes} (hM : MapG kaV es M) (hok : MOk y.chairs.length M)
    (hc : (rightO y.claims out (mostS y.chairs.length (sceneD y (grp x)) : Int) && (decide (((scPre y out pre).length : Int) = 0) || !(lastI (scPre y out pre) == scI (sceneD y (grp x))))) = true)
    (h1 : Acc 126 9 v ((scPre y out pre).length + 1) (scsC ((scPre y out pre).map fun p => p.1) ++ ints (scI (sceneD y (grp x)))) ν) (h2 : Acc 3 1 u ((scPre y out pre).length + 1) (ints ((scPre y out pre).map fun p => (p.2 : Int)) ++ [.int .i64 (mostS y.chairs.length (sceneD y (grp x)) : Int)]) ω) : ScI y out (pre ++ [x]) (es, cl, M, v, ν, u, ω) := by
  have e : scPre y out (pre ++ [x]) = scPre y out pre ++ [(sceneD y (grp x), mostS y.chairs.length (sceneD y (grp x)))] := by
    rw [scPre_snoc, addSc, if_pos hc]
  unfold ScI
  rw [e]
  refine ⟨hM, hok, ?_, ?_⟩
  · simpa [scsC] using h1
  · simpa [ints] using h2
theorem scI_no {y : YardD} {out : List Int} {pre : List (List Int)} {x : List Int} {es : Array MapEntry} {cl : Nat} {M : List (Ints 8 × Int)} {v u : Value} {ν ω : Boxes} (hM : MapG kaV es M) (hok : MOk y.chairs.length M)
    (hc : (rightO y.claims out (mostS y.chairs.length (sceneD y (grp x)) : Int) && (decide (((scPre y out pre).length : Int) = 0) || !(lastI (scPre y out pre) == scI (sceneD y (grp x))))) = false)
    (h1 : Acc 126 9 v (scPre y out pre).length (scsC ((scPre y out pre).map fun p => p.1)) ν) (h2 : Acc 3 1 u (scPre y out pre).length (ints ((scPre y out pre).map fun p => (p.2 : Int))) ω) : ScI y out (pre ++ [x]) (es, cl, M, v, ν, u, ω) := by
  have e : scPre y out (pre ++ [x]) = scPre y out pre := by
    rw [scPre_snoc, addSc, if_neg (by rw [hc]; simp)]
  unfold ScI
  rw [e]
  exact ⟨hM, hok, h1, h2⟩
theorem allT_cap {y : YardD} (h : y.chairs.length ≤ 7) : (C1.allT (flatC y.chairs)).length ≤ 2097152 := by
  have h1 := C1.allT_length (flatC y.chairs)
  have h2 : 2 ^ (flatC y.chairs).length ≤ 2 ^ 21 := Nat.pow_le_pow_right (by omega) (by rw [flatC_length]; omega)
  omega
theorem allT_step {l x : List Int} {pre r : List (List Int)} (h : C1.allT l = pre ++ x :: r) : x.length = l.length ∧ (∀ n ∈ x, 0 ≤ n ∧ n ≤ 1) ∧ pre.length < (C1.allT l).length := by
  have hm : x ∈ C1.allT l := by rw [h]; simp
  exact ⟨(C1.allT_ok hm).1, (C1.allT_ok hm).2, by rw [h]; simp⟩
theorem grp_bits {x : List Int} (h : ∀ n ∈ x, 0 ≤ n ∧ n ≤ 1) (hg : C7.flatP (grp x) = x) : ∀ p ∈ grp x, Bits1 p := fun p hp => by
  have : ∀ n ∈ p.l, n ∈ x := fun n hn => by rw [← hg]; exact List.mem_flatMap.2 ⟨p, hp, hn⟩
  exact ⟨h _ (this _ (by simp [Pt.l])), h _ (this _ (by simp [Pt.l])), h _ (this _ (by simp [Pt.l]))⟩
theorem asc4 (A ν ω T : Boxes) : A ++ (ν ++ (ω ++ T)) = A ++ (ν ++ ω) ++ T := by simp
theorem asc5 (A ν ω T : Boxes) : A ++ ((ν ++ ω) ++ T) = A ++ ν ++ (ω ++ T) := by simp
theorem mods4 {a b c d : Nat} {l : List Nat} : ∀ k ∈ [c, d], k ∈ a :: b :: c :: d :: l := fun k hk => by
  simp only [List.mem_cons, List.not_mem_nil, or_false] at hk ⊢
  rcases hk with rfl | rfl
  · exact Or.inr (Or.inr (Or.inl rfl))
  · exact Or.inr (Or.inr (Or.inr (Or.inl rfl)))
theorem nd3 {A B ν ω C : Boxes} {k : Nat} (h : (((A ++ B) ++ (ν ++ (ω ++ C))).map fun p => p.1).Nodup) (hk : k ∈ (A ++ B).ks) : k ∉ ν.ks ++ ω.ks := by
  rw [List.map_append, List.map_append, List.map_append, List.nodup_append] at h
  intro hm
  refine h.2.2 k (by simpa using hk) k ?_ rfl
  rcases List.mem_append.1 hm with hm | hm
  · exact List.mem_append_left _ hm
  · rw [List.map_append]; exact List.mem_append_right _ (List.mem_append_left _ hm)
theorem mostS_le {n : Nat} {s : Sc} (h : ScOk n s) (hn : n ≤ 7) : mostS n s ≤ 200 := by
  have h1 := nuB_le s.fits n s.broken
  have h2 := bits_lt h.bits hn
  have h3 := h.whole
  unfold mostS; omega
theorem ks_126 : KS Try.prog 126 9 := by
  have hf : (Try.prog.fieldsOf 126).toList = [(Try.prog.fieldsOf 126)[0]!, (Try.prog.fieldsOf 126)[1]!, (Try.prog.fieldsOf 126)[2]!] := by kernel_rfl
  refine ⟨by kernel_rfl, by kernel_rfl, by kernel_rfl, ?_⟩
  rw [hf]
  refine .cons (FldOk.int (by decide +kernel) (by kernel_rfl) (by kernel_rfl)) (.cons (FldOk.int (by decide +kernel) (by kernel_rfl) (by kernel_rfl)) (.cons (n := 7) (FldOk.arr (e := 3) (by decide +kernel) (by kernel_rfl) (by kernel_rfl) (by kernel_rfl) (by kernel_rfl) ?_ ?_) .nil))
  · rw [show ((Try.prog.fieldsOf 126)[2]!).type = 124 by kernel_rfl]; exact Tf.a124
  · rw [show ((Try.prog.fieldsOf 126)[2]!).type = 124 by kernel_rfl]; exact Tf.s124
theorem scene2_ok (yv tv : Value) (y : YardD) (t : List Pt) (D : Data) (hy : YardIs D yv y) (ht : Sl D RP 3 tv t) (hlen : t.length = y.chairs.length) (h7 : t.length ≤ 7) (hb : ∀ p ∈ t, Bits1 p) (hf : 0 ≤ y.fit ∧ y.fit ≤ 9) (hs : ∀ c ∈ y.chairs, 0 ≤ c.size ∧ c.size ≤ 9) : Fn Try.prog 77 #[yv, tv] D (fun _ v => v = .agg (ints (scI (sceneD y t))).toArray) := by
  rw [← scV_eq]; exact scene_ok yv tv y t D hy ht hlen h7 hb hf hs
theorem most2_ok (wb mb : Nat) (cv qv : Value) (fit : Int) (chs : List Ch) (s : Sc) (hn7 : chs.length ≤ 7) (hs : ScOk chs.length s) (es : Array MapEntry) (clock : Nat) (M : List (Ints 8 × Int)) (D : Data) (hS : Sl D RCh 4 cv chs) (hM : MapG kaV es M) (hok : MOk chs.length M) :
    FnM Try.prog 99 [.pointer (some ⟨wb, 0, none⟩), .agg (ints (scI s)).toArray] D [(wb, .cells [cv, .int .i64 fit, qv, .map (some mb)].toArray 148 (0, 0)), (mb, .map es clock)] (fun _ v ν' => v = .int .i64 (mostS chs.length s : Int) ∧ ∃ es' clock' M', ν' = [(wb, .cells [cv, .int .i64 fit, qv, .map (some mb)].toArray 148 (0, 0)), (mb, .map es' clock')] ∧ MapG kaV es' M' ∧ MOk chs.length M') := by
  rw [← scV_eq]; exact most_ok wb mb cv qv fit chs s hn7 hs es clock M D hS hM hok
theorem scenes_ok (wb mb : Nat) (cv qv : Value) (y : YardD) (out : List Int) (ov : Value) (hn7 : y.chairs.length ≤ 7) (hft : 0 ≤ y.fit ∧ y.fit ≤ 9) (hsz : ∀ c ∈ y.chairs, 0 ≤ c.size ∧ c.size ≤ 9) (es0 : Array MapEntry) (clock0 : Nat) (M0 : List (Ints 8 × Int)) (D : Data) (hS : Sl D RCh 4 cv y.chairs) (hq : Sl D R2 2 qv y.claims) (ho : Sl D RI 1 ov out) (hM0 : MapG kaV es0 M0) (hok0 : MOk y.chairs.length M0) :
    FnM Try.prog 86 [.pointer (some ⟨wb, 0, none⟩), ov] D [(wb, .cells [cv, .int .i64 y.fit, qv, .map (some mb)].toArray 148 (0, 0)), (mb, .map es0 clock0)] (fun D' v ν' => ∃ sv mv, v = .tuple #[sv, mv] ∧ Sl D' RSc 9 sv ((scenesD y out).map fun p => p.1) ∧ Sl D' RI 1 mv ((scenesD y out).map fun p => (p.2 : Int)) ∧ ∃ es' clock' M', ν' = [(wb, .cells [cv, .int .i64 y.fit, qv, .map (some mb)].toArray 148 (0, 0)), (mb, .map es' clock')] ∧ MapG kaV es' M' ∧ MOk y.chairs.length M') := by
  obtain ⟨oa, oc, rfl⟩ := ho.shape
  refine enterManyM 56 Try.func86 rfl rfl rfl rfl (fun h0 hwl hwn => ?_)
  refine C.seq ?_
  refine C.region [(false,0),(false,1),(false,2),(false,3)] rfl ?_
  refine L.boxD rfl rfl rfl rfl trivial (fun q1 E1 hE1 hB1 => ?_)
  refine L.boxD rfl rfl rfl rfl trivial (fun q2 E2 hE2 hB2 => ?_)
  refine L.alloc rfl Tf.z135 rfl rfl trivial (fun q3 => ?_)
  refine L.alloc rfl Tf.z52 rfl rfl trivial (fun q4 => ?_)
  refine L.nil ?_
  refine C.next ?_
  refine C.seq ?_
  refine C.seq ?_
  refine C.region [(false,0),(false,1),(false,2),(false,3),(false,4)] rfl ?_
  refine L.loadD1 rfl (k := 0) Tf.a120 rfl hB1 (by first | simp | assumption) rfl List.not_mem_nil rfl trivial ?_
  refine L.nilCheck rfl rfl rfl trivial ?_
  refine L.fieldAddr rfl Tf.f148_0 rfl rfl trivial ?_
  refine L.loadBP rfl Tf.a37 Tf.s37 rfl (List.Mem.tail _ (List.Mem.tail _ (List.Mem.head _))) rfl rfl List.not_mem_nil rfl trivial ?_
  refine L.call rfl rfl rfl (fun D1 hD1 => truths_ok _ y _ ⟨_, _, rfl, hS.up RCh.up (hD1 _ (by simp)), hq.up R2.up (hD1 _ (by simp))⟩ hn7) rfl trivial (fun v1 D1 hD1 hp1 => ?_)
  refine L.nil ?_
  refine C.next ?_
  refine C.block ?_
  obtain ⟨br, rfl, hit⟩ := hp1
  refine C.rangeFuncS (γ := Array MapEntry × Nat × List (Ints 8 × Int) × Value × Boxes × Value × Boxes) (xs := C1.allT (flatC y.chairs)) (enc := encS y.chairs.length) (cells := ints) (Dr := D1) (ScI y out) (fun _ _ _ => False) (fun g => (q4, .cells [g.2.2.2.2.2.1].toArray 52 (0, 0)) :: (q3, .cells [g.2.2.2.1].toArray 135 (0, 0)) :: (wb, .cells [cv, .int .i64 y.fit, qv, .map (some mb)].toArray 148 (0, 0)) :: (mb, .map g.1 g.2.1) :: (g.2.2.2.2.1 ++ g.2.2.2.2.2.2)) (es0, clock0, M0, .slice none 0 0, [], .slice none 0 0, []) rfl rfl (fun g k hk => List.mem_cons_of_mem _ (List.mem_cons_of_mem _ (List.mem_append_left (Boxes.ks _) hk))) rfl hit (by simp) (fun _ => rfl) rfl ⟨hM0, hok0, by simpa [scPre, scsC] using Acc.nil, by simpa [scPre, ints] using Acc.nil⟩ rfl ?_ ?_ (fun _ _ _ _ h => h.elim)
  · rintro pre x ⟨es, clock, M, v, ν, u, ω⟩ ⟨us, hx⟩ ⟨hM, hok, ha1, ha2⟩ l bd bo rec hh D7 hD7 hbo hst hpend
    simp only at hM hok ha1 ha2
    obtain ⟨hx3, hxb, hpl⟩ := allT_step hx
    have hcap := allT_cap hn7
    rw [flatC_length] at hx3
    have ht := sl_grp hbo hx3 hn7
    obtain ⟨hg1, hg2⟩ := grp_of _ _ hx3
    have htl : (grp x).length = y.chairs.length := hg2
    have htb := grp_bits hxb hg1
    have hsc := scene_ok' htl (by omega)
    have hpsl := scPre_len y out pre
    have hmb := mostS_le hsc hn7
    have hfit7 : ∀ p ∈ scPre y out pre, p.1.fits.length = 7 := scPre_fits y out pre
    have hs9 := scI_len (sceneD y (grp x)) (by simp [sceneD])
    refine C.region [(false,0)] rfl ?_
    refine L.assign rfl rfl rfl trivial ?_
    refine L.nil ?_
    refine fun a w hhh => C.begin (A := [(_, _), (_, _), (_, _), (_, _)] ++ (ν ++ ω)) (B := [(bd, .deferred (some []))]) (r := rec) (l := l) (by rfl) hst ?_ a w hhh
    refine C.boxesEq ((q4, .cells [u].toArray 52 (0, 0)) :: (q3, .cells [v].toArray 135 (0, 0)) :: (wb, .cells [cv, .int .i64 y.fit, qv, .map (some mb)].toArray 148 (0, 0)) :: (mb, .map es clock) :: (ν ++ (ω ++ [(l, .loop { rec with state := .busy }), (bd, .deferred (some []))]))) (by simp) ?_
    refine C.nd (fun hnd => ?_)
    simp only [List.map_cons, List.map_append, List.map_nil, List.nodup_cons, List.nodup_append, List.mem_cons, List.mem_append, List.not_mem_nil, not_or] at hnd
    refine C.block ?_
    refine C.seq ?_
    refine C.region [(false,0),(false,1),(false,2),(false,3),(false,4),(false,5),(false,6),(false,7)] rfl ?_
    refine L.loadD1 rfl (k := 0) Tf.a120 rfl hB1 (by first | simp | assumption) rfl List.not_mem_nil rfl trivial ?_
    refine L.nilCheck rfl rfl rfl trivial ?_
    refine L.fieldAddr rfl Tf.f148_0 rfl rfl trivial ?_
    refine L.loadBP rfl Tf.a37 Tf.s37 rfl (List.Mem.tail _ (List.Mem.tail _ (List.Mem.head _))) rfl rfl List.not_mem_nil rfl trivial ?_
    refine L.move rfl rfl rfl trivial ?_
    refine L.callV rfl rfl rfl (fun D2 hD2 => scene2_ok _ _ y (grp x) _ ⟨_, _, rfl, hS.up RCh.up (hD2 _ (by simp)), hq.up R2.up (hD2 _ (by simp))⟩ (ht.up RP.up (hD2 _ (by simp))) htl (by omega) htb hft hsz) rfl trivial ?_
    refine L.alloc rfl Tf.z126 rfl rfl trivial (fun q5 => ?_)
    refine L.storeW rfl rfl rfl rfl Tf.s126 (by simpa using hs9) (by rfl) .head (ints_cell1 _) trivial ?_
    refine L.nil ?_
    refine C.next ?_
    refine C.seq ?_
    refine C.region [(false,0),(false,1),(false,2),(false,3)] rfl ?_
    refine L.loadD1 rfl (k := 0) Tf.a120 rfl hB1 (by first | simp | assumption) rfl List.not_mem_nil rfl trivial ?_
    refine L.loadBW (vs := ints (scI (sceneD y (grp x)))) rfl Tf.a126 rfl (List.Mem.head _) (by rw [show (ints (scI (sceneD y (grp x)))).length = 9 by simpa using hs9]; exact Tf.s126) List.not_mem_nil rfl trivial ?_
    refine L.boxesEq ([(_, _), (_, _), (_, _)] ++ [(_, _), (_, _)] ++ (ν ++ (ω ++ [(l, _), (bd, _)]))) rfl ?_
    refine L.callM (A := [(_, _), (_, _), (_, _)]) (ν := [(_, _), (_, _)]) (B := ν ++ (ω ++ [(l, _), (bd, _)])) rfl rfl rfl rfl (Or.inl rfl) (unf_w (cs := [_, _, _, _])) (fun D5 hD5 => most2_ok wb mb cv qv y.fit y.chairs (sceneD y (grp x)) hn7 hsc es clock M D5 (hS.up RCh.up (hD5 _ (by simp))) hM hok) rfl trivial (fun v5 D6 _ hD6 hp5 => ?_)
    obtain ⟨rfl, es1, cl1, M1, rfl, hM1, hok1⟩ := hp5
    refine L.assign rfl rfl rfl trivial ?_
    refine L.nil ?_
    refine C.next ?_
    refine C.seq ?_
    refine C.draw [] 7 [0,1,2,3,4,5,6,7,8,9,10,11,12,13,14,15,16,17,18,19,20,21] [false,false,false,false,true,true,false,false,false,false,false,false,false,true,true,true,false,false,true,false,false,false] [(false,0),(false,1),(false,2),(false,3),(true,4),(true,5),(false,6),(false,7),(false,8),(false,9),(false,10),(false,11),(false,12),(true,13),(true,14),(true,15),(false,16),(false,17),(true,18),(false,19),(false,20),(false,21)] Tf.follows (fun _ _ _ h => h) (by kernel_rfl) rfl ?_
    refine L.loadD1 rfl (k := 0) Tf.a120 rfl hB1 (by first | simp | assumption) rfl List.not_mem_nil rfl trivial ?_
    refine L.nilCheck rfl rfl rfl trivial ?_
    refine L.fieldAddr rfl Tf.f148_0 rfl rfl trivial ?_
    refine L.loadBP rfl Tf.a37 Tf.s37 rfl (List.Mem.tail _ (List.Mem.tail _ (List.Mem.tail _ (List.Mem.head _)))) rfl rfl List.not_mem_nil rfl trivial ?_
    refine L.move rfl rfl rfl trivial ?_
    refine L.loadD1 rfl (k := 0) Tf.a52 rfl hB2 (by first | simp | assumption) rfl List.not_mem_nil rfl trivial ?_
    refine L.callV rfl rfl rfl (fun D3 hD3 => right_ok _ y _ _ out _ ⟨_, _, rfl, hS.up RCh.up (hD3 _ (by simp)), hq.up R2.up (hD3 _ (by simp))⟩ (ho.up RI.up (hD3 _ (by simp)))) rfl trivial ?_
    refine L.move rfl rfl rfl trivial ?_
    refine' L.and [(false,8),(false,9),(false,10),(false,11),(false,12),(true,13),(true,14),(true,15),(false,16),(false,17),(true,18),(false,19),(false,20),(false,21)] [] (s := 31) (p := 45) rfl rfl (fun hg1 => ?_) (fun hg1 => ?_) ?_
    rotate_left
    · refine L.loadB1 rfl Tf.a135 rfl (List.Mem.tail _ (List.Mem.tail _ (List.Mem.head _))) rfl List.not_mem_nil rfl ⟨_, rfl, rfl⟩ ?_
      refine L.lenAcc rfl Try.underlying135 rfl ha1 rfl rfl ⟨_, rfl, rfl⟩ ?_
      refine L.eql rfl rfl rfl rfl ⟨_, rfl, rfl⟩ ?_
      refine L.move rfl rfl rfl ⟨_, rfl, rfl⟩ ?_
      refine' L.or [(false,12),(true,13),(true,14),(true,15),(false,16),(false,17),(true,18),(false,19),(false,20)] [(false,21)] (s := 35) (p := 44) rfl rfl (fun hg2 => ?_) (fun hg2 => ?_) ?_
      rotate_left
      · have hne : scPre y out pre ≠ [] := fun e => by rw [e] at hg2; simp at hg2
        have hpos := List.length_pos_iff.2 hne
        obtain ⟨b5, cap5, junk5, rfl, hcp5, rfl, hl51, hl52⟩ := ha1.some hpos
        refine L.loadB1 rfl Tf.a135 rfl (List.Mem.tail _ (List.Mem.tail _ (List.Mem.head _))) rfl List.not_mem_nil rfl ⟨_, rfl, rfl⟩ ?_
        refine L.loadB1 rfl Tf.a135 rfl (List.Mem.tail _ (List.Mem.tail _ (List.Mem.head _))) rfl List.not_mem_nil rfl ⟨_, rfl, rfl⟩ ?_
        refine L.lenV rfl Try.underlying135 rfl rfl rfl ⟨_, rfl, rfl⟩ ?_
        refine L.sub rfl rfl rfl (by simp only [inK]; omega) rfl ⟨_, rfl, rfl⟩ ?_
        refine L.indexP rfl Try.underlying135 Tf.s126 rfl rfl (by omega) (by omega) rfl ⟨_, rfl, rfl⟩ ?_
        refine L.loadBP (vs := scsC ((scPre y out pre).map fun p => p.1) ++ junk5) (us := ints (lastI (scPre y out pre))) rfl Tf.a126 Tf.s126 rfl (List.Mem.tail _ (List.Mem.tail _ (List.Mem.tail _ (List.Mem.tail _ (List.Mem.tail _ (List.Mem.head _)))))) (lastI_at hfit7 hne junk5) (by simpa using lastI_len hfit7 hne) List.not_mem_nil rfl ⟨_, rfl, rfl⟩ ?_
        refine L.loadBW (vs := ints (scI (sceneD y (grp x)))) rfl Tf.a126 rfl (List.Mem.head _) (by rw [show (ints (scI (sceneD y (grp x)))).length = 9 by simpa using hs9]; exact Tf.s126) List.not_mem_nil rfl ⟨_, rfl, rfl⟩ ?_
        refine L.neqS (n := 9) rfl ks_126 (lastI_len hfit7 hne) hs9 rfl rfl rfl ⟨_, rfl, rfl⟩ ?_
        refine L.pickF rfl rfl rfl rfl ⟨_, rfl, rfl⟩ ?_
        exact L.nil fun a w hh => hh.cutK 8 rfl
      · refine L.pass rfl rfl rfl ⟨_, _, rfl, rfl, rfl⟩ ?_
        refine L.pass rfl rfl rfl ⟨_, _, rfl, rfl, rfl⟩ ?_
        refine L.pass rfl rfl rfl ⟨_, _, rfl, rfl, rfl⟩ ?_
        refine L.pass rfl rfl rfl ⟨_, _, rfl, rfl, rfl⟩ ?_
        refine L.pass rfl rfl rfl ⟨_, _, rfl, rfl, rfl⟩ ?_
        refine L.pass rfl rfl rfl ⟨_, _, rfl, rfl, rfl⟩ ?_
        refine L.pass rfl rfl rfl ⟨_, _, rfl, rfl, rfl⟩ ?_
        refine L.pass rfl rfl rfl ⟨_, _, rfl, rfl, rfl⟩ ?_
        refine L.pickT rfl rfl rfl rfl ⟨_, rfl, rfl⟩ ?_
        exact L.nil fun a w hh => hh.cutK 8 rfl
      refine L.pickT rfl rfl rfl rfl trivial ?_
      exact L.nil fun a w hh => hh.cutK 5 rfl
    · refine L.pass rfl rfl rfl ⟨_, _, rfl, rfl, rfl⟩ ?_
      refine L.pass rfl rfl rfl ⟨_, _, rfl, rfl, rfl⟩ ?_
      refine L.pass rfl rfl rfl ⟨_, _, rfl, rfl, rfl⟩ ?_
      refine L.pass rfl rfl rfl ⟨_, _, rfl, rfl, rfl⟩ ?_
      refine L.pass rfl rfl rfl ⟨_, _, rfl, rfl, rfl⟩ ?_
      refine L.pass rfl rfl rfl ⟨_, _, rfl, rfl, rfl⟩ ?_
      refine L.pass rfl rfl rfl ⟨_, _, rfl, rfl, rfl⟩ ?_
      refine L.pass rfl rfl rfl ⟨_, _, rfl, rfl, rfl⟩ ?_
      refine L.pass rfl rfl rfl ⟨_, _, rfl, rfl, rfl⟩ ?_
      refine L.pass rfl rfl rfl ⟨_, _, rfl, rfl, rfl⟩ ?_
      refine L.pass rfl rfl rfl ⟨_, _, rfl, rfl, rfl⟩ ?_
      refine L.pass rfl rfl rfl ⟨_, _, rfl, rfl, rfl⟩ ?_
      refine L.pass rfl rfl rfl ⟨_, _, rfl, rfl, rfl⟩ ?_
      refine L.pickF rfl rfl rfl rfl trivial ?_
      exact L.nil fun a w hh => hh.cutK 13 rfl
    refine L.nil ?_
    refine C.next ?_
    refine C.cond rfl (fun hc1 => ?_) (fun hc1 => ?_)
    · refine C.nd (fun hnd => ?_)
      have hq5 := nd3 (A := [_, _, _]) (B := [_, _]) (k := q5) hnd (List.Mem.head _)
      have hq4 := nd3 (A := [_, _, _]) (B := [_, _]) (k := q4) hnd (List.Mem.tail _ (List.Mem.head _))
      have hq3 := nd3 (A := [_, _, _]) (B := [_, _]) (k := q3) hnd (List.Mem.tail _ (List.Mem.tail _ (List.Mem.head _)))
      refine C.drawS (ν.ks ++ ω.ks) 3 [false,true,true,true,true,true,true,false,false,false] [.fork [0,1,4,5] 2 (.fork [] 3 (.fin [6]) 6 (.fin [3])) 6 (.fin [2,3]), .fin [7,8,9]] Tf.follows (fun _ _ _ h => h) (by kernel_rfl) ?_
      refine S.cons ?_
      refine L.planFork [(false,0),(true,1),(true,4),(true,5)] rfl ?_
      refine L.loadB1 rfl Tf.a135 rfl (List.Mem.tail _ (List.Mem.tail _ (List.Mem.head _))) rfl (by first | assumption | simp) rfl trivial ?_
      refine L.loadBW (vs := ints (scI (sceneD y (grp x)))) rfl Tf.a126 rfl (List.Mem.head _) (by rw [show (ints (scI (sceneD y (grp x)))).length = 9 by simpa using hs9]; exact Tf.s126) hq5 rfl trivial ?_
      refine L.loadB1 rfl Tf.a52 rfl (List.Mem.tail _ (List.Mem.head _)) rfl (by first | assumption | simp) rfl trivial ?_
      refine L.move rfl rfl rfl trivial ?_
      refine L.nil (L.forkP true true rfl rfl ?_ ?_)
      · refine L.buildSlice rfl Try.underlying135 Tf.s126 Tf.z126 rfl rfl rfl rfl (.cons rfl (by simpa using hs9) .nil) rfl trivial (fun b901 D901 hD901 hA901 => ?_)
        have hAs := hA901
        refine L.nil ?_
        refine L.planFork [] rfl ?_
        refine L.nil (L.forkP true true rfl rfl ?_ ?_)
        · refine L.boxesEq ([(_, _), (_, _), (_, _), (_, _), (_, _)] ++ ν ++ (ω ++ [(l, _), (bd, _)])) (List.append_assoc _ _ _).symm ?_
          refine L.append (A := [(_, _), (_, _), (_, _), (_, _), (_, _)]) (B := (ω ++ [(l, _), (bd, _)])) rfl Try.underlying135 rfl rfl Tf.s126 Tf.z126 rfl Tf.i126 rfl rfl rfl ha1 (Src.lit hAs) (by simp) (by simpa using hs9) (scsC_len hfit7) (by simpa using ints_cell1 _) (by omega) (Or.inr (fun p hp => List.mem_append_left _ (List.mem_map.2 ⟨p, hp, rfl⟩))) rfl trivial (fun v1x ν1x ha1x => ?_)
          refine L.nil ?_
          refine L.planFin [(true,6)] rfl ?_
          refine L.buildSlice rfl Try.underlying52 Tf.s3 Tf.z3 rfl rfl rfl rfl (.cons rfl rfl .nil) rfl trivial (fun b902 D902 hD902 hA902 => ?_)
          have hAm := hA902
          refine L.nil ?_
          refine S.fin [(false,7),(false,8),(false,9)] rfl ?_
          refine L.boxesEq (([(_, _), (_, _), (_, _), (_, _), (_, _)] ++ ν1x) ++ ω ++ [(l, _), (bd, _)]) (List.append_assoc _ _ _).symm ?_
          refine L.append (A := [(_, _), (_, _), (_, _), (_, _), (_, _)] ++ ν1x) (B := [(l, _), (bd, _)]) rfl Try.underlying52 rfl rfl Tf.s3 Tf.z3 rfl Tf.i3 rfl rfl rfl ha2 (Src.lit hAm) (by simp) rfl (by simp) (by simp [cell1]) (by omega) (Or.inr (fun p hp => List.mem_append_right _ (List.mem_map.2 ⟨p, hp, rfl⟩))) rfl trivial (fun u1x ω1x ha2x => ?_)
          refine L.boxesEq ((q5, _) :: (q4, .cells [u].toArray 52 (0, 0)) :: (q3, .cells [v].toArray 135 (0, 0)) :: (wb, .cells [cv, .int .i64 y.fit, qv, .map (some mb)].toArray 148 (0, 0)) :: (mb, .map es1 cl1) :: (ν1x ++ (ω1x ++ [(l, _), (bd, _)]))) ((List.append_assoc _ _ _).trans (List.append_assoc _ _ _)) ?_
          refine L.store rfl rfl rfl ha1x.cells1 Tf.s135 (.tail (.tail .head)) (by simp) rfl ha1x.cell1 trivial ?_
          refine L.store rfl rfl rfl ha2x.cells1 Tf.s52 (.tail .head) (by simp) rfl ha2x.cell1 trivial ?_
          have hI1 : ScI y out (pre ++ [x]) (es1, cl1, M1, v1x, ν1x, u1x, ω1x) := scI_yes hM1 hok1 hc1 (by simpa using ha1x) (by simpa using ha2x)
          refine L.nil ?_
          refine S.nil ?_
          refine C.blockEnd ?_
          exact fun a w hh => C.roundOn (A := [(_, _), (_, _), (_, _), (_, _)] ++ (ν1x ++ ω1x)) (B := [(bd, .deferred (some []))]) (es1, cl1, M1, v1x, ν1x, u1x, ω1x) hI1 rfl rfl a w ((hh.dropBoxes 1).boxesEq (asc4 [_, _, _, _] ν1x ω1x [_, _]))
        · refine L.buildSlice rfl Try.underlying52 Tf.s3 Tf.z3 rfl rfl rfl rfl (.cons rfl rfl .nil) rfl trivial (fun b902 D902 hD902 hA902 => ?_)
          have hAm := hA902
          refine L.nil ?_
          refine L.planFin [(true,3)] rfl ?_
          refine L.boxesEq ([(_, _), (_, _), (_, _), (_, _), (_, _)] ++ ν ++ (ω ++ [(l, _), (bd, _)])) (List.append_assoc _ _ _).symm ?_
          refine L.append (A := [(_, _), (_, _), (_, _), (_, _), (_, _)]) (B := (ω ++ [(l, _), (bd, _)])) rfl Try.underlying135 rfl rfl Tf.s126 Tf.z126 rfl Tf.i126 rfl rfl rfl ha1 (Src.lit hAs) (by simp) (by simpa using hs9) (scsC_len hfit7) (by simpa using ints_cell1 _) (by omega) (Or.inr (fun p hp => List.mem_append_left _ (List.mem_map.2 ⟨p, hp, rfl⟩))) rfl trivial (fun v1x ν1x ha1x => ?_)
          refine L.nil ?_
          refine S.fin [(false,7),(false,8),(false,9)] rfl ?_
          refine L.boxesEq (([(_, _), (_, _), (_, _), (_, _), (_, _)] ++ ν1x) ++ ω ++ [(l, _), (bd, _)]) (List.append_assoc _ _ _).symm ?_
          refine L.append (A := [(_, _), (_, _), (_, _), (_, _), (_, _)] ++ ν1x) (B := [(l, _), (bd, _)]) rfl Try.underlying52 rfl rfl Tf.s3 Tf.z3 rfl Tf.i3 rfl rfl rfl ha2 (Src.lit hAm) (by simp) rfl (by simp) (by simp [cell1]) (by omega) (Or.inr (fun p hp => List.mem_append_right _ (List.mem_map.2 ⟨p, hp, rfl⟩))) rfl trivial (fun u1x ω1x ha2x => ?_)
          refine L.boxesEq ((q5, _) :: (q4, .cells [u].toArray 52 (0, 0)) :: (q3, .cells [v].toArray 135 (0, 0)) :: (wb, .cells [cv, .int .i64 y.fit, qv, .map (some mb)].toArray 148 (0, 0)) :: (mb, .map es1 cl1) :: (ν1x ++ (ω1x ++ [(l, _), (bd, _)]))) ((List.append_assoc _ _ _).trans (List.append_assoc _ _ _)) ?_
          refine L.store rfl rfl rfl ha1x.cells1 Tf.s135 (.tail (.tail .head)) (by simp) rfl ha1x.cell1 trivial ?_
          refine L.store rfl rfl rfl ha2x.cells1 Tf.s52 (.tail .head) (by simp) rfl ha2x.cell1 trivial ?_
          have hI1 : ScI y out (pre ++ [x]) (es1, cl1, M1, v1x, ν1x, u1x, ω1x) := scI_yes hM1 hok1 hc1 (by simpa using ha1x) (by simpa using ha2x)
          refine L.nil ?_
          refine S.nil ?_
          refine C.blockEnd ?_
          exact fun a w hh => C.roundOn (A := [(_, _), (_, _), (_, _), (_, _)] ++ (ν1x ++ ω1x)) (B := [(bd, .deferred (some []))]) (es1, cl1, M1, v1x, ν1x, u1x, ω1x) hI1 rfl rfl a w ((hh.dropBoxes 1).boxesEq (asc4 [_, _, _, _] ν1x ω1x [_, _]))
      · refine L.buildSlice rfl Try.underlying52 Tf.s3 Tf.z3 rfl rfl rfl rfl (.cons rfl rfl .nil) rfl trivial (fun b901 D901 hD901 hA901 => ?_)
        have hAm := hA901
        refine L.nil ?_
        refine L.planFin [(true,2),(true,3)] rfl ?_
        refine L.buildSlice rfl Try.underlying135 Tf.s126 Tf.z126 rfl rfl rfl rfl (.cons rfl (by simpa using hs9) .nil) rfl trivial (fun b902 D902 hD902 hA902 => ?_)
        have hAs := hA902
        refine L.boxesEq ([(_, _), (_, _), (_, _), (_, _), (_, _)] ++ ν ++ (ω ++ [(l, _), (bd, _)])) (List.append_assoc _ _ _).symm ?_
        refine L.append (A := [(_, _), (_, _), (_, _), (_, _), (_, _)]) (B := (ω ++ [(l, _), (bd, _)])) rfl Try.underlying135 rfl rfl Tf.s126 Tf.z126 rfl Tf.i126 rfl rfl rfl ha1 (Src.lit hAs) (by simp) (by simpa using hs9) (scsC_len hfit7) (by simpa using ints_cell1 _) (by omega) (Or.inr (fun p hp => List.mem_append_left _ (List.mem_map.2 ⟨p, hp, rfl⟩))) rfl trivial (fun v1x ν1x ha1x => ?_)
        refine L.nil ?_
        refine S.fin [(false,7),(false,8),(false,9)] rfl ?_
        refine L.boxesEq (([(_, _), (_, _), (_, _), (_, _), (_, _)] ++ ν1x) ++ ω ++ [(l, _), (bd, _)]) (List.append_assoc _ _ _).symm ?_
        refine L.append (A := [(_, _), (_, _), (_, _), (_, _), (_, _)] ++ ν1x) (B := [(l, _), (bd, _)]) rfl Try.underlying52 rfl rfl Tf.s3 Tf.z3 rfl Tf.i3 rfl rfl rfl ha2 (Src.lit hAm) (by simp) rfl (by simp) (by simp [cell1]) (by omega) (Or.inr (fun p hp => List.mem_append_right _ (List.mem_map.2 ⟨p, hp, rfl⟩))) rfl trivial (fun u1x ω1x ha2x => ?_)
        refine L.boxesEq ((q5, _) :: (q4, .cells [u].toArray 52 (0, 0)) :: (q3, .cells [v].toArray 135 (0, 0)) :: (wb, .cells [cv, .int .i64 y.fit, qv, .map (some mb)].toArray 148 (0, 0)) :: (mb, .map es1 cl1) :: (ν1x ++ (ω1x ++ [(l, _), (bd, _)]))) ((List.append_assoc _ _ _).trans (List.append_assoc _ _ _)) ?_
        refine L.store rfl rfl rfl ha1x.cells1 Tf.s135 (.tail (.tail .head)) (by simp) rfl ha1x.cell1 trivial ?_
        refine L.store rfl rfl rfl ha2x.cells1 Tf.s52 (.tail .head) (by simp) rfl ha2x.cell1 trivial ?_
        have hI1 : ScI y out (pre ++ [x]) (es1, cl1, M1, v1x, ν1x, u1x, ω1x) := scI_yes hM1 hok1 hc1 (by simpa using ha1x) (by simpa using ha2x)
        refine L.nil ?_
        refine S.nil ?_
        refine C.blockEnd ?_
        exact fun a w hh => C.roundOn (A := [(_, _), (_, _), (_, _), (_, _)] ++ (ν1x ++ ω1x)) (B := [(bd, .deferred (some []))]) (es1, cl1, M1, v1x, ν1x, u1x, ω1x) hI1 rfl rfl a w ((hh.dropBoxes 1).boxesEq (asc4 [_, _, _, _] ν1x ω1x [_, _]))
    · have hI0 : ScI y out (pre ++ [x]) (es1, cl1, M1, v, ν, u, ω) := scI_no hM1 hok1 hc1 ha1 ha2
      refine C.skip ?_
      refine C.blockEnd ?_
      exact fun a w hh => C.roundOn (A := [(_, _), (_, _), (_, _), (_, _)] ++ (ν ++ ω)) (B := [(bd, .deferred (some []))]) (es1, cl1, M1, v, ν, u, ω) hI0 rfl rfl a w ((hh.dropBoxes 1).boxesEq (asc4 [_, _, _, _] ν ω [_, _]))
  · rintro ⟨es, clock, M, v, ν, u, ω⟩ bd ⟨hM, hok, ha1, ha2⟩
    simp only at hM hok ha1 ha2
    rw [scPre_all] at ha1 ha2
    have hfit7 : ∀ p ∈ scenesD y out, p.1.fits.length = 7 := by rw [← scPre_all]; exact scPre_fits y out _
    have hsl : (scenesD y out).length ≤ 2097152 := by rw [← scPre_all]; have := scPre_len y out (C1.allT (flatC y.chairs)); have := allT_cap hn7; omega
    refine Q.boxesEq ((q4, .cells [u].toArray 52 (0, 0)) :: (q3, .cells [v].toArray 135 (0, 0)) :: (wb, .cells [cv, .int .i64 y.fit, qv, .map (some mb)].toArray 148 (0, 0)) :: (mb, .map es clock) :: ((ν ++ ω) ++ [(bd, .deferred (some []))])) rfl ?_
    refine C.blockEnd ?_
    refine C.next ?_
    refine C.seq ?_
    refine C.draw [] 1 [0,1,2,3] [false,true,true,false] [(false,0),(true,1),(true,2),(false,3)] Tf.follows (fun _ _ _ h => h) (by kernel_rfl) rfl ?_
    refine L.loadB1 rfl Tf.a135 rfl (List.Mem.tail _ (List.Mem.head _)) rfl List.not_mem_nil rfl trivial ?_
    refine L.loadB1 rfl Tf.a52 rfl (List.Mem.head _) rfl List.not_mem_nil rfl trivial ?_
    refine L.storeS rfl rfl rfl ha1.cells1 Tf.s135 (.tail .head) (by simp) rfl ha1.cell1 trivial ?_
    refine L.store rfl rfl rfl ha2.cells1 Tf.s52 .head (by simp) rfl ha2.cell1 trivial ?_
    refine L.nil ?_
    refine C.next ?_
    refine C.ret ?_
    refine Q.boxesEq ([(_, _), (_, _), (_, _), (_, _)] ++ ν ++ (ω ++ [(bd, _)])) (asc5 [_, _, _, _] ν ω [_]) ?_
    refine Q.freezeM (A := [(_, _), (_, _), (_, _), (_, _)]) (B := ω ++ [(bd, _)]) ha1 mods4 (fun D8 hD8 hF8 => ?_)
    refine Q.boxesEq ([(_, _), (_, _), (_, _), (_, _)] ++ ω ++ [(bd, _)]) (List.append_assoc _ _ _).symm ?_
    refine Q.freezeM (A := [(_, _), (_, _), (_, _), (_, _)]) (B := [(bd, _)]) ha2 mods4 (fun D9 hD9 hF9 => ?_)
    exact leaveManyM1 (A := [(_, _), (_, _)]) (ν' := [(_, _), (_, _)]) (B := []) (vs := [_, _]) rfl rfl rfl ⟨⟨_, _, _, rfl, (List.Mem.tail _ (List.Mem.head _)), Or.inl ⟨Tf.a135, rfl⟩⟩, ⟨_, _, _, rfl, List.Mem.head _, Or.inl ⟨Tf.a52, rfl⟩⟩, trivial⟩ rfl (fun D hD => ⟨v, u, rfl, (hF8.scs (by simp) (by omega)).up RSc.up ((hD9 _ (by simp)).trans (hD _ (by simp))), (hF9.ints (by simp) (by omega)).up RI.up (hD _ (by simp)), es, clock, M, rfl, hM, hok⟩)
theorem possible_ok (wb mb : Nat) (cv qv : Value) (y : YardD) (out : List Int) (ov : Value) (hn7 : y.chairs.length ≤ 7) (hft : 0 ≤ y.fit ∧ y.fit ≤ 9) (hsz : ∀ c ∈ y.chairs, 0 ≤ c.size ∧ c.size ≤ 9) (es : Array MapEntry) (clock : Nat) (M : List (Ints 8 × Int)) (D : Data) (hS : Sl D RCh 4 cv y.chairs) (hq : Sl D R2 2 qv y.claims) (ho : Sl D RI 1 ov out) (hM : MapG kaV es M) (hok : MOk y.chairs.length M) :
    FnM Try.prog 93 [.pointer (some ⟨wb, 0, none⟩), ov] D [(wb, .cells [cv, .int .i64 y.fit, qv, .map (some mb)].toArray 148 (0, 0)), (mb, .map es clock)] (fun _D' v ν' => v = .bool (decide (0 < ((scenesD y out).length : Int))) ∧ ∃ es' clock' M', ν' = [(wb, .cells [cv, .int .i64 y.fit, qv, .map (some mb)].toArray 148 (0, 0)), (mb, .map es' clock')] ∧ MapG kaV es' M' ∧ MOk y.chairs.length M') := by
  refine enterMany 16 Try.func93 rfl rfl rfl rfl (fun h0 hwl hwn => ?_)
  refine C.seq ?_
  refine C.region [(false,0)] rfl ?_
  refine L.assign rfl rfl rfl trivial ?_
  refine L.nil ?_
  refine C.next ?_
  refine C.seq ?_
  refine C.region [(false,0),(false,1),(false,2),(false,3),(false,4),(false,5),(false,6),(false,7)] rfl ?_
  refine L.move rfl rfl rfl trivial ?_
  refine L.move rfl rfl rfl trivial ?_
  refine L.callM (A := []) (ν := [(_, _), (_, _)]) (B := []) rfl rfl rfl rfl (Or.inl rfl) (unf_w (cs := [_, _, _, _])) (fun D5 hD5 => scenes_ok wb mb cv qv y out _ hn7 hft hsz es clock M D5 (hS.up RCh.up (hD5 _ (by simp))) (hq.up R2.up (hD5 _ (by simp))) (ho.up RI.up (hD5 _ (by simp))) hM hok) rfl trivial (fun v5 D6 _ hD6 hp5 => ?_)
  obtain ⟨sv, mv, rfl, hsv, hmv, es1, cl1, M1, rfl, hM1, hok1⟩ := hp5
  refine L.move rfl rfl rfl trivial ?_
  refine L.extract rfl rfl rfl rfl trivial ?_
  refine L.extract rfl rfl rfl rfl trivial ?_
  refine L.assign rfl rfl rfl trivial ?_
  refine L.assign rfl rfl rfl trivial ?_
  refine L.nil ?_
  refine C.next ?_
  refine C.seq ?_
  refine C.region [(false,0),(false,1),(false,2),(false,3)] rfl ?_
  refine L.move rfl rfl rfl trivial ?_
  refine L.len rfl Try.underlying135 rfl hsv rfl rfl trivial ?_
  refine L.gtr rfl rfl rfl rfl trivial ?_
  refine L.assign rfl rfl rfl trivial ?_
  refine L.nil ?_
  refine C.next ?_
  refine C.ret ?_
  exact leaveMany (A := []) (ν' := [_, _]) (B := []) (vs := [_]) rfl rfl rfl ⟨rfl, trivial⟩ rfl (fun D hD => ⟨by show Value.bool _ = _; simp, es1, cl1, M1, rfl, hM1, hok1⟩)
end Go.Fs
