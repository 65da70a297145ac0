/- Walks: the iterator over all truths. -/
import Derived.Test.YtjhdcelmgfajbaaW8
namespace Go.Fs
open Go.Proofs
open C7

/-- The blocks of 'choose', of 'out', and of the list. -/
def chooseMu (bh bc bo bY br n : Nat) (c : List Int) : Boxes := [(bh, .cells [.func (.func 122) #[] #[.pointer (some ⟨bc, 0, none⟩), .pointer (some ⟨bY, 0, none⟩), .pointer (some ⟨br, 0, none⟩), .pointer (some ⟨bh, 0, none⟩)]].toArray 170 (0, 0)), (bc, .cells [.slice (some ⟨bo, 0, none⟩) n n].toArray 39 (0, 0)), (bo, .cells (ints c).toArray 113 (0, 0))]
theorem take_pre {c pre : List Int} {i : Nat} {k : Int} (h : c.take (i + 1) = pre ++ [k]) (hl : pre.length = i) : c.take i = pre := by
  have := congrArg (List.take i) h
  rw [List.take_take, Nat.min_eq_left (Nat.le_succ i)] at this
  rw [this, List.take_append_of_le_length (by omega), List.take_of_length_le (by omega)]
def encS (n bo : Nat) : List Value := [.slice (some ⟨bo, 0, none⟩) n n]
def YieldsS (P : Program) (Dr : Data) (lo l n : Nat) (J Jx : List (List Int) → Inv) (xs : List (List Int)) : Prop := ∀ pre x β D w bo, (∃ r, xs = pre ++ x :: r) → Dom lo D w → J pre β D w → (∀ b ∈ β, b < w.heap.size) → Le Dr D → Shown β D w bo (ints x) →
        YieldRuns P l (encS n bo) w fun b D' w' => Dom lo D' w' ∧ High β D w D' w' ∧ (if b then J (pre ++ [x]) β D' w' else Jx (pre ++ [x]) β D' w')
def chooseR (J Jx : List (List Int) → Inv) (bh bc bo bY br n : Nat) (places : List Int) (pre : List Int) (i : Nat) (done : List (List Int)) (v : Value) (J' : Inv) (μ' : Boxes) : Prop :=
  ∃ b c', v = .bool b ∧ c'.length = 3 * n ∧ c'.take i = pre ∧ μ' = chooseMu bh bc bo bY br n c' ∧ (if b = true then J' = J (done ++ (C1.allT (places.drop i)).map fun t => pre ++ t) else ∃ p, J' = Jx p)
def brC (p : Int) (ps pre : List Int) (k : Nat) : List (List Int) := (List.range k).flatMap fun (m : Nat) => if p = 2 ∨ p = (m : Int) then (C1.allT ps).map (fun t => pre ++ (m : Int) :: t) else []
theorem brC_zero {p : Int} {ps pre : List Int} : brC p ps pre 0 = [] := rfl
theorem brC_no {p : Int} {ps pre : List Int} {k : Nat} (h : ¬ (p = 2 ∨ p = (k : Int))) : brC p ps pre (k + 1) = brC p ps pre k := by
  unfold brC; rw [List.range_succ, List.flatMap_append, List.flatMap_singleton, if_neg h, List.append_nil]
theorem brC_yes {p : Int} {ps pre : List Int} {k : Nat} (h : p = 2 ∨ p = (k : Int)) : brC p ps pre (k + 1) = brC p ps pre k ++ (C1.allT ps).map (fun t => (pre ++ [(k : Int)]) ++ t) := by
  unfold brC; rw [List.range_succ, List.flatMap_append, List.flatMap_singleton, if_pos h]; simp
theorem brC_two {p : Int} {ps pre : List Int} : brC p ps pre 2 = (C1.allT (p :: ps)).map (fun t => pre ++ t) := by
  rw [show C1.allT (p :: ps) = (if p = 2 ∨ p = 0 then (C1.allT ps).map (0 :: ·) else []) ++ (if p = 2 ∨ p = 1 then (C1.allT ps).map (1 :: ·) else []) from rfl]
  unfold brC
  rw [show List.range 2 = [0, 1] from rfl, List.flatMap_cons, List.flatMap_cons, List.flatMap_nil, List.append_nil, List.map_append]
  congr 1
  · by_cases h : p = 2 ∨ p = 0
    · rw [if_pos h, if_pos (by simpa using h)]; simp
    · rw [if_neg h, if_neg (by simpa using h)]; rfl
  · by_cases h : p = 2 ∨ p = 1
    · rw [if_pos h, if_pos (by simpa using h)]; simp
    · rw [if_neg h, if_neg (by simpa using h)]; rfl
theorem brC_rest {p : Int} {ps pre : List Int} {k : Nat} (hk : k < 2) : ∃ r, brC p ps pre 2 = brC p ps pre (k + 1) ++ r := by
  have e : k = 0 ∨ k = 1 := by omega
  rcases e with rfl | rfl
  · refine ⟨[1].flatMap fun (m : Nat) => if p = 2 ∨ p = (m : Int) then (C1.allT ps).map (fun t => pre ++ (m : Int) :: t) else [], ?_⟩
    unfold brC
    rw [show List.range 2 = [0] ++ [1] from rfl, List.flatMap_append]; rfl
  · exact ⟨[], by simp⟩
theorem set_take {c pre : List Int} {i : Nat} {k : Int} (hi : i < c.length) (h : c.take i = pre) : (c.set i k).take (i + 1) = pre ++ [k] := by
  rw [List.take_add_one, List.getElem?_set_self hi, Option.toList_some, List.take_set_of_le (Nat.le_refl _), h]
theorem flatC_get {l : List Ch} {i : Nat} {p : Int} (h : (flatC l)[i]? = some p) : ∃ x, l[i / 3]? = some x ∧ x.parts.l[i % 3]? = some p := by
  induction l generalizing i with
  | nil => simp [flatC] at h
  | cons c l ih =>
    rw [show flatC (c :: l) = c.parts.a :: c.parts.b :: c.parts.c :: flatC l from rfl] at h
    match i with
    | 0 => exact ⟨c, rfl, by simpa [Pt.l] using h⟩
    | 1 => exact ⟨c, rfl, by simpa [Pt.l] using h⟩
    | 2 => exact ⟨c, rfl, by simpa [Pt.l] using h⟩
    | j + 3 =>
      obtain ⟨x, h1, h2⟩ := ih (i := j) (by simpa using h)
      exact ⟨x, by rw [show (j + 3) / 3 = j / 3 + 1 by omega]; simpa using h1, by rw [show (j + 3) % 3 = j % 3 by omega]; exact h2⟩
theorem mem_bo {bh bc bo bY br n : Nat} {c : List Int} : (bo, Obj.cells (ints c).toArray 113 (0, 0)) ∈ chooseMu bh bc bo bY br n c := List.Mem.tail _ (List.Mem.tail _ (List.Mem.head _))
theorem ptr_i (i : Nat) : 0 + ((i : Int) / 3).toNat * 3 + ((i : Int) % 3).toNat * 1 = i := by omega
theorem choose_ok {lo l : Nat} {J Jx : List (List Int) → Inv} {y : YardD} {xs : List (List Int)} {Dr Dy : Data} {Ds : List Data} {bh bc bo bY br : Nat} {cv qv : Value} (hn7 : y.chairs.length ≤ 7)
    (hs : ∀ pre, Stb lo (J pre)) (hsx : ∀ pre, Stb lo (Jx pre)) (hY : YieldsS Try.prog Dr lo l y.chairs.length J Jx xs) (hDr : Dr ∈ Ds) (hDy : Dy ∈ Ds) (hA : At Dr br 0 [cv, .int .i64 y.fit, qv]) (hc : Sl Dr RCh 4 cv y.chairs) (hB : At Dy bY 0 [.func (.yield l) #[] #[]]) :
    ∀ (j i : Nat) (pre c : List Int) (done rest : List (List Int)) (iv : Int), iv = i → i + j = 3 * y.chairs.length → pre.length = i → c.length = 3 * y.chairs.length → c.take i = pre →
      xs = done ++ (C1.allT ((flatC y.chairs).drop i)).map (fun t => pre ++ t) ++ rest →
      FnJ Try.prog 122 [.int .i64 iv, .pointer (some ⟨bc, 0, none⟩), .pointer (some ⟨bY, 0, none⟩), .pointer (some ⟨br, 0, none⟩), .pointer (some ⟨bh, 0, none⟩)] lo (J done) (chooseMu bh bc bo bY br y.chairs.length c) Ds (chooseR J Jx bh bc bo bY br y.chairs.length (flatC y.chairs) pre i done) := by
  intro j
  induction j using Nat.strongRecOn with
  | _ j ih =>
  intro i pre c done rest iv hiv hij hl h9 hp hxs
  subst hiv
  have hmx := hc.len
  have hfl := flatC_length y.chairs
  refine enterJ (μ := chooseMu bh bc bo bY br y.chairs.length c) 52 Try.func122 rfl rfl rfl rfl ?_
  refine C.seq ?_
  refine C.region [(false,0)] rfl ?_
  refine L.assign rfl rfl rfl trivial ?_
  refine L.nil ?_
  refine C.next ?_
  refine C.seq ?_
  refine C.region [(false,0),(false,1),(false,2),(false,3),(false,4),(false,5)] rfl ?_
  refine L.move rfl rfl rfl trivial ?_
  refine L.quo rfl rfl rfl (by omega) (by omega) (by simp only [inK]; omega) rfl trivial ?_
  refine L.move rfl rfl rfl trivial ?_
  refine L.rem rfl rfl rfl (by omega) (by omega) (by simp only [inK]; omega) rfl trivial ?_
  refine L.assign rfl rfl rfl trivial ?_
  refine L.assign rfl rfl rfl trivial ?_
  refine L.nil ?_
  refine C.next ?_
  refine C.seq ?_
  refine C.seq ?_
  refine C.region [(false,0),(false,1),(false,2),(false,3)] rfl ?_
  refine L.move rfl rfl rfl trivial ?_
  refine L.loadB1 rfl Tf.a39 rfl (List.Mem.tail _ (List.Mem.head _)) rfl List.not_mem_nil rfl trivial ?_
  refine L.lenV rfl Try.underlying39 rfl rfl rfl trivial ?_
  refine L.eql rfl rfl rfl rfl trivial ?_
  refine L.nil ?_
  refine C.next ?_
  refine C.condD rfl (fun hc1 => ?_) (fun hc1 => ?_)
  · have hin : i = 3 * y.chairs.length := by omega
    subst hin
    have hleaf : c = pre := by rw [← hp, List.take_of_length_le (by omega)]
    rw [← hfl, List.drop_length] at hxs
    simp only [C1.allT, List.map_cons, List.map_nil, List.append_nil] at hxs
    rw [← hleaf, List.append_assoc, List.singleton_append] at hxs
    refine C.seq ?_
    refine C.region [(false,0),(false,1),(false,2),(false,3)] rfl ?_
    refine L.loadD1 rfl (k := 0) Tf.a153 rfl hB (by first | simp | assumption) rfl List.not_mem_nil rfl trivial ?_
    refine L.loadB1 rfl Tf.a39 rfl (List.Mem.tail _ (List.Mem.head _)) rfl List.not_mem_nil rfl trivial ?_
    refine L.yieldSB (l := l) (J1 := J (done ++ [c])) (J0 := Jx (done ++ [c])) rfl rfl rfl rfl (hs _) (hsx _) (fun D w hd hJ hb hl => hY done c _ D w bo ⟨rest, hxs⟩ hd hJ (fun b hbm => by obtain ⟨p, hp, rfl⟩ := List.mem_map.1 hbm; exact lt_of_some (hb p hp).1) (hl _ hDr) ⟨List.mem_map.2 ⟨_, mem_bo, rfl⟩, (hb _ mem_bo).2, _, _, (hb _ mem_bo).1⟩) rfl trivial (fun b1 J1 hJ1 => ?_)
    refine L.assign rfl rfl rfl trivial ?_
    refine L.nil ?_
    refine C.next ?_
    refine C.ret ?_
    refine C.thenRet ?_
    exact leaveJ (P := Try.prog) (fn := Try.f122) (N := 52) (vs := [_]) rfl rfl ⟨rfl, trivial⟩ (fun D h => ⟨D, h, Le.refl D⟩) ⟨b1, c, rfl, h9, hp, rfl, by cases b1 <;> simp only [hJ1, if_true, Bool.false_eq_true, if_false]; exact ⟨_, rfl⟩; rw [← hfl, List.drop_length]; simp [C1.allT, hleaf]⟩
  · have hin : i < (flatC y.chairs).length := by omega
    obtain ⟨p, hpi⟩ : ∃ p, (flatC y.chairs)[i]? = some p := ⟨_, List.getElem?_eq_getElem hin⟩
    obtain ⟨x, hx3, hm⟩ := flatC_get hpi
    have hx : y.chairs[((i : Int) / 3).toNat]? = some x := by rw [show ((i : Int) / 3).toNat = i / 3 by omega]; exact hx3
    have hd : (flatC y.chairs).drop i = p :: (flatC y.chairs).drop (i + 1) := by rw [List.drop_eq_getElem_cons hin]; congr 1; exact Option.some.inj ((List.getElem?_eq_getElem hin).symm.trans hpi)
    rw [hd, ← brC_two] at hxs
    refine C.skip ?_
    refine C.next ?_
    refine C.seq ?_
    refine C.seq ?_
    refine C.region [(false,0)] rfl ?_
    refine L.move rfl rfl rfl trivial ?_
    refine L.nil ?_
    refine C.next ?_
    refine C.block ?_
    refine C.loopJ (γ := Nat × List Int) (fun g => 2 - g.1) (fun g => g.1 ≤ 2 ∧ g.2.length = 3 * y.chairs.length ∧ g.2.take i = pre) (fun g => J (done ++ brC p ((flatC y.chairs).drop (i + 1)) pre g.1)) (fun g => [(22, .int .i64 (g.1 : Int))]) [(8, _), (7, _), (6, _), (0, _), (1, _), (3, _), (4, _)] (fun g => chooseMu bh bc bo bY br y.chairs.length g.2) (fun g => Ds) (0, c) ⟨by simp, h9, hp⟩ (by simp [brC_zero]) ⟨(by first | rfl | (show some (Value.int _ _) = some (Value.int _ _); congr 2; omega)), trivial⟩ ⟨rfl, rfl, rfl, rfl, rfl, rfl, rfl, trivial⟩ (List.Sublist.refl _) (ds_same) ?_
    rintro ⟨k, c1⟩ ⟨h11, h91, hp1⟩
    simp only at h11 h91 hp1
    refine C.seq ?_
    refine C.region [(false,0)] rfl ?_
    refine L.lss rfl rfl rfl rfl trivial ?_
    refine L.nil ?_
    refine C.next ?_
    refine C.seq ?_
    refine C.condD rfl (fun hc2 => ?_) (fun hc2 => ?_)
    · refine C.skip ?_
      refine C.next ?_
      refine C.seq ?_
      refine C.block ?_
      refine C.seq ?_
      refine C.region [(false,0),(false,1)] rfl ?_
      refine L.move rfl rfl rfl trivial ?_
      refine L.assign rfl rfl rfl trivial ?_
      refine L.nil ?_
      refine C.next ?_
      refine C.seq ?_
      refine C.region [(false,0),(false,1),(false,2),(false,3),(false,4),(false,5),(false,6),(false,7),(false,8)] rfl ?_
      refine L.fieldAddr rfl Tf.f37_0 rfl rfl trivial ?_
      refine L.loadD1 rfl (k := 0) Tf.a34 rfl hA (by first | simp | assumption) rfl List.not_mem_nil rfl trivial ?_
      refine L.move rfl rfl rfl trivial ?_
      refine L.move rfl rfl rfl trivial ?_
      refine L.indexS rfl Try.underlying34 Tf.s115 rfl hc rfl (by omega) hx rfl trivial (fun b1 o1 cs1 hr1 hcl1 hA1 => ?_)
      obtain rfl : cs1 = [.int .i64 _, .int .i64 _, .int .i64 _, .int .i64 _] := hr1
      refine L.fieldAddr rfl Tf.f115_1 rfl rfl trivial ?_
      refine L.indexA rfl Try.underlying113 Tf.s3 rfl rfl (by omega) (by omega) rfl trivial ?_
      refine L.loadD1 (o := _ + 1) (k := ((i : Int) % 3).toNat * 1) rfl Tf.a3 rfl hA1.tail (by first | assumption | simp) (by rw [show ((i : Int) % 3).toNat = i % 3 by omega]; exact pt_get hm) List.not_mem_nil rfl trivial ?_
      refine L.assign rfl rfl rfl trivial ?_
      refine L.nil ?_
      refine C.next ?_
      refine C.seq ?_
      refine C.region [(false,0),(false,1),(false,2),(false,3),(false,4),(false,5),(false,6)] rfl ?_
      refine L.move rfl rfl rfl trivial ?_
      refine L.eql rfl rfl rfl rfl trivial ?_
      refine L.move rfl rfl rfl trivial ?_
      refine' L.or [(false,3),(false,4),(false,5),(false,6)] [] (s := 35) (p := 39) rfl rfl (fun hg1 => ?_) (fun hg1 => ?_) ?_
      rotate_left
      · refine L.move rfl rfl rfl ⟨_, rfl, rfl⟩ ?_
        refine L.move rfl rfl rfl ⟨_, rfl, rfl⟩ ?_
        refine L.eql rfl rfl rfl rfl ⟨_, rfl, rfl⟩ ?_
        refine L.pickF rfl rfl rfl rfl trivial ?_
        exact L.nil fun a w hh => hh.cutK 3 rfl
      · refine L.pass rfl rfl rfl ⟨_, _, rfl, rfl, rfl⟩ ?_
        refine L.pass rfl rfl rfl ⟨_, _, rfl, rfl, rfl⟩ ?_
        refine L.pass rfl rfl rfl ⟨_, _, rfl, rfl, rfl⟩ ?_
        refine L.pickT rfl rfl rfl rfl trivial ?_
        exact L.nil fun a w hh => hh.cutK 3 rfl
      refine L.nil ?_
      refine C.next ?_
      refine C.cond rfl (fun hc3 => ?_) (fun hc3 => ?_)
      · have hpk : p = 2 ∨ p = (k : Int) := by simpa using hc3
        obtain ⟨rr, hr⟩ := brC_rest (p := p) (ps := (flatC y.chairs).drop (i + 1)) (pre := pre) (k := k) (by omega)
        refine C.seq ?_
        refine C.region [(false,0),(false,1),(false,2),(false,3),(false,4),(false,5),(false,6)] rfl ?_
        refine L.loadB1 rfl Tf.a39 rfl (List.Mem.tail _ (List.Mem.head _)) rfl List.not_mem_nil rfl trivial ?_
        refine L.move rfl rfl rfl trivial ?_
        refine L.move rfl rfl rfl trivial ?_
        refine L.move rfl rfl rfl trivial ?_
        refine L.indexP rfl Try.underlying39 Tf.s113 rfl rfl (by omega) (by omega) rfl trivial ?_
        refine L.indexA rfl Try.underlying113 Tf.s3 rfl rfl (by omega) (by omega) rfl trivial ?_
        refine L.storeF (k := i) rfl Tf.s3 (by show some (Value.pointer (some ⟨bo, 0 + ((i : Int) / 3).toNat * 3 + ((i : Int) % 3).toNat * 1, none⟩)) = _; rw [ptr_i]) rfl (.tail (.tail Has.head)) (by simp only; omega) trivial ?_
        refine L.nil ?_
        refine C.next ?_
        refine C.seq ?_
        refine C.region [(false,0),(false,1),(false,2),(false,3),(false,4)] rfl ?_
        refine L.loadB1 rfl Tf.a170 rfl (List.Mem.head _) rfl List.not_mem_nil rfl trivial ?_
        refine L.move rfl rfl rfl trivial ?_
        refine L.add rfl rfl rfl (by simp only [inK]; omega) rfl trivial ?_
        refine L.callJ rfl rfl rfl rfl (ih (j - 1) (by omega) (i + 1) (pre ++ [(k : Int)]) (c1.set i k) (done ++ brC p ((flatC y.chairs).drop (i + 1)) pre k) (rr ++ rest) (i + 1 : Int) (by omega) (by omega) (by simp; omega) (by simpa using h91) (set_take (by omega) hp1) (by rw [hxs, hr, brC_yes hpk]; simp)) rfl trivial ?_
        rintro _ J2 _ ⟨b2, c2, rfl, h9', hp', rfl, hJ2⟩
        refine L.not rfl rfl rfl trivial ?_
        refine L.nil ?_
        refine C.next ?_
        refine C.cond rfl (fun hc4 => ?_) (fun hc4 => ?_)
        · obtain rfl : b2 = false := by simpa using hc4
          refine C.seq ?_
          refine C.region [(false,0)] rfl ?_
          refine L.assign rfl rfl rfl trivial ?_
          refine L.nil ?_
          refine C.next ?_
          refine C.ret ?_
          refine C.blockRet ?_
          refine C.thenRet ?_
          refine C.thenRet ?_
          refine C.blockRet ?_
          refine C.thenRet ?_
          exact leaveJ (P := Try.prog) (fn := Try.f122) (N := 52) (vs := [_]) rfl rfl ⟨rfl, trivial⟩ (fun D h => ⟨D, h, Le.refl D⟩) ⟨false, c2, rfl, h9', take_pre hp' hl, rfl, by simpa using hJ2⟩
        · obtain rfl : b2 = true := by simpa using hc4
          refine C.skip ?_
          refine C.blockEnd ?_
          refine C.next ?_
          refine C.region [(false,0),(false,1)] rfl ?_
          refine L.add rfl rfl rfl (by simp only [inK]; omega) rfl trivial ?_
          refine L.move rfl rfl rfl trivial ?_
          refine L.nil ?_
          exact C.againJ 30 (k + 1, c2) ⟨by simp only; omega, h9', take_pre hp' hl⟩ (by simp only; omega) (by simpa only [if_true, brC_yes hpk, List.append_assoc] using hJ2) ⟨(by first | rfl | (show some (Value.int _ _) = some (Value.int _ _); congr 2; omega)), trivial⟩ rfl rfl (List.Sublist.refl _) (ds_same)
      · have hpk : ¬ (p = 2 ∨ p = (k : Int)) := by simpa using hc3
        refine C.skip ?_
        refine C.blockEnd ?_
        refine C.next ?_
        refine C.region [(false,0),(false,1)] rfl ?_
        refine L.add rfl rfl rfl (by simp only [inK]; omega) rfl trivial ?_
        refine L.move rfl rfl rfl trivial ?_
        refine L.nil ?_
        exact C.againJ 19 (k + 1, c1) ⟨by simp only; omega, h91, hp1⟩ (by simp only; omega) (by rw [brC_no hpk]) ⟨(by first | rfl | (show some (Value.int _ _) = some (Value.int _ _); congr 2; omega)), trivial⟩ rfl rfl (List.Sublist.refl _) (ds_same)
    · refine C.exit ?_
      refine C.thenExit ?_
      refine C.thenExit ?_
      refine C.blockExit ?_
      refine C.next ?_
      refine C.seq ?_
      refine C.region [(false,0)] rfl ?_
      refine L.assign rfl rfl rfl trivial ?_
      refine L.nil ?_
      refine C.next ?_
      refine C.ret ?_
      exact leaveJ (P := Try.prog) (fn := Try.f122) (N := 52) (vs := [_]) rfl rfl ⟨rfl, trivial⟩ (fun D h => ⟨D, h, Le.refl D⟩) ⟨true, c1, rfl, h91, hp1, rfl, by simp only [if_true]; rw [hd, ← brC_two, show k = 2 by omega]⟩
theorem truths1_ok (y : YardD) (Dr : Data) (br : Nat) (cv qv : Value) (hn7 : y.chairs.length ≤ 7) (hA : At Dr br 0 [cv, .int .i64 y.fit, qv]) (hc : Sl Dr RCh 4 cv y.chairs) :
    IterS Try.prog 121 [.pointer (some ⟨br, 0, none⟩)] Dr (C1.allT (flatC y.chairs)) (encS y.chairs.length) ints := by
  refine enterIterS 12 Try.func121 rfl rfl rfl rfl (fun lo l J Jx hs hsx hY => ?_)
  refine C.seq ?_
  refine C.region [(false,0)] rfl ?_
  refine L.boxD rfl rfl rfl rfl trivial (fun q1 E1 hE1 hB1 => ?_)
  refine L.nil ?_
  refine C.next ?_
  refine C.seq ?_
  refine C.region [(false,0),(false,1),(false,2),(false,3),(false,4),(false,5)] rfl ?_
  refine L.fieldAddr rfl Tf.f37_0 rfl rfl trivial ?_
  refine L.loadD1 rfl (k := 0) Tf.a34 rfl hA (by first | simp | assumption) rfl List.not_mem_nil rfl trivial ?_
  refine L.len rfl Try.underlying34 rfl hc rfl rfl trivial ?_
  refine L.makeSliceO rfl Try.underlying39 Tf.s113 Tf.z113 rfl Tf.i113 rfl rfl (by omega) (zero_cells (by simp) rfl) rfl trivial (fun bo => ?_)
  refine L.alloc rfl Tf.z39 rfl rfl trivial (fun q2 => ?_)
  refine L.store rfl rfl rfl rfl Tf.s39 (Has.head) (by simp) rfl (by simp [cell1]) trivial ?_
  refine L.nil ?_
  refine C.next ?_
  refine C.seq ?_
  refine C.region [(false,0)] rfl ?_
  refine L.alloc rfl Tf.z170 rfl rfl trivial (fun q3 => ?_)
  refine L.nil ?_
  refine C.next ?_
  refine C.seq ?_
  refine C.region [(false,0),(false,1)] rfl ?_
  refine L.makeFunc rfl rfl rfl rfl trivial ?_
  refine L.store rfl rfl rfl rfl Tf.s170 (Has.head) (by simp) rfl (by simp [cell1]) trivial ?_
  refine L.nil ?_
  refine C.next ?_
  refine C.region [(false,0),(false,1)] rfl ?_
  refine L.loadB1 rfl Tf.a170 rfl (List.Mem.head _) rfl List.not_mem_nil rfl trivial ?_
  refine L.callJ rfl rfl rfl rfl (choose_ok (l := l) hn7 hs hsx hY (by simp) (by simp) hA hc hB1 (3 * y.chairs.length) 0 [] (List.replicate (y.chairs.length * 3) 0) [] [] 0 rfl (by omega) rfl (by simp; omega) rfl (by simp)) rfl trivial ?_
  rintro _ J2 _ ⟨b2, c2, rfl, h9', hp', rfl, hJ2⟩
  refine L.nil ?_
  exact leaveJ (P := Try.prog) (fn := Try.f121) (N := 12) (vs := []) rfl rfl trivial (fun D h => ⟨D, by simp only [List.mem_singleton] at h; subst h; simp, Le.refl D⟩) (by cases b2 <;> simp at hJ2; exact Or.inr hJ2; exact Or.inl hJ2)
theorem truths_ok (yv : Value) (y : YardD) (D : Data) (hy : YardIs D yv y) (hn7 : y.chairs.length ≤ 7) :
    Fn Try.prog 112 #[yv] D (fun D' v => ∃ br, v = .func (.func 121) #[] #[.pointer (some ⟨br, 0, none⟩)] ∧ IterS Try.prog 121 [.pointer (some ⟨br, 0, none⟩)] D' (C1.allT (flatC y.chairs)) (encS y.chairs.length) ints) := by
  obtain ⟨cv, qv, rfl, hc, hq⟩ := hy
  refine enter 4 Try.func112 rfl rfl rfl rfl fun h0 => ?_
  refine C.seq ?_
  refine C.region [(false,0),(false,1)] rfl ?_
  refine L.boxD rfl rfl rfl rfl trivial (fun q1 E1 hE1 hB1 => ?_)
  refine L.assign rfl rfl rfl trivial ?_
  refine L.nil ?_
  refine C.next ?_
  refine C.seq ?_
  refine C.region [(false,0),(false,1)] rfl ?_
  refine L.makeFunc rfl rfl rfl rfl trivial ?_
  refine L.assign rfl rfl rfl trivial ?_
  refine L.nil ?_
  refine C.next ?_
  refine C.ret ?_
  exact leave (vs := [_]) rfl rfl rfl ⟨rfl, trivial⟩ (fun D hD => ⟨_, rfl, truths1_ok y _ q1 cv qv hn7 (hB1.up (hD _ (by simp))) (hc.up RCh.up (hD _ (by simp)))⟩)
end Go.Fs
