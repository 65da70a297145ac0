/- Walks: the iterator over all truths of the places. -/
import Derived.Test.YtgnnlghoadfffaaW2
namespace Go.Fs
open Go.Proofs
open C1

/-- The blocks of 'c' and of 'choose'. -/
def chooseMu (br bY bc bh : Nat) (c : List Int) : Boxes := [(bh, .cells [.func (.func 93) #[] #[.pointer (some ⟨br, 0, none⟩), .pointer (some ⟨bY, 0, none⟩), .pointer (some ⟨bc, 0, none⟩), .pointer (some ⟨bh, 0, none⟩)]].toArray 135 (0, 0)), (bc, .cells (ints c).toArray 121 (0, 0))]
theorem take_pre {c pre : List Int} {i : Nat} {k : Int} (h : c.take (i + 1) = pre ++ [k]) (hl : pre.length = i) : c.take i = pre := by
  have := congrArg (List.take i) h
  rw [List.take_take, Nat.min_eq_left (Nat.le_succ i)] at this
  rw [this, List.take_append_of_le_length (by omega), List.take_of_length_le (by omega)]
def encT (x : List Int) : List Value := [.agg (ints x).toArray]
def YieldsT (P : Program) (Dr : Data) (lo l : Nat) (J Jx : List (List Int) → Inv) (xs : List (List Int)) : Prop := ∀ pre x β D w, (∃ r, xs = pre ++ x :: r) → Dom lo D w → J pre β D w → (∀ b ∈ β, b < w.heap.size) → Le Dr D →
        YieldRuns P l (encT x) w fun b D' w' => Dom lo D' w' ∧ High β D w D' w' ∧ (if b then J (pre ++ [x]) β D' w' else Jx (pre ++ [x]) β D' w')
def chooseR (J Jx : List (List Int) → Inv) (br bY bc bh : Nat) (places : List Int) (pre : List Int) (i : Nat) (done : List (List Int)) (v : Value) (J' : Inv) (μ' : Boxes) : Prop :=
  ∃ b c', v = .bool b ∧ c'.length = 9 ∧ c'.take i = pre ∧ c'.drop places.length = List.replicate (9 - places.length) 0 ∧ μ' = chooseMu br bY bc bh c' ∧ (if b = true then J' = J (done ++ (allT (places.drop i)).map fun t => pad9 (pre ++ t)) else ∃ p, J' = Jx p)
theorem choose_ok {lo l : Nat} {J Jx : List (List Int) → Inv} {places : List Int} {xs : List (List Int)} {Dr Dy : Data} {Ds : List Data} {br bY bc bh : Nat} {pv cv : Value} {w1 w2 : Int} (hn9 : places.length ≤ 9)
    (hs : ∀ pre, Stb lo (J pre)) (hsx : ∀ pre, Stb lo (Jx pre)) (hY : YieldsT Try.prog Dr lo l J Jx xs) (hDr : Dr ∈ Ds) (hDy : Dy ∈ Ds) (hA : At Dr br 0 [pv, cv, .int .i64 w1, .int .i64 w2]) (hpl : Sl Dr RI 1 pv places) (hB : At Dy bY 0 [.func (.yield l) #[] #[]]) :
    ∀ (j i : Nat) (pre c : List Int) (done rest : List (List Int)) (iv : Int), iv = i → i + j = places.length → pre.length = i → c.length = 9 → c.take i = pre → c.drop places.length = List.replicate (9 - places.length) 0 →
      xs = done ++ (allT (places.drop i)).map (fun t => pad9 (pre ++ t)) ++ rest →
      FnJ Try.prog 93 [.int .i64 iv, .pointer (some ⟨br, 0, none⟩), .pointer (some ⟨bY, 0, none⟩), .pointer (some ⟨bc, 0, none⟩), .pointer (some ⟨bh, 0, none⟩)] lo (J done) (chooseMu br bY bc bh c) Ds (chooseR J Jx br bY bc bh places pre i done) := by
  intro j
  induction j using Nat.strongRecOn with
  | _ j ih =>
  intro i pre c done rest iv hiv hij hl h9 hp hz hxs
  subst hiv
  have hmx := hpl.len
  refine enterJ (μ := chooseMu br bY bc bh c) 41 Try.func93 rfl rfl rfl rfl ?_
  refine C.seq ?_
  refine C.region [(false,0)] rfl ?_
  refine L.assign rfl rfl rfl trivial ?_
  refine L.nil ?_
  refine C.next ?_
  refine C.seq ?_
  refine C.seq ?_
  refine C.region [(false,0),(false,1),(false,2),(false,3),(false,4)] rfl ?_
  refine L.move rfl rfl rfl trivial ?_
  refine L.fieldAddr rfl Tf.f35_0 rfl rfl trivial ?_
  refine L.loadD1 rfl (k := 0) Tf.a22 rfl hA (by first | simp | assumption) rfl List.not_mem_nil rfl trivial ?_
  refine L.len rfl Try.underlying22 rfl (by assumption) rfl rfl trivial ?_
  refine L.eql rfl rfl rfl rfl trivial ?_
  refine L.nil ?_
  refine C.next ?_
  refine C.condD rfl (fun hc1 => ?_) (fun hc1 => ?_)
  · have hin : i = places.length := by omega
    subst hin
    have hleaf := (choose_leaf h9 hp hl hz).symm
    rw [List.drop_length] at hxs
    simp only [allT, List.map_cons, List.map_nil, List.append_nil] at hxs
    rw [hleaf, List.append_assoc, List.singleton_append] at hxs
    refine C.seq ?_
    refine C.region [(false,0),(false,1),(false,2),(false,3)] rfl ?_
    refine L.loadD1 rfl (k := 0) Tf.a141 rfl hB (by first | simp | assumption) rfl List.not_mem_nil rfl trivial ?_
    refine L.loadBW rfl Tf.a121 rfl (List.Mem.tail _ (List.Mem.head _)) (by first | exact Tf.s121 | (simp only [ints_length, *]; exact Tf.s121)) List.not_mem_nil rfl trivial ?_
    refine L.yieldB (l := l) (J1 := J (done ++ [c])) (J0 := Jx (done ++ [c])) rfl rfl rfl rfl (hs _) (hsx _) (fun D w hd hJ hb hl => hY done c _ D w ⟨rest, hxs⟩ hd hJ (fun b hbm => by obtain ⟨p, hp, rfl⟩ := List.mem_map.1 hbm; exact hb p hp) (hl _ hDr)) rfl trivial (fun b1 J1 hJ1 => ?_)
    refine L.assign rfl rfl rfl trivial ?_
    refine L.nil ?_
    refine C.next ?_
    refine C.ret ?_
    refine C.thenRet ?_
    exact leaveJ (P := Try.prog) (fn := Try.f93) (N := 41) (vs := [_]) rfl rfl ⟨rfl, trivial⟩ (fun D h => ⟨D, h, Le.refl D⟩) ⟨b1, c, rfl, h9, hp, hz, rfl, by cases b1 <;> simp only [hJ1, if_true, Bool.false_eq_true, if_false]; exact ⟨_, rfl⟩; simp [allT, hleaf]⟩
  · have hin : i < places.length := by omega
    obtain ⟨p, hpi⟩ : ∃ p, places[i]? = some p := ⟨_, List.getElem?_eq_getElem hin⟩
    have hd : places.drop i = p :: places.drop (i + 1) := by rw [List.drop_eq_getElem_cons hin]; congr 1; exact Option.some.inj ((List.getElem?_eq_getElem hin).symm.trans hpi)
    rw [hd, ← brs_two] at hxs
    refine C.skip ?_
    refine C.next ?_
    refine C.seq ?_
    refine C.seq ?_
    refine C.region [(false,0)] rfl ?_
    refine L.move rfl rfl rfl trivial ?_
    refine L.nil ?_
    refine C.next ?_
    refine C.block ?_
    refine C.loopJ (γ := Nat × List Int) (fun g => 2 - g.1) (fun g => g.1 ≤ 2 ∧ g.2.length = 9 ∧ g.2.take i = pre ∧ g.2.drop places.length = List.replicate (9 - places.length) 0) (fun g => J (done ++ brs p (places.drop (i + 1)) pre g.1)) (fun g => [(17, .int .i64 (g.1 : Int))]) [(6, _), (0, _), (1, _), (3, _), (4, _)] (fun g => chooseMu br bY bc bh g.2) (fun g => Ds) (0, c) ⟨by simp, h9, hp, hz⟩ (by simp [brs_zero]) ⟨(by first | rfl | (show some (Value.int _ _) = some (Value.int _ _); congr 2; omega)), trivial⟩ ⟨rfl, rfl, rfl, rfl, rfl, trivial⟩ (List.Sublist.refl _) (ds_same) ?_
    rintro ⟨k, c1⟩ ⟨h11, h91, hp1, hz1⟩
    refine C.seq ?_
    refine C.region [(false,0)] rfl ?_
    refine L.lss rfl rfl rfl rfl trivial ?_
    refine L.nil ?_
    refine C.next ?_
    refine C.seq ?_
    refine C.condD rfl (fun hc2 => ?_) (fun hc2 => ?_)
    · refine C.skip ?_
      refine C.next ?_
      refine C.seq ?_
      refine C.block ?_
      refine C.seq ?_
      refine C.region [(false,0),(false,1)] rfl ?_
      refine L.move rfl rfl rfl trivial ?_
      refine L.assign rfl rfl rfl trivial ?_
      refine L.nil ?_
      refine C.next ?_
      refine C.seq ?_
      refine C.region [(false,0),(false,1),(false,2),(false,3),(false,4),(false,5)] rfl ?_
      refine L.fieldAddr rfl Tf.f35_0 rfl rfl trivial ?_
      refine L.loadD1 rfl (k := 0) Tf.a22 rfl hA (by first | simp | assumption) rfl List.not_mem_nil rfl trivial ?_
      refine L.move rfl rfl rfl trivial ?_
      refine L.indexS rfl Try.underlying22 Tf.s3 rfl hpl rfl (by omega) hpi rfl trivial (fun b1 o1 cs1 hr1 hcl1 hA1 => ?_)
      obtain rfl : cs1 = [.int .i64 _] := hr1
      refine L.loadD1 rfl (k := 0) Tf.a3 rfl hA1 (by first | simp | assumption) rfl List.not_mem_nil rfl trivial ?_
      refine L.assign rfl rfl rfl trivial ?_
      refine L.nil ?_
      refine C.next ?_
      refine C.seq ?_
      refine C.region [(false,0),(false,1),(false,2),(false,3),(false,4),(false,5),(false,6)] rfl ?_
      refine L.move rfl rfl rfl trivial ?_
      refine L.eql rfl rfl rfl rfl trivial ?_
      refine L.move rfl rfl rfl trivial ?_
      refine' L.or [(false,3),(false,4),(false,5),(false,6)] [] (s := 27) (p := 31) rfl rfl (fun hg1 => ?_) (fun hg1 => ?_) ?_
      rotate_left
      · refine L.move rfl rfl rfl ⟨_, rfl, rfl⟩ ?_
        refine L.move rfl rfl rfl ⟨_, rfl, rfl⟩ ?_
        refine L.eql rfl rfl rfl rfl ⟨_, rfl, rfl⟩ ?_
        refine L.pickF rfl rfl rfl rfl trivial ?_
        exact L.nil fun a w hh => hh.cutK 3 rfl
      · refine L.pass rfl rfl rfl ⟨_, _, rfl, rfl, rfl⟩ ?_
        refine L.pass rfl rfl rfl ⟨_, _, rfl, rfl, rfl⟩ ?_
        refine L.pass rfl rfl rfl ⟨_, _, rfl, rfl, rfl⟩ ?_
        refine L.pickT rfl rfl rfl rfl trivial ?_
        exact L.nil fun a w hh => hh.cutK 3 rfl
      refine L.nil ?_
      refine C.next ?_
      refine C.cond rfl (fun hc3 => ?_) (fun hc3 => ?_)
      · have hpk : p = 2 ∨ p = (k : Int) := by simpa using hc3
        obtain ⟨rr, hr⟩ := brs_rest (p := p) (ps := places.drop (i + 1)) (pre := pre) (k := k) (by omega)
        have hset := choose_set (k := (k : Int)) h91 hin hn9 hp1 hz1
        refine C.seq ?_
        refine C.region [(false,0),(false,1),(false,2),(false,3)] rfl ?_
        refine L.move rfl rfl rfl trivial ?_
        refine L.move rfl rfl rfl trivial ?_
        refine L.indexB rfl Try.underlying121 Tf.s3 rfl rfl (by omega) (by omega) rfl trivial ?_
        refine L.storeI rfl Tf.s3 rfl rfl (.tail (Has.head)) (by simp only [*]; omega) trivial ?_
        refine L.nil ?_
        refine C.next ?_
        refine C.seq ?_
        refine C.region [(false,0),(false,1),(false,2),(false,3),(false,4)] rfl ?_
        refine L.loadB1 rfl Tf.a135 rfl (List.Mem.head _) rfl List.not_mem_nil rfl trivial ?_
        refine L.move rfl rfl rfl trivial ?_
        refine L.add rfl rfl rfl (by simp only [inK]; omega) rfl trivial ?_
        refine L.callJ rfl rfl rfl rfl (ih (j - 1) (by omega) (i + 1) (pre ++ [(k : Int)]) (c1.set i k) (done ++ brs p (places.drop (i + 1)) pre k) (rr ++ rest) (i + 1 : Int) (by omega) (by omega) (by simp; omega) hset.1 hset.2.1 hset.2.2 (by rw [hxs, hr, brs_yes hpk]; simp)) rfl trivial ?_
        rintro _ J2 _ ⟨b2, c2, rfl, h9', hp', hz', rfl, hJ2⟩
        refine L.not rfl rfl rfl trivial ?_
        refine L.nil ?_
        refine C.next ?_
        refine C.cond rfl (fun hc4 => ?_) (fun hc4 => ?_)
        · obtain rfl : b2 = false := by simpa using hc4
          refine C.seq ?_
          refine C.region [(false,0)] rfl ?_
          refine L.assign rfl rfl rfl trivial ?_
          refine L.nil ?_
          refine C.next ?_
          refine C.ret ?_
          refine C.blockRet ?_
          refine C.thenRet ?_
          refine C.thenRet ?_
          refine C.blockRet ?_
          refine C.thenRet ?_
          exact leaveJ (P := Try.prog) (fn := Try.f93) (N := 41) (vs := [_]) rfl rfl ⟨rfl, trivial⟩ (fun D h => ⟨D, h, Le.refl D⟩) ⟨false, c2, rfl, h9', take_pre hp' hl, hz', rfl, by simpa using hJ2⟩
        · obtain rfl : b2 = true := by simpa using hc4
          refine C.skip ?_
          refine C.blockEnd ?_
          refine C.next ?_
          refine C.region [(false,0),(false,1)] rfl ?_
          refine L.add rfl rfl rfl (by simp only [inK]; omega) rfl trivial ?_
          refine L.move rfl rfl rfl trivial ?_
          refine L.nil ?_
          exact C.againJ 24 (k + 1, c2) ⟨by simp only; omega, h9', take_pre hp' hl, hz'⟩ (by simp only; omega) (by simpa only [if_true, brs_yes hpk, List.append_assoc] using hJ2) ⟨(by first | rfl | (show some (Value.int _ _) = some (Value.int _ _); congr 2; omega)), trivial⟩ rfl rfl (List.Sublist.refl _) (ds_same)
      · have hpk : ¬ (p = 2 ∨ p = (k : Int)) := by simpa using hc3
        refine C.skip ?_
        refine C.blockEnd ?_
        refine C.next ?_
        refine C.region [(false,0),(false,1)] rfl ?_
        refine L.add rfl rfl rfl (by simp only [inK]; omega) rfl trivial ?_
        refine L.move rfl rfl rfl trivial ?_
        refine L.nil ?_
        exact C.againJ 16 (k + 1, c1) ⟨by simp only; omega, h91, hp1, hz1⟩ (by simp only; omega) (by rw [brs_no hpk]) ⟨(by first | rfl | (show some (Value.int _ _) = some (Value.int _ _); congr 2; omega)), trivial⟩ rfl rfl (List.Sublist.refl _) (ds_same)
    · refine C.exit ?_
      refine C.thenExit ?_
      refine C.thenExit ?_
      refine C.blockExit ?_
      refine C.next ?_
      refine C.seq ?_
      refine C.region [(false,0)] rfl ?_
      refine L.assign rfl rfl rfl trivial ?_
      refine L.nil ?_
      refine C.next ?_
      refine C.ret ?_
      exact leaveJ (P := Try.prog) (fn := Try.f93) (N := 41) (vs := [_]) rfl rfl ⟨rfl, trivial⟩ (fun D h => ⟨D, h, Le.refl D⟩) ⟨true, c1, rfl, h91, hp1, hz1, rfl, by simp only [if_true]; rw [hd, ← brs_two, show k = 2 by omega]⟩
theorem rows1_ok (places : List Int) (Dr : Data) (br : Nat) (pv cv : Value) (w1 w2 : Int) (hn9 : places.length ≤ 9) (hA : At Dr br 0 [pv, cv, .int .i64 w1, .int .i64 w2]) (hpl : Sl Dr RI 1 pv places) :
    IterOK Try.prog 92 [.pointer (some ⟨br, 0, none⟩)] Dr ((allT places).map pad9) encT := by
  refine enterIter 8 Try.func92 rfl rfl rfl rfl (fun lo l J Jx hs hsx hY => ?_)
  refine C.seq ?_
  refine C.region [(false,0)] rfl ?_
  refine L.boxD rfl rfl rfl rfl trivial (fun q1 E1 hE1 hB1 => ?_)
  refine L.nil ?_
  refine C.next ?_
  refine C.seq ?_
  refine C.region [(false,0)] rfl ?_
  refine L.alloc rfl Tf.z121 rfl rfl trivial (fun q2 => ?_)
  refine L.nil ?_
  refine C.next ?_
  refine C.seq ?_
  refine C.region [(false,0)] rfl ?_
  refine L.alloc rfl Tf.z135 rfl rfl trivial (fun q3 => ?_)
  refine L.nil ?_
  refine C.next ?_
  refine C.seq ?_
  refine C.region [(false,0),(false,1)] rfl ?_
  refine L.makeFunc rfl rfl rfl rfl trivial ?_
  refine L.store rfl rfl rfl rfl Tf.s135 (Has.head) (by simp) rfl (by simp [cell1]) trivial ?_
  refine L.nil ?_
  refine C.next ?_
  refine C.region [(false,0),(false,1)] rfl ?_
  refine L.loadB1 rfl Tf.a135 rfl (List.Mem.head _) rfl List.not_mem_nil rfl trivial ?_
  refine L.callJ rfl rfl rfl rfl (choose_ok (l := l) (by omega) hs hsx hY (by simp) (by simp) hA hpl hB1 places.length 0 [] (List.replicate 9 0) [] [] 0 rfl (by omega) rfl rfl rfl (List.drop_replicate ..) (by simp)) rfl trivial ?_
  rintro _ J2 _ ⟨b2, c2, rfl, h9', hp', hz', rfl, hJ2⟩
  refine L.nil ?_
  exact leaveJ (P := Try.prog) (fn := Try.f92) (N := 8) (vs := []) rfl rfl trivial (fun D h => ⟨D, by simp only [List.mem_singleton] at h; subst h; simp, Le.refl D⟩) (by cases b2 <;> simp at hJ2; exact Or.inr hJ2; exact Or.inl hJ2)
theorem rows_ok (rv : Value) (r : RowD) (D : Data) (hr : RowIs D rv r) (hn9 : r.places.length ≤ 9) :
    Fn Try.prog 76 #[rv] D (fun D' v => ∃ br, v = .func (.func 92) #[] #[.pointer (some ⟨br, 0, none⟩)] ∧ IterOK Try.prog 92 [.pointer (some ⟨br, 0, none⟩)] D' ((allT r.places).map pad9) encT) := by
  obtain ⟨pv, cv, rfl, hp, hc⟩ := hr
  refine enter 4 Try.func76 rfl rfl rfl rfl fun h0 => ?_
  refine C.seq ?_
  refine C.region [(false,0),(false,1)] rfl ?_
  refine L.boxD rfl rfl rfl rfl trivial (fun q1 E1 hE1 hB1 => ?_)
  refine L.assign rfl rfl rfl trivial ?_
  refine L.nil ?_
  refine C.next ?_
  refine C.seq ?_
  refine C.region [(false,0),(false,1)] rfl ?_
  refine L.makeFunc rfl rfl rfl rfl trivial ?_
  refine L.assign rfl rfl rfl trivial ?_
  refine L.nil ?_
  refine C.next ?_
  refine C.ret ?_
  exact leave (vs := [_]) rfl rfl rfl ⟨rfl, trivial⟩ (fun D hD => ⟨_, rfl, rows1_ok r.places _ q1 pv cv r.wrong r.off hn9 (hB1.up (hD _ (by simp))) (hp.up RI.up (hD _ (by simp)))⟩)
end Go.Fs
