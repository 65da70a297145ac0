/- Walks: the law CountLooked. -/
import Derived.Test.YtgnnlghoadfffaaW24
namespace Go.Fs
open Go.Proofs
open C1
theorem look_ex {r : RowD} (hok : RowOk r) (hz : askErr r true = 0) (_ : (truths r).length ≤ 512) : ∃ p : Nat, p < r.places.length ∧ (if askErr r true = 0 then (lookK (truths r) ((truths r).length + 1) r.places.length).1 else 0) = (p : Int) ∧
    (if askErr r true = 0 then (lookK (truths r) ((truths r).length + 1) r.places.length).2 else 0) = max ((seenT (truths r) p 0).length : Int) ((seenT (truths r) p 1).length : Int) := by
  obtain ⟨h1, h2, h3⟩ := look_place (ts := truths r) (a := ((truths r).length : Int) + 1) (by omega) r.places.length hok.len0
  rw [if_pos hz, if_pos hz]
  exact ⟨(lookK (truths r) ((truths r).length + 1) r.places.length).1.toNat, by omega, by omega, by rw [h3]; omega⟩
theorem cl_n {r : RowD} {i j : Nat} (hask : askErr r (partOk r i j) = askErr r true) (hz : askErr r true = 0) : (if askErr r (partOk r (i : Int) (j : Int)) = 0 then needN r.places.length (i : Int).toNat (j : Int).toNat (truths r) else 0) = needN r.places.length i j (truths r) := by
  rw [if_pos (hask.trans hz)]; simp
theorem cl_four {r : RowD} {i j : Nat} (hask : askErr r (partOk r i j) = askErr r true) (hz : askErr r true = 0) (hcap : (truths r).length ≤ 512) :
    (((decide (askErr r (partOk r (i : Int) (j : Int)) ≠ 0) || decide (askErr r (partOk r (i : Int) (j : Int)) ≠ 0)) || (!(decide ((chV r i j).1 = (chV r i j).2) == decide (needN r.places.length i j (truths r) = 0)))) || decide (needN r.places.length i j (truths r) < 0)) = false := by
  have h0 := needN_nonneg r.places.length i j (truths r)
  have h1 := needN_zero (n := r.places.length) (i := i) (j := j) (ts := truths r) (by omega)
  rw [hask, hz, ch_in hask hz]
  have : ¬ needN r.places.length i j (truths r) < 0 := by omega
  by_cases h : loOf (truths r) i j = hiOf (truths r) i j
  · simp [h, h1.2 h]
  · have : needN r.places.length i j (truths r) ≠ 0 := fun e => h (h1.1 e)
    simp [h, this]; omega
def mostV (r : RowD) (k i j : Nat) : Nat → Int
  | 0 => -1
  | m + 1 => if seenT (truths r) k (m : Int) = [] then mostV r k i j m else max (mostV r k i j m) (needN r.places.length i j (truths (lookD r k (m : Int))))
theorem most_no {r : RowD} {k i j m : Nat} (h : seenT (truths r) k (m : Int) = []) : mostV r k i j (m + 1) = mostV r k i j m := by
  rw [mostV, if_pos h]
theorem most_yes {r : RowD} {k i j m : Nat} (h : seenT (truths r) k (m : Int) ≠ []) : mostV r k i j (m + 1) = max (mostV r k i j m) (needN r.places.length i j (truths (lookD r k (m : Int)))) := by
  rw [mostV, if_neg h]
theorem looked_ok2 {r : RowD} (hok : RowOk r) {k m : Nat} (_hk : k < r.places.length) (hm : m = 0 ∨ m = 1) : RowOk (lookD r k (m : Int)) :=
  ⟨by simpa [lookD] using hok.len0, by simpa [lookD] using hok.len9, hok.cnt6, hok.wrong, hok.off, fun p hp => by
    simp only [lookD] at hp
    rcases List.mem_or_eq_of_mem_set hp with h | h
    · exact hok.place p h
    · omega, fun c hc => by simpa [lookD] using hok.cnt c hc⟩
theorem mem_looked {r : RowD} {k m : Nat} (hk : k < r.places.length) (hne : seenT (truths r) k (m : Int) ≠ []) {t : List Int} : t ∈ truths (lookD r k (m : Int)) ↔ t ∈ seenT (truths r) k (m : Int) := by
  obtain ⟨t0, l0, e0⟩ := List.exists_cons_of_ne_nil hne
  have m0 : t0 ∈ seenT (truths r) k (m : Int) := by rw [e0]; exact List.mem_cons_self
  rw [mem_seenT, mem_truths] at m0
  obtain ⟨⟨a0, _⟩, g0⟩ := m0
  have fitsE : fits (lookD r k (m : Int)) t = fits r t := rfl
  rw [mem_seenT, mem_truths, mem_truths, fitsE]
  have key : t ∈ allT (lookD r k (m : Int)).places ↔ t ∈ allT r.places ∧ t.getD k 0 = (m : Int) := by
    have hr := List.getElem?_eq_getElem hk
    have p0 : ((m : Int) = 0 ∨ (m : Int) = 1) ∧ (r.places[k] = 2 ∨ r.places[k] = (m : Int)) := by
      obtain ⟨h1, h2⟩ := mem_allT.1 a0
      have h3 : t0[k]? = some (m : Int) := by
        rw [List.getD_eq_getElem?_getD, List.getElem?_eq_getElem (by omega)] at g0
        rw [List.getElem?_eq_getElem (by omega), ← g0]; rfl
      exact h2 k _ _ h3 hr
    rw [mem_allT, mem_allT]
    simp only [lookD, List.length_set]
    constructor
    · rintro ⟨h1, h2⟩
      have hs : (r.places.set k (m : Int))[k]? = some (m : Int) := by rw [List.getElem?_set_self hk]
      have hkl : k < t.length := by omega
      have ht := List.getElem?_eq_getElem hkl
      have hkt := h2 k _ _ ht hs
      have e : t.getD k 0 = (m : Int) := by
        rw [List.getD_eq_getElem?_getD, ht]
        have h01 := p0.1
        have h2' := hkt.2
        show t[k]'hkl = (m : Int)
        rcases h2' with h | h
        · omega
        · exact h.symm
      refine ⟨⟨h1, fun q x p hx hp => ?_⟩, e⟩
      by_cases hq : k = q
      · subst hq
        rw [hr] at hp; cases hp
        have hx' := hx
        rw [ht] at hx; cases hx
        rw [List.getD_eq_getElem?_getD, ht] at e
        simp only [Option.getD_some] at e
        exact ⟨hkt.1, by omega⟩
      · exact h2 q x p hx (by rw [List.getElem?_set_ne hq]; exact hp)
    · rintro ⟨⟨h1, h2⟩, e⟩
      refine ⟨h1, fun q x p hx hp => ?_⟩
      by_cases hq : k = q
      · subst hq
        rw [List.getElem?_set_self hk] at hp; cases hp
        have := h2 k x _ hx hr
        rw [List.getD_eq_getElem?_getD, hx] at e
        simp only [Option.getD_some] at e
        exact ⟨this.1, Or.inr e.symm⟩
      · rw [List.getElem?_set_ne hq] at hp
        exact h2 q x p hx hp
  rw [key]
  constructor
  · rintro ⟨⟨h1, h2⟩, h3⟩; exact ⟨⟨h1, h3⟩, h2⟩
  · rintro ⟨⟨h1, h3⟩, h2⟩; exact ⟨⟨h1, h2⟩, h3⟩
theorem look_x {r : RowD} {i j k m : Nat} (hok : RowOk r) (hk : k < r.places.length) (hm : m = 0 ∨ m = 1) (hne : seenT (truths r) k (m : Int) ≠ []) (hij : i ≤ j) (hj : j < r.places.length) (hcap : (truths r).length ≤ 512) :
    askErr (lookD r k (m : Int)) (partOk (lookD r k (m : Int)) (i : Int) (j : Int)) = 0 ∧
    (if (0 : Int) = 0 then needN (lookD r k (m : Int)).places.length (i : Int).toNat (j : Int).toNat (truths (lookD r k (m : Int))) else 0) = needN r.places.length i j (truths (lookD r k (m : Int))) ∧
    needN r.places.length i j (truths (lookD r k (m : Int))) ≤ needN r.places.length i j (truths r) := by
  have hx := looked_ok2 hok hk hm
  have hlx : (lookD r k (m : Int)).places.length = r.places.length := by simp [lookD]
  have hnx : truths (lookD r k (m : Int)) ≠ [] := by
    obtain ⟨t0, l0, e0⟩ := List.exists_cons_of_ne_nil hne
    intro e
    have : t0 ∈ truths (lookD r k (m : Int)) := (mem_looked hk hne).2 (by rw [e0]; exact List.mem_cons_self)
    rw [e] at this; cases this
  have hzx : askErr (lookD r k (m : Int)) true = 0 := by
    by_cases hz : askErr (lookD r k (m : Int)) true = 0
    · exact hz
    · exact absurd (ask_none hx hz).1 hnx
  refine ⟨(ask_in hx hij (by rw [hlx]; exact hj)).trans hzx, by rw [if_pos rfl, hlx]; simp, ?_⟩
  have := truths_len _ hx
  exact needN_sub (by omega) (by omega) (truths_bits r) fun t ht => (mem_seenT.1 ((mem_looked hk hne).1 ht)).1
theorem look_split {r : RowD} {i j k : Nat} (hok : RowOk r) (hne : truths r ≠ []) (hk : k < r.places.length) : needN r.places.length i j (truths r) - 1 ≤ mostV r k i j 2 := by
  have hcap := truths_len r hok
  have hb := truths_bits r
  have a0 := needN_nonneg r.places.length i j (truths r)
  have a1 := needN_le (i := i) (j := j) (show (truths r).length ≤ 600 by omega) hb
  have c0 := truths_len _ (looked_ok2 hok hk (m := 0) (Or.inl rfl))
  have c1 := truths_len _ (looked_ok2 hok hk (m := 1) (Or.inr rfl))
  have all : ∀ (m m' : Nat), (m = 0 ∧ m' = 1 ∨ m = 1 ∧ m' = 0) → seenT (truths r) k (m : Int) = [] → seenT (truths r) k (m' : Int) ≠ [] ∧ ∀ t ∈ truths r, t ∈ seenT (truths r) k (m' : Int) := by
    intro m m' hmm he
    have h1 : ∀ t ∈ truths r, t ∈ seenT (truths r) k (m' : Int) := by
      intro t ht
      have hbit := getD_bit (hb t ht).2 k
      have hn : ¬ t.getD k 0 = (m : Int) := fun e => by
        have : t ∈ seenT (truths r) k (m : Int) := mem_seenT.2 ⟨ht, e⟩
        rw [he] at this; cases this
      refine mem_seenT.2 ⟨ht, ?_⟩
      rcases hmm with ⟨rfl, rfl⟩ | ⟨rfl, rfl⟩ <;> (simp only [Int.ofNat_zero, Int.ofNat_one] at hn ⊢; omega)
    obtain ⟨t, ht⟩ := List.exists_mem_of_ne_nil _ hne
    exact ⟨List.ne_nil_of_mem (h1 t ht), h1⟩
  have one : ∀ (m : Nat), (truths (lookD r k (m : Int))).length ≤ 600 → seenT (truths r) k (m : Int) ≠ [] → (∀ t ∈ truths r, t ∈ seenT (truths r) k (m : Int)) → needN r.places.length i j (truths r) ≤ needN r.places.length i j (truths (lookD r k (m : Int))) := by
    intro m hl hn h
    refine needN_sub hl (by omega) (fun t ht => hb t (mem_seenT.1 ((mem_looked hk hn).1 ht)).1) fun t ht => (mem_looked hk hn).2 (h t ht)
  by_cases h0 : seenT (truths r) k ((0 : Nat) : Int) = []
  · obtain ⟨hn1, h1⟩ := all 0 1 (Or.inl ⟨rfl, rfl⟩) h0
    have := one 1 (by omega) hn1 h1
    rw [most_yes (m := 1) hn1]; omega
  · by_cases h1 : seenT (truths r) k ((1 : Nat) : Int) = []
    · obtain ⟨hn0, h0'⟩ := all 1 0 (Or.inr ⟨rfl, rfl⟩) h1
      have := one 0 (by omega) hn0 h0'
      rw [most_no (m := 1) h1, most_yes (m := 0) hn0]; omega
    · rw [most_yes (m := 1) h1, most_yes (m := 0) h0]
      have n0 := needN_nonneg r.places.length i j (truths (lookD r k ((0 : Nat) : Int)))
      have n1 := needN_nonneg r.places.length i j (truths (lookD r k ((1 : Nat) : Int)))
      by_cases hbig : max (needN r.places.length i j (truths (lookD r k ((0 : Nat) : Int)))) (needN r.places.length i j (truths (lookD r k ((1 : Nat) : Int)))) + 1 ≤ r.places.length
      · have tr : ∀ m : Nat, seenT (truths r) k (m : Int) ≠ [] → (truths (lookD r k (m : Int))).length ≤ 600 → needN r.places.length i j (truths (lookD r k (m : Int))) ≤ ((max (needN r.places.length i j (truths (lookD r k ((0 : Nat) : Int)))) (needN r.places.length i j (truths (lookD r k ((1 : Nat) : Int))))).toNat : Int) →
            Tree r.places.length i j (max (needN r.places.length i j (truths (lookD r k ((0 : Nat) : Int)))) (needN r.places.length i j (truths (lookD r k ((1 : Nat) : Int))))).toNat (seenT (truths r) k (m : Int)) := by
          intro m hn hl hle
          have t := (needN_tree hl (by omega)).1 hle
          exact Tree.sub (fun u hu => (hb u (mem_seenT.1 ((mem_looked hk hn).1 hu)).1).2) (fun u hu => (mem_looked hk hn).2 hu) t
        have t0 := tr 0 h0 (by omega) (by omega)
        have t1 := tr 1 h1 (by omega) (by omega)
        have := (needN_tree (n := r.places.length) (i := i) (j := j) (ts := truths r) (d := (max (needN r.places.length i j (truths (lookD r k ((0 : Nat) : Int)))) (needN r.places.length i j (truths (lookD r k ((1 : Nat) : Int))))).toNat + 1) (by omega) (by omega)).2 (Or.inr ⟨k, hk, h0, h1, t0, t1⟩)
        omega
      · omega
open C1
theorem CountLooked_ok (rv : Value) (r : RowD) (a b c : Int) (D : Data) (hr : RowIs D rv r) (ha : 0 ≤ a ∧ a ≤ 255) (hb : 0 ≤ b ∧ b ≤ 255) (hc8 : 0 ≤ c ∧ c ≤ 255) : Fn Try.prog 12 #[rv, .int .u8 a, .int .u8 b, .int .u8 c] D (fun _ v => v = .bool true) := by
  have hr0 := hr
  obtain ⟨pv, cv, rfl, hp, hc⟩ := hr
  refine enter 156 Try.func12 rfl rfl rfl rfl fun h0 => ?_
  refine C.seq ?_
  refine C.region [(false,0),(false,1)] rfl ?_
  refine L.boxD rfl rfl rfl rfl trivial (fun q1 E1 hE1 hB1 => ?_)
  refine L.assign rfl rfl rfl trivial ?_
  refine L.nil ?_
  refine C.next ?_
  refine C.seq ?_
  refine C.seq ?_
  refine C.region [(false,0),(false,1),(false,2)] rfl ?_
  refine L.loadDW rfl Tf.a25 rfl hB1 (by first | simp | assumption) Tf.s25 List.not_mem_nil rfl trivial ?_
  refine L.callV rfl rfl rfl (fun D1 hD1 => ready_ok _ r _ (hr0.up (hD1 _ (by simp)))) rfl trivial ?_
  refine L.not rfl rfl rfl trivial ?_
  refine L.nil ?_
  refine C.next ?_
  refine C.cond rfl (fun hc1 => ?_) (fun hc1 => ?_)
  · refine C.seq ?_
    refine C.region [(false,0),(false,1)] rfl ?_
    refine L.callV rfl rfl rfl (fun D2 hD2 => awake_ok _) rfl trivial ?_
    refine L.assign rfl rfl rfl trivial ?_
    refine L.nil ?_
    refine C.next ?_
    refine C.ret ?_
    refine C.thenRet ?_
    exact leave (vs := [_]) rfl rfl rfl ⟨rfl, trivial⟩ (fun D hD => rfl)
  · obtain ⟨hlp, hlc, hok⟩ := ready_len hc1
    have hn0 := hok.len0
    have hn9 := hok.len9
    obtain ⟨i, j, hij, hjn, hpt⟩ := parted_ex r a b hok.len0 ha hb
    have hcap := truths_len r hok
    have hask := ask_in hok hij hjn
    refine C.skip ?_
    refine C.next ?_
    refine C.seq ?_
    refine C.region [(false,0),(false,1),(false,2),(false,3),(false,4),(false,5),(false,6),(false,7),(false,8),(false,9)] rfl ?_
    refine L.loadDW rfl Tf.a25 rfl hB1 (by first | simp | assumption) Tf.s25 List.not_mem_nil rfl trivial ?_
    refine L.call rfl rfl rfl (fun D3 hD3 => Row_ok _ r _ (hr0.up (hD3 _ (by simp))) (by omega) (by omega)) rfl trivial (fun v3 D3 hD3 hp3 => ?_)
    have hw := hp3
    refine L.callV rfl rfl rfl (fun D4 hD4 => Look_ok _ r _ (hw.up (hD4 _ (by simp)))) rfl trivial ?_
    refine L.move rfl rfl rfl trivial ?_
    refine L.extract rfl rfl rfl rfl trivial ?_
    refine L.extract rfl rfl rfl rfl trivial ?_
    refine L.extract rfl rfl rfl rfl trivial ?_
    refine L.assign rfl rfl rfl trivial ?_
    refine L.assign rfl rfl rfl trivial ?_
    refine L.assign rfl rfl rfl trivial ?_
    refine L.nil ?_
    refine C.next ?_
    refine C.seq ?_
    refine C.region [(false,0),(false,1),(false,2)] rfl ?_
    refine L.loadDW rfl Tf.a25 rfl hB1 (by first | simp | assumption) Tf.s25 List.not_mem_nil rfl trivial ?_
    refine L.call rfl rfl rfl (fun D5 hD5 => Truths_ok _ r _ (hr0.up (hD5 _ (by simp))) hok) rfl trivial (fun v5 D5 hD5 hp5 => ?_)
    have hls := hp5
    refine L.assign rfl rfl rfl trivial ?_
    refine L.nil ?_
    refine C.next ?_
    refine C.seq ?_
    refine C.seq ?_
    refine C.region [(false,0),(false,1)] rfl ?_
    refine L.move rfl rfl rfl trivial ?_
    refine L.neq rfl rfl rfl rfl trivial ?_
    refine L.nil ?_
    refine C.next ?_
    refine C.condD rfl (fun hc2 => ?_) (fun hc2 => ?_)
    · obtain ⟨ht0, ha11⟩ := ask_none hok hc2
      refine C.seq ?_
      refine C.region [(false,0),(false,1),(false,2),(false,3),(false,4),(false,5),(false,6),(false,7),(false,8),(false,9),(false,10)] rfl ?_
      refine L.move rfl rfl rfl trivial ?_
      refine L.eql rfl rfl rfl rfl trivial ?_
      refine L.move rfl rfl rfl trivial ?_
      refine' L.and [(false,3),(false,4),(false,5),(false,6)] [(false,7),(false,8),(false,9),(false,10)] (s := 41) (p := 45) rfl rfl (fun hg1 => ?_) (fun hg1 => ?_) ?_
      rotate_left
      · refine L.move rfl rfl rfl ⟨_, rfl, rfl⟩ ?_
        refine L.len rfl Try.underlying37 rfl hls rfl rfl ⟨_, rfl, rfl⟩ ?_
        refine L.eql rfl rfl rfl rfl ⟨_, rfl, rfl⟩ ?_
        refine L.pickT rfl rfl rfl rfl trivial ?_
        exact L.nil fun a w hh => hh.cutK 3 rfl
      · refine L.pass rfl rfl rfl ⟨_, _, rfl, rfl, rfl⟩ ?_
        refine L.pass rfl rfl rfl ⟨_, _, rfl, rfl, rfl⟩ ?_
        refine L.pass rfl rfl rfl ⟨_, _, rfl, rfl, rfl⟩ ?_
        refine L.pickF rfl rfl rfl rfl trivial ?_
        exact L.nil fun a w hh => hh.cutK 3 rfl
      refine L.move rfl rfl rfl trivial ?_
      refine' L.and [(false,8),(false,9)] [(false,10)] (s := 46) (p := 48) rfl rfl (fun hg2 => ?_) (fun hg2 => ?_) ?_
      rotate_left
      · refine L.callV rfl rfl rfl (fun D6 hD6 => awake_ok _) rfl ⟨_, rfl, rfl⟩ ?_
        refine L.pickT rfl rfl rfl rfl trivial ?_
        exact L.nil fun a w hh => hh.cutK 1 rfl
      · refine L.pass rfl rfl rfl ⟨_, _, rfl, rfl, rfl⟩ ?_
        refine L.pickF rfl rfl rfl rfl trivial ?_
        exact L.nil fun a w hh => hh.cutK 1 rfl
      refine L.assign rfl rfl rfl trivial ?_
      refine L.nil ?_
      refine C.next ?_
      refine C.ret ?_
      refine C.thenRet ?_
      exact leave (vs := [_]) rfl rfl rfl ⟨rfl, trivial⟩ (fun D hD => congrArg Value.bool (by rw [ha11, ht0]; rfl))
    · have hz : askErr r true = 0 := by omega
      obtain ⟨_, hne, hall, hlen⟩ := ask_truths hz
      obtain ⟨lp, hlpn, hlk, hll⟩ := look_ex hok hz hcap
      rw [hlk, hll]
      refine C.skip ?_
      refine C.next ?_
      refine C.seq ?_
      refine C.seq ?_
      refine C.region [(false,0),(false,1),(false,2),(false,3),(false,4),(false,5),(false,6),(false,7),(false,8),(false,9),(false,10),(false,11),(false,12),(false,13),(false,14),(false,15),(false,16),(false,17),(false,18),(false,19)] rfl ?_
      refine L.move rfl rfl rfl trivial ?_
      refine L.fieldAddr rfl Tf.f25_0 rfl rfl trivial ?_
      refine L.loadD1 rfl (k := 0) Tf.a22 rfl hB1 (by first | simp | assumption) rfl List.not_mem_nil rfl trivial ?_
      refine L.len rfl Try.underlying22 rfl hp rfl rfl trivial ?_
      refine L.sub rfl rfl rfl (by simp only [inK]; omega) rfl trivial ?_
      refine L.callV rfl rfl rfl (fun D7 hD7 => In_ok _ _ _ _) rfl trivial ?_
      refine L.not rfl rfl rfl trivial ?_
      refine L.move rfl rfl rfl trivial ?_
      refine' L.or [(false,8),(false,9),(false,10),(false,11),(false,12),(false,13),(false,14),(false,15),(false,16),(false,17),(false,18),(false,19)] [] (s := 56) (p := 68) rfl rfl (fun hg3 => ?_) (fun hg3 => ?_) ?_
      rotate_left
      · refine L.move rfl rfl rfl ⟨_, rfl, rfl⟩ ?_
        refine L.move rfl rfl rfl ⟨_, rfl, rfl⟩ ?_
        refine L.move rfl rfl rfl ⟨_, rfl, rfl⟩ ?_
        refine L.call rfl rfl rfl (fun D8 hD8 => Seen_ok _ (truths r) lp 0 _ (hls.up RL.up (hD8 _ (by simp))) (by omega) hall (fun t ht => by rw [hlen t ht]; omega)) rfl ⟨_, rfl, rfl⟩ (fun v8 D8 hD8 hp8 => ?_)
        have hs0 := hp8
        refine L.len rfl Try.underlying37 rfl hs0 rfl rfl ⟨_, rfl, rfl⟩ ?_
        refine L.move rfl rfl rfl ⟨_, rfl, rfl⟩ ?_
        refine L.move rfl rfl rfl ⟨_, rfl, rfl⟩ ?_
        refine L.call rfl rfl rfl (fun D9 hD9 => Seen_ok _ (truths r) lp 1 _ (hls.up RL.up (hD9 _ (by simp))) (by omega) hall (fun t ht => by rw [hlen t ht]; omega)) rfl ⟨_, rfl, rfl⟩ (fun v9 D9 hD9 hp9 => ?_)
        have hs1 := hp9
        refine L.len rfl Try.underlying37 rfl hs1 rfl rfl ⟨_, rfl, rfl⟩ ?_
        refine L.max2 rfl rfl rfl rfl ⟨_, rfl, rfl⟩ ?_
        refine L.neq rfl rfl rfl rfl ⟨_, rfl, rfl⟩ ?_
        refine L.pickF rfl rfl rfl rfl trivial ?_
        exact L.nil fun a w hh => (hh.cutK 11 rfl).ds (fun _ h => List.Mem.tail _ (List.Mem.tail _ (h)))
      · refine L.pass rfl rfl rfl ⟨_, _, rfl, rfl, rfl⟩ ?_
        refine L.pass rfl rfl rfl ⟨_, _, rfl, rfl, rfl⟩ ?_
        refine L.pass rfl rfl rfl ⟨_, _, rfl, rfl, rfl⟩ ?_
        refine L.pass rfl rfl rfl ⟨_, _, rfl, rfl, rfl⟩ ?_
        refine L.pass rfl rfl rfl ⟨_, _, rfl, rfl, rfl⟩ ?_
        refine L.pass rfl rfl rfl ⟨_, _, rfl, rfl, rfl⟩ ?_
        refine L.pass rfl rfl rfl ⟨_, _, rfl, rfl, rfl⟩ ?_
        refine L.pass rfl rfl rfl ⟨_, _, rfl, rfl, rfl⟩ ?_
        refine L.pass rfl rfl rfl ⟨_, _, rfl, rfl, rfl⟩ ?_
        refine L.pass rfl rfl rfl ⟨_, _, rfl, rfl, rfl⟩ ?_
        refine L.pass rfl rfl rfl ⟨_, _, rfl, rfl, rfl⟩ ?_
        refine L.pickT rfl rfl rfl rfl trivial ?_
        exact L.nil fun a w hh => hh.cutK 11 rfl
      refine L.nil ?_
      refine C.next ?_
      refine C.cond rfl (fun hc3 => ?_) (fun hc3 => ?_)
      · exact absurd hc3 (by simp [inB]; omega)
      · refine C.skip ?_
        refine C.next ?_
        refine C.seq ?_
        refine C.region [(false,0),(false,1),(false,2),(false,3),(false,4),(false,5),(false,6),(false,7),(false,8)] rfl ?_
        refine L.loadDW rfl Tf.a25 rfl hB1 (by first | simp | assumption) Tf.s25 List.not_mem_nil rfl trivial ?_
        refine L.move rfl rfl rfl trivial ?_
        refine L.move rfl rfl rfl trivial ?_
        refine L.callV rfl rfl rfl (fun D10 hD10 => hpt _ _ (hr0.up (hD10 _ (by simp)))) rfl trivial ?_
        refine L.move rfl rfl rfl trivial ?_
        refine L.extract rfl rfl rfl rfl trivial ?_
        refine L.extract rfl rfl rfl rfl trivial ?_
        refine L.assign rfl rfl rfl trivial ?_
        refine L.assign rfl rfl rfl trivial ?_
        refine L.nil ?_
        refine C.next ?_
        refine C.seq ?_
        refine C.region [(false,0),(false,1),(false,2),(false,3),(false,4),(false,5),(false,6),(false,7),(false,8),(false,9),(false,10)] rfl ?_
        refine L.loadDW rfl Tf.a25 rfl hB1 (by first | simp | assumption) Tf.s25 List.not_mem_nil rfl trivial ?_
        refine L.call rfl rfl rfl (fun D11 hD11 => Row_ok _ r _ (hr0.up (hD11 _ (by simp))) (by omega) (by omega)) rfl trivial (fun v11 D11 hD11 hp11 => ?_)
        have hw := hp11
        refine L.move rfl rfl rfl trivial ?_
        refine L.move rfl rfl rfl trivial ?_
        refine L.callV rfl rfl rfl (fun D12 hD12 => Chairs2_ok _ r _ _ _ (hw.up (hD12 _ (by simp)))) rfl trivial ?_
        refine L.move rfl rfl rfl trivial ?_
        refine L.extract rfl rfl rfl rfl trivial ?_
        refine L.extract rfl rfl rfl rfl trivial ?_
        refine L.alloc rfl Tf.z29 rfl rfl trivial (fun q2 => ?_)
        refine L.storeW rfl rfl rfl rfl Tf.s29 (by first | rfl | (simp only [ints_length, *]; done) | (simp only [ints_length, *]; rfl) | (simp only [ints_length, *]; omega)) (by first | rfl | (simp only [ints_length, *]; done) | (simp only [ints_length, *]; rfl) | (simp only [ints_length, *]; omega)) (Has.head) (by first | exact ints_cell1 _ | simp [cell1]) trivial ?_
        refine L.assign rfl rfl rfl trivial ?_
        refine L.nil ?_
        refine C.next ?_
        refine C.seq ?_
        refine C.region [(false,0),(false,1),(false,2),(false,3),(false,4),(false,5),(false,6),(false,7),(false,8),(false,9)] rfl ?_
        refine L.loadDW rfl Tf.a25 rfl hB1 (by first | simp | assumption) Tf.s25 List.not_mem_nil rfl trivial ?_
        refine L.call rfl rfl rfl (fun D13 hD13 => Row_ok _ r _ (hr0.up (hD13 _ (by simp))) (by omega) (by omega)) rfl trivial (fun v13 D13 hD13 hp13 => ?_)
        have hw := hp13
        refine L.move rfl rfl rfl trivial ?_
        refine L.move rfl rfl rfl trivial ?_
        refine L.callV rfl rfl rfl (fun D14 hD14 => Looks_ok _ r _ _ _ (hw.up (hD14 _ (by simp)))) rfl trivial ?_
        refine L.move rfl rfl rfl trivial ?_
        refine L.extract rfl rfl rfl rfl trivial ?_
        refine L.extract rfl rfl rfl rfl trivial ?_
        refine L.assign rfl rfl rfl trivial ?_
        refine L.assign rfl rfl rfl trivial ?_
        refine L.nil ?_
        refine C.next ?_
        refine C.seq ?_
        refine C.seq ?_
        rw [cl_n hask hz]
        refine C.region [(false,0),(false,1),(false,2),(false,3),(false,4),(false,5),(false,6),(false,7),(false,8),(false,9),(false,10),(false,11),(false,12),(false,13),(false,14),(false,15),(false,16),(false,17),(false,18),(false,19)] rfl ?_
        refine L.move rfl rfl rfl trivial ?_
        refine L.neq rfl rfl rfl rfl trivial ?_
        refine L.move rfl rfl rfl trivial ?_
        refine' L.or [(false,3),(false,4),(false,5)] [(false,6),(false,7),(false,8),(false,9),(false,10),(false,11),(false,12),(false,13),(false,14),(false,15),(false,16),(false,17),(false,18),(false,19)] (s := 94) (p := 97) rfl rfl (fun hg4 => ?_) (fun hg4 => ?_) ?_
        rotate_left
        · refine L.move rfl rfl rfl ⟨_, rfl, rfl⟩ ?_
          refine L.neq rfl rfl rfl rfl ⟨_, rfl, rfl⟩ ?_
          refine L.pickF rfl rfl rfl rfl trivial ?_
          exact L.nil fun a w hh => hh.cutK 2 rfl
        · refine L.pass rfl rfl rfl ⟨_, _, rfl, rfl, rfl⟩ ?_
          refine L.pass rfl rfl rfl ⟨_, _, rfl, rfl, rfl⟩ ?_
          refine L.pickT rfl rfl rfl rfl trivial ?_
          exact L.nil fun a w hh => hh.cutK 2 rfl
        refine L.move rfl rfl rfl trivial ?_
        refine' L.or [(false,7),(false,8),(false,9),(false,10),(false,11),(false,12),(false,13),(false,14),(false,15)] [(false,16),(false,17),(false,18),(false,19)] (s := 98) (p := 107) rfl rfl (fun hg5 => ?_) (fun hg5 => ?_) ?_
        rotate_left
        · refine L.fieldAddr rfl Tf.f29_0 rfl rfl ⟨_, rfl, rfl⟩ ?_
          refine L.loadB1 rfl Tf.a3 rfl (List.Mem.head _) rfl List.not_mem_nil rfl ⟨_, rfl, rfl⟩ ?_
          refine L.fieldAddr rfl Tf.f29_1 rfl rfl ⟨_, rfl, rfl⟩ ?_
          refine L.loadB1 rfl Tf.a3 rfl (List.Mem.head _) rfl List.not_mem_nil rfl ⟨_, rfl, rfl⟩ ?_
          refine L.eql rfl rfl rfl rfl ⟨_, rfl, rfl⟩ ?_
          refine L.move rfl rfl rfl ⟨_, rfl, rfl⟩ ?_
          refine L.eql rfl rfl rfl rfl ⟨_, rfl, rfl⟩ ?_
          refine L.neqB rfl Try.underlying4 rfl rfl rfl ⟨_, rfl, rfl⟩ ?_
          refine L.pickF rfl rfl rfl rfl trivial ?_
          exact L.nil fun a w hh => hh.cutK 8 rfl
        · refine L.pass rfl rfl rfl ⟨_, _, rfl, rfl, rfl⟩ ?_
          refine L.pass rfl rfl rfl ⟨_, _, rfl, rfl, rfl⟩ ?_
          refine L.pass rfl rfl rfl ⟨_, _, rfl, rfl, rfl⟩ ?_
          refine L.pass rfl rfl rfl ⟨_, _, rfl, rfl, rfl⟩ ?_
          refine L.pass rfl rfl rfl ⟨_, _, rfl, rfl, rfl⟩ ?_
          refine L.pass rfl rfl rfl ⟨_, _, rfl, rfl, rfl⟩ ?_
          refine L.pass rfl rfl rfl ⟨_, _, rfl, rfl, rfl⟩ ?_
          refine L.pass rfl rfl rfl ⟨_, _, rfl, rfl, rfl⟩ ?_
          refine L.pickT rfl rfl rfl rfl trivial ?_
          exact L.nil fun a w hh => hh.cutK 8 rfl
        refine L.move rfl rfl rfl trivial ?_
        refine' L.or [(false,17),(false,18),(false,19)] [] (s := 108) (p := 111) rfl rfl (fun hg6 => ?_) (fun hg6 => ?_) ?_
        rotate_left
        · refine L.move rfl rfl rfl ⟨_, rfl, rfl⟩ ?_
          refine L.lss rfl rfl rfl rfl ⟨_, rfl, rfl⟩ ?_
          refine L.pickF rfl rfl rfl rfl trivial ?_
          exact L.nil fun a w hh => hh.cutK 2 rfl
        · refine L.pass rfl rfl rfl ⟨_, _, rfl, rfl, rfl⟩ ?_
          refine L.pass rfl rfl rfl ⟨_, _, rfl, rfl, rfl⟩ ?_
          refine L.pickT rfl rfl rfl rfl trivial ?_
          exact L.nil fun a w hh => hh.cutK 2 rfl
        refine L.nil ?_
        refine C.next ?_
        refine C.cond rfl (fun hc4 => ?_) (fun hc4 => ?_)
        · exact absurd hc4 (by rw [cl_four hask hz hcap]; simp)
        · refine C.skip ?_
          refine C.next ?_
          refine C.seq ?_
          have hm1 := Int.emod_nonneg c (show (r.places.length : Int) ≠ 0 by omega)
          have hm2 := Int.emod_lt_of_pos c (show (0 : Int) < r.places.length by omega)
          refine C.region [(false,0),(false,1),(false,2),(false,3),(false,4),(false,5),(false,6)] rfl ?_
          refine L.move rfl rfl rfl trivial ?_
          refine L.convI rfl Try.underlying5 Try.underlying3 rfl (by simp only [inK]; omega) rfl trivial ?_
          refine L.fieldAddr rfl Tf.f25_0 rfl rfl trivial ?_
          refine L.loadD1 rfl (k := 0) Tf.a22 rfl hB1 (by first | simp | assumption) rfl List.not_mem_nil rfl trivial ?_
          refine L.len rfl Try.underlying22 rfl hp rfl rfl trivial ?_
          refine L.rem rfl rfl rfl (by omega) (by omega) (by simp only [inK]; omega) rfl trivial ?_
          refine L.assign rfl rfl rfl trivial ?_
          refine L.nil ?_
          refine C.next ?_
          refine C.seq ?_
          obtain ⟨k, hkk⟩ : ∃ k : Nat, c % (r.places.length : Int) = k := ⟨_, (Int.toNat_of_nonneg hm1).symm⟩
          rw [hkk] at hm1 hm2 ⊢
          have hkn : k < r.places.length := by omega
          refine C.region [(false,0)] rfl ?_
          refine L.assign rfl rfl rfl trivial ?_
          refine L.nil ?_
          refine C.next ?_
          refine C.seq ?_
          refine C.seq ?_
          refine C.region [(false,0)] rfl ?_
          refine L.assign rfl rfl rfl trivial ?_
          refine L.nil ?_
          refine C.next ?_
          refine C.block ?_
          refine C.loopC (γ := Nat) (fun m => 2 - m) (fun m => m ≤ 2) (fun m => [(21, .int .i64 (m : Int)), (20, .int .i64 (mostV r k i j m))]) [(19, _), (17, _), (14, _), (13, _), (12, _), (8, _), (4, _)] (fun m => [D13, D11, D5, D3, E1, D]) 0 (by omega) ⟨(by first | rfl | (show some (Value.int _ _) = some (Value.int _ _); congr 2; omega)), (by first | rfl | (show some (Value.int _ _) = some (Value.int _ _); congr 2; omega)), trivial⟩ ⟨rfl, rfl, rfl, rfl, rfl, rfl, rfl, trivial⟩ (ds_same) ?_
          rintro m h1
          refine C.seq ?_
          refine C.seq ?_
          refine C.region [(false,0),(false,1)] rfl ?_
          refine L.move rfl rfl rfl trivial ?_
          refine L.leq rfl rfl rfl rfl trivial ?_
          refine L.nil ?_
          refine C.next ?_
          refine C.condD rfl (fun hc5 => ?_) (fun hc5 => ?_)
          · refine C.skip ?_
            refine C.next ?_
            refine C.seq ?_
            refine C.block ?_
            refine C.seq ?_
            refine C.seq ?_
            refine C.region [(false,0),(false,1),(false,2),(false,3),(false,4),(false,5)] rfl ?_
            refine L.move rfl rfl rfl trivial ?_
            refine L.move rfl rfl rfl trivial ?_
            refine L.move rfl rfl rfl trivial ?_
            refine L.call rfl rfl rfl (fun D15 hD15 => Seen_ok _ (truths r) k (m : Int) _ (hls.up RL.up (hD15 _ (by simp))) (by omega) hall (fun t ht => by rw [hlen t ht]; omega)) rfl trivial (fun v15 D15 hD15 hp15 => ?_)
            have hsm := hp15
            refine L.len rfl Try.underlying37 rfl hsm rfl rfl trivial ?_
            refine L.eql rfl rfl rfl rfl trivial ?_
            refine L.nil ?_
            refine C.next ?_
            refine C.condD rfl (fun hc6 => ?_) (fun hc6 => ?_)
            · have hsk : seenT (truths r) k (m : Int) = [] := List.length_eq_zero_iff.1 (by omega)
              refine C.exit ?_
              refine C.thenExit ?_
              refine C.blockExit ?_
              refine C.next ?_
              refine C.region [(false,0),(false,1),(false,2)] rfl ?_
              refine L.move rfl rfl rfl trivial ?_
              refine L.add rfl rfl rfl (by simp only [inK]; omega) rfl trivial ?_
              refine L.assign rfl rfl rfl trivial ?_
              refine L.nil ?_
              exact C.againR 13 (m + 1) (by omega) (by omega) ⟨(by first | rfl | (show some (Value.int _ _) = some (Value.int _ _); congr 2; omega)), (by rw [most_no hsk]; rfl), trivial⟩ rfl rfl (List.Sublist.refl _) (fun D h => ⟨D, List.Mem.tail _ (h), Le.refl D⟩)
            · have hsk : seenT (truths r) k (m : Int) ≠ [] := fun e => hc6 (by rw [e]; rfl)
              have hm01 : m = 0 ∨ m = 1 := by omega
              obtain ⟨hxa, hxn, hxle⟩ := look_x (i := i) (j := j) hok hkn hm01 hsk hij hjn hcap
              refine C.skip ?_
              refine C.next ?_
              refine C.seq ?_
              refine C.region [(false,0),(false,1),(false,2),(false,3),(false,4),(false,5),(false,6),(false,7),(false,8),(false,9),(false,10),(false,11),(false,12)] rfl ?_
              refine L.loadDW rfl Tf.a25 rfl hB1 (by first | simp | assumption) Tf.s25 List.not_mem_nil rfl trivial ?_
              refine L.move rfl rfl rfl trivial ?_
              refine L.move rfl rfl rfl trivial ?_
              refine L.call rfl rfl rfl (fun D16 hD16 => looked_ok _ r k (m : Int) _ (hr0.up (hD16 _ (by simp))) hkn (by omega)) rfl trivial (fun v16 D16 hD16 hp16 => ?_)
              have hxr := hp16
              refine L.call rfl rfl rfl (fun D17 hD17 => Row_ok _ (lookD r k (m : Int)) _ (hxr.up (hD17 _ (by simp))) (by simp [lookD]; omega) (by simp only [lookD]; omega)) rfl trivial (fun v17 D17 hD17 hp17 => ?_)
              have hw := hp17
              refine L.move rfl rfl rfl trivial ?_
              refine L.move rfl rfl rfl trivial ?_
              refine L.callV rfl rfl rfl (fun D18 hD18 => Looks_ok _ (lookD r k (m : Int)) _ _ _ (hw.up (hD18 _ (by simp)))) rfl trivial ?_
              refine L.move rfl rfl rfl trivial ?_
              refine L.extract rfl rfl rfl rfl trivial ?_
              refine L.extract rfl rfl rfl rfl trivial ?_
              refine L.assign rfl rfl rfl trivial ?_
              refine L.assign rfl rfl rfl trivial ?_
              refine L.nil ?_
              refine C.next ?_
              refine C.seq ?_
              refine C.seq ?_
              rw [hxa, hxn]
              refine C.region [(false,0),(false,1),(false,2),(false,3),(false,4),(false,5),(false,6)] rfl ?_
              refine L.move rfl rfl rfl trivial ?_
              refine L.neq rfl rfl rfl rfl trivial ?_
              refine L.move rfl rfl rfl trivial ?_
              refine' L.or [(false,3),(false,4),(false,5),(false,6)] [] (s := 141) (p := 145) rfl rfl (fun hg7 => ?_) (fun hg7 => ?_) ?_
              rotate_left
              · refine L.move rfl rfl rfl ⟨_, rfl, rfl⟩ ?_
                refine L.move rfl rfl rfl ⟨_, rfl, rfl⟩ ?_
                refine L.gtr rfl rfl rfl rfl ⟨_, rfl, rfl⟩ ?_
                refine L.pickF rfl rfl rfl rfl trivial ?_
                exact L.nil fun a w hh => hh.cutK 3 rfl
              · refine L.pass rfl rfl rfl ⟨_, _, rfl, rfl, rfl⟩ ?_
                refine L.pass rfl rfl rfl ⟨_, _, rfl, rfl, rfl⟩ ?_
                refine L.pass rfl rfl rfl ⟨_, _, rfl, rfl, rfl⟩ ?_
                refine L.pickT rfl rfl rfl rfl trivial ?_
                exact L.nil fun a w hh => hh.cutK 3 rfl
              refine L.nil ?_
              refine C.next ?_
              refine C.cond rfl (fun hc7 => ?_) (fun hc7 => ?_)
              · exact absurd hc7 (by simp; omega)
              · refine C.skip ?_
                refine C.next ?_
                refine C.region [(false,0),(false,1),(false,2),(false,3)] rfl ?_
                refine L.move rfl rfl rfl trivial ?_
                refine L.move rfl rfl rfl trivial ?_
                refine L.max2 rfl rfl rfl rfl trivial ?_
                refine L.assign rfl rfl rfl trivial ?_
                refine L.nil ?_
                refine C.blockEnd ?_
                refine C.next ?_
                refine C.region [(false,0),(false,1),(false,2)] rfl ?_
                refine L.move rfl rfl rfl trivial ?_
                refine L.add rfl rfl rfl (by simp only [inK]; omega) rfl trivial ?_
                refine L.assign rfl rfl rfl trivial ?_
                refine L.nil ?_
                exact C.againR 34 (m + 1) (by omega) (by omega) ⟨(by first | rfl | (show some (Value.int _ _) = some (Value.int _ _); congr 2; omega)), (by rw [most_yes hsk]; rfl), trivial⟩ rfl rfl (List.Sublist.refl _) (fun D h => ⟨D, List.Mem.tail _ (List.Mem.tail _ (List.Mem.tail _ (h))), Le.refl D⟩)
          · obtain rfl : m = 2 := by omega
            refine C.exit ?_
            refine C.thenExit ?_
            refine C.thenExit ?_
            refine C.blockExit ?_
            refine C.next ?_
            refine C.seq ?_
            have hfin := look_split (i := i) (j := j) hok hne hkn
            have hnb0 := needN_nonneg r.places.length i j (truths r)
            have hnb1 := needN_le (i := i) (j := j) (show (truths r).length ≤ 600 by omega) (truths_bits r)
            refine C.region [(false,0),(false,1),(false,2),(false,3),(false,4),(false,5),(false,6),(false,7)] rfl ?_
            refine L.move rfl rfl rfl trivial ?_
            refine L.move rfl rfl rfl trivial ?_
            refine L.sub rfl rfl rfl (by simp only [inK]; omega) rfl trivial ?_
            refine L.geq rfl rfl rfl rfl trivial ?_
            refine L.move rfl rfl rfl trivial ?_
            refine' L.and [(false,5),(false,6)] [(false,7)] (s := 153) (p := 155) rfl rfl (fun hg8 => ?_) (fun hg8 => ?_) ?_
            rotate_left
            · refine L.callV rfl rfl rfl (fun D19 hD19 => awake_ok _) rfl ⟨_, rfl, rfl⟩ ?_
              refine L.pickT rfl rfl rfl rfl trivial ?_
              exact L.nil fun a w hh => hh.cutK 1 rfl
            · refine L.pass rfl rfl rfl ⟨_, _, rfl, rfl, rfl⟩ ?_
              refine L.pickF rfl rfl rfl rfl trivial ?_
              exact L.nil fun a w hh => hh.cutK 1 rfl
            refine L.assign rfl rfl rfl trivial ?_
            refine L.nil ?_
            refine C.next ?_
            refine C.ret ?_
            exact leave (vs := [_]) rfl rfl rfl ⟨rfl, trivial⟩ (fun D hD => congrArg Value.bool (by simp; omega))
end Go.Fs
