/- Of the proof of TopStand: V5, V6, V7, V8, MapV, V9. -/
import Derived.Test.YtjbdakpeheajgaaZTopStandG
namespace Go.Fs
open Go.Proofs
section
variable {P : Program} {X : Cx} {γb : Type} [Membership Nat γb] {bad : γb} {all : Array Oper} {K : Act → World → Prop} {Q : Exit → Act → World → Prop}
variable {σ : Slots} {μ : Boxes} {Ds : List Data} {os : List (Bool × Nat)} {fl : Bool} {ix : Nat}
variable {d : Nat} {x y z : Operand} {u v : Value} {ty : TypeId} {pos : String} {aft : Array Edge} {g : Option (Nat × Bool)}
/-- One number of a list of them is written, before or behind operations that do not look at it. -/
theorem L.storeFB {t : TypeId} {b k : Nat} {l : List Int} {n : Int} {e : TypeId} {μ' : Boxes} (ho : all[ix]? = some ⟨none, .store t x y, ty, pos, aft, g⟩) (hs : TS P t 1) (hx : ev σ x = some (.pointer (some ⟨b, k, none⟩))) (hy : ev σ y = some (.int .i64 n))
    (hm : Has μ b (.cells (ints l).toArray e (0, 0)) (.cells (ints (l.set k n)).toArray e (0, 0)) μ') (hl : k < l.length) (hfl : fl = false ∨ b ∈ bad) (hg : Gok all σ g)
    (kk : WL P X bad all K Q os σ μ' Ds) : WL P X bad all K Q ((fl, ix) :: os) σ μ Ds := by
  have hil : (ints l).length = l.length := ints_length l
  refine L.storeB (off := k) (us := [.int .i64 n]) (vs := ints l) (ws := ints (l.set k n)) ho hx hy rfl hs hm (by simp [hil]; omega) ?_ (fun u hu => by simp at hu; subst hu; rfl) hfl hg kk
  rw [show ints (l.set k n) = (ints l).set k (.int .i64 n) by simp [ints, List.map_set], List.set_eq_take_append_cons_drop, if_pos (by rw [hil]; exact hl)]
  simp
end
open C3
theorem ptr_eq {q a b : Nat} (h : a = b) : some (Value.pointer (some ⟨q, a, none⟩)) = some (Value.pointer (some ⟨q, b, none⟩)) := by rw [h]
theorem scL_len {s : Sc} (h4 : s.ch.length = 4) (h5 : s.tk.length = 4) : (scL s).length = 10 := by unfold scL; simp [h4, h5]
theorem sc_ch {s : Sc} (h4 : s.ch.length = 4) {c : Int} (hc : 0 ≤ c ∧ c < 4) : (ints (scL s))[0 + c.toNat * 1]? = some (.int .i64 (getI s.ch c)) := by
  rw [Nat.zero_add, Nat.mul_one]
  refine ints_get ?_
  unfold scL getI
  rw [List.append_assoc, List.getElem?_append_left (by omega), List.getD_eq_getElem?_getD, List.getElem?_eq_getElem (by omega)]; rfl
theorem sc_tk {s : Sc} (h4 : s.ch.length = 4) (h5 : s.tk.length = 4) {c : Int} (hc : 0 ≤ c ∧ c < 4) : (ints (scL s))[0 + 4 + c.toNat * 1]? = some (.int .i64 (getI s.tk c)) := by
  rw [Nat.mul_one]
  refine ints_get ?_
  unfold scL getI
  rw [List.append_assoc, List.getElem?_append_right (by omega), List.getElem?_append_left (by omega), List.getD_eq_getElem?_getD, show 0 + 4 + c.toNat - s.ch.length = c.toNat by omega, List.getElem?_eq_getElem (by omega)]; rfl
theorem four {l : List Int} (h : l.length = 4) : ∃ a b c d, l = [a, b, c, d] := by
  match l, h with
  | [a, b, c, d], _ => exact ⟨a, b, c, d, rfl⟩
theorem sc_money {s : Sc} (h4 : s.ch.length = 4) (h5 : s.tk.length = 4) : (scL s)[8]? = some s.money := by
  obtain ⟨a, b, c, d, e⟩ := four h4
  obtain ⟨a', b', c', d', e'⟩ := four h5
  unfold scL; rw [e, e']; rfl
theorem sc_mixed {s : Sc} (h4 : s.ch.length = 4) (h5 : s.tk.length = 4) : (scL s)[9]? = some s.mixed := by
  obtain ⟨a, b, c, d, e⟩ := four h4
  obtain ⟨a', b', c', d', e'⟩ := four h5
  unfold scL; rw [e, e']; rfl
theorem set_scL {s : Sc} (h4 : s.ch.length = 4) (h5 : s.tk.length = 4) {c t : Int} (hc : 0 ≤ c ∧ c < 4) (ht : 0 ≤ t ∧ t < 4) (x y m : Int) :
    (((scL s).set c.toNat x).set (4 + t.toNat) y).set 8 m = scL ⟨s.ch.set c.toNat x, s.tk.set t.toNat y, m, s.mixed⟩ ∧ ∀ z, ((((scL s).set 9 z).set c.toNat x).set (4 + t.toNat) y).set 8 m = scL ⟨s.ch.set c.toNat x, s.tk.set t.toNat y, m, z⟩ := by
  obtain ⟨a, b, c', d, e⟩ := four h4
  obtain ⟨a', b', c'', d', e'⟩ := four h5
  unfold scL
  rw [e, e']
  have hc' : c.toNat = 0 ∨ c.toNat = 1 ∨ c.toNat = 2 ∨ c.toNat = 3 := by omega
  have ht' : t.toNat = 0 ∨ t.toNat = 1 ∨ t.toNat = 2 ∨ t.toNat = 3 := by omega
  rcases hc' with h | h | h | h <;> rcases ht' with h' | h' | h' | h' <;> rw [h, h'] <;> exact ⟨rfl, fun _ => rfl⟩
theorem can_no {s : Sc} {l : Lin} (h : ((!(decide (getI s.ch l.chair ≠ 0) == decide (l.kind = 2))) || (!(decide (getI s.tk l.token ≠ 0) == decide (l.kind = 2)))) = true) : canN s l = false := by
  unfold canN
  revert h
  generalize decide (getI s.ch l.chair ≠ 0) = a, decide (getI s.tk l.token ≠ 0) = c, decide (l.kind = 2) = e
  cases a <;> cases c <;> cases e <;> decide
theorem can_yes {s : Sc} {l : Lin} (h : ((!(decide (getI s.ch l.chair ≠ 0) == decide (l.kind = 2))) || (!(decide (getI s.tk l.token ≠ 0) == decide (l.kind = 2)))) = false) : canN s l = true := by
  unfold canN
  revert h
  generalize decide (getI s.ch l.chair ≠ 0) = a, decide (getI s.tk l.token ≠ 0) = c, decide (l.kind = 2) = e
  cases a <;> cases c <;> cases e <;> decide
theorem ret_no {b : BookD} {s : Sc} {i : Int} {l : Lin} (h : canN s l = false) : Value.tuple #[.agg (ints (scL s)).toArray, .bool false] = .tuple #[scV (if canN s l = true then nextN b s i l else s), .bool (canN s l)] := by rw [h]; rfl
theorem ret_yes {b : BookD} {s : Sc} {i : Int} {l : Lin} {L : List Int} (h : canN s l = true) (hL : L = scL (nextN b s i l)) : Value.tuple #[.agg (ints L).toArray, .bool true] = .tuple #[scV (if canN s l = true then nextN b s i l else s), .bool (canN s l)] := by rw [h, hL]; rfl
theorem next_back {b : BookD} {s : Sc} {i : Int} {l : Lin} {L : List Int} (h4 : s.ch.length = 4) (h5 : s.tk.length = 4) (hc : 0 ≤ l.chair ∧ l.chair < 4) (ht : 0 ≤ l.token ∧ l.token < 4) (hk : l.kind = 2)
    (h : (getI s.ch l.chair ≠ getI s.tk l.token ∧ L = (scL s).set 9 (s.mixed + 1)) ∨ (getI s.ch l.chair = getI s.tk l.token ∧ L = scL s)) : ((L.set l.chair.toNat 0).set (4 + l.token.toNat) 0).set 8 (s.money - b.coin) = scL (nextN b s i l) := by
  obtain ⟨g1, g2⟩ := set_scL h4 h5 hc ht 0 0 (s.money - b.coin)
  unfold nextN
  rw [if_pos hk]
  rcases h with ⟨e, rfl⟩ | ⟨e, rfl⟩
  · rw [g2, if_pos e]
  · rw [g1, if_neg (by rw [e]; simp)]
theorem next_out {b : BookD} {s : Sc} {i : Int} {l : Lin} (h4 : s.ch.length = 4) (h5 : s.tk.length = 4) (hc : 0 ≤ l.chair ∧ l.chair < 4) (ht : 0 ≤ l.token ∧ l.token < 4) (hk : l.kind ≠ 2) :
    (((scL s).set l.chair.toNat (i + 1)).set (4 + l.token.toNat) (i + 1)).set 8 (s.money + b.coin) = scL (nextN b s i l) := by
  rw [(set_scL h4 h5 hc ht (i + 1) (i + 1) (s.money + b.coin)).1]
  unfold nextN
  rw [if_neg hk]
theorem next_ok (bv : Value) (b : BookD) (s : Sc) (i : Int) (l : Lin) (D : Data) (hb : BookIs D bv b) (h4 : s.ch.length = 4) (h5 : s.tk.length = 4) (hc : 0 ≤ l.chair ∧ l.chair < 4) (ht : 0 ≤ l.token ∧ l.token < 4) (hi : 0 ≤ i ∧ i ≤ 100) (hm : -100000 ≤ s.money ∧ s.money ≤ 100000) (hx : 0 ≤ s.mixed ∧ s.mixed ≤ 1000) (hn : 0 ≤ b.coin ∧ b.coin ≤ 99) :
    Fn Try.prog 51 #[bv, scV s, .int .i64 i, linV l] D (fun _ v => v = .tuple #[scV (if canN s l = true then nextN b s i l else s), .bool (canN s l)]) := by
  obtain ⟨lv, cv, rfl, hl, hcn⟩ := hb
  have hs10 := scL_len h4 h5
  refine enter 83 Try.func51 rfl rfl rfl rfl fun h0 => ?_
  refine C.seq ?_
  refine C.region [(false,0),(false,1),(false,2),(false,3),(false,4)] rfl ?_
  refine L.boxD rfl rfl rfl rfl trivial (fun q1 E1 hE1 hB1 => ?_)
  refine L.box rfl (e := 80) rfl rfl rfl trivial (fun q2 => ?_)
  refine L.boxD rfl rfl rfl rfl trivial (fun q3 E3 hE3 hB3 => ?_)
  refine L.alloc rfl Tf.z80 rfl rfl trivial (fun q4 => ?_)
  refine L.assign rfl rfl rfl trivial ?_
  refine L.nil ?_
  refine C.next ?_
  refine C.seq ?_
  refine C.region [(false,0),(false,1),(false,2),(false,3)] rfl ?_
  refine L.fieldAddr rfl Tf.f64_0 rfl rfl trivial ?_
  refine L.loadD1 rfl (k := 0) Tf.a3 rfl hB3 (by first | simp | assumption) rfl List.not_mem_nil rfl trivial ?_
  refine L.eql rfl rfl rfl rfl trivial ?_
  refine L.assign rfl rfl rfl trivial ?_
  refine L.nil ?_
  refine C.next ?_
  refine C.seq ?_
  refine C.seq ?_
  refine C.region [(false,0),(false,1),(false,2),(false,3),(false,4),(false,5),(false,6),(false,7),(false,8),(false,9),(false,10),(false,11),(false,12),(false,13),(false,14),(false,15),(false,16),(false,17)] rfl ?_
  refine L.fieldAddr rfl Tf.f64_1 rfl rfl trivial ?_
  refine L.loadD1 rfl (k := 1) Tf.a3 rfl hB3 (by first | simp | assumption) rfl List.not_mem_nil rfl trivial ?_
  refine L.fieldAddr rfl Tf.f80_0 rfl rfl trivial ?_
  refine L.indexA rfl Try.underlying78 Tf.s3 rfl rfl (by omega) (by omega) rfl trivial ?_
  refine L.loadB1 (v := .int .i64 (getI s.ch l.chair)) rfl Tf.a3 rfl (List.Mem.tail _ (List.Mem.head _)) (sc_ch h4 hc) List.not_mem_nil rfl trivial ?_
  refine L.neq rfl rfl rfl rfl trivial ?_
  refine L.move rfl rfl rfl trivial ?_
  refine L.neqB rfl Try.underlying4 rfl rfl rfl trivial ?_
  refine L.move rfl rfl rfl trivial ?_
  refine' L.or [(false,9),(false,10),(false,11),(false,12),(false,13),(false,14),(false,15),(false,16),(false,17)] [] (s := 22) (p := 31) rfl rfl (fun hg1 => ?_) (fun hg1 => ?_) ?_
  rotate_left
  · refine L.fieldAddr rfl Tf.f64_2 rfl rfl ⟨_, rfl, rfl⟩ ?_
    refine L.loadD1 rfl (k := 2) Tf.a3 rfl hB3 (by first | simp | assumption) rfl List.not_mem_nil rfl ⟨_, rfl, rfl⟩ ?_
    refine L.fieldAddr rfl Tf.f80_1 rfl rfl ⟨_, rfl, rfl⟩ ?_
    refine L.indexA rfl Try.underlying78 Tf.s3 rfl rfl (by omega) (by omega) rfl ⟨_, rfl, rfl⟩ ?_
    refine L.loadB1 (v := .int .i64 (getI s.tk l.token)) rfl Tf.a3 rfl (List.Mem.tail _ (List.Mem.head _)) (sc_tk h4 h5 ht) List.not_mem_nil rfl ⟨_, rfl, rfl⟩ ?_
    refine L.neq rfl rfl rfl rfl ⟨_, rfl, rfl⟩ ?_
    refine L.move rfl rfl rfl ⟨_, rfl, rfl⟩ ?_
    refine L.neqB rfl Try.underlying4 rfl rfl rfl ⟨_, rfl, rfl⟩ ?_
    refine L.pickF rfl rfl rfl rfl trivial ?_
    exact L.nil fun a w hh => hh.cutK 8 rfl
  · refine L.pass rfl rfl rfl ⟨_, _, rfl, rfl, rfl⟩ ?_
    refine L.pass rfl rfl rfl ⟨_, _, rfl, rfl, rfl⟩ ?_
    refine L.pass rfl rfl rfl ⟨_, _, rfl, rfl, rfl⟩ ?_
    refine L.pass rfl rfl rfl ⟨_, _, rfl, rfl, rfl⟩ ?_
    refine L.pass rfl rfl rfl ⟨_, _, rfl, rfl, rfl⟩ ?_
    refine L.pass rfl rfl rfl ⟨_, _, rfl, rfl, rfl⟩ ?_
    refine L.pass rfl rfl rfl ⟨_, _, rfl, rfl, rfl⟩ ?_
    refine L.pass rfl rfl rfl ⟨_, _, rfl, rfl, rfl⟩ ?_
    refine L.pickT rfl rfl rfl rfl trivial ?_
    exact L.nil fun a w hh => hh.cutK 8 rfl
  refine L.nil ?_
  refine C.next ?_
  refine C.cond rfl (fun hc1 => ?_) (fun hc1 => ?_)
  · refine C.seq ?_
    refine C.region [(false,0),(false,1),(false,2)] rfl ?_
    refine L.loadBW (e := 80) (fz := (0, 0)) rfl Tf.a80 rfl (List.Mem.tail _ (List.Mem.head _)) (by rw [show (ints _).length = 10 by simp [hs10]]; exact Tf.s80) List.not_mem_nil rfl trivial ?_
    refine L.storeW rfl rfl rfl rfl Tf.s80 (by simp [hs10]) (by rfl) .head (ints_cell1 _) trivial ?_
    refine L.assign rfl rfl rfl trivial ?_
    refine L.nil ?_
    refine C.next ?_
    refine C.ret ?_
    refine C.thenRet ?_
    exact leave (vs := [_, _]) rfl rfl rfl ⟨⟨_, _, _, rfl, (List.Mem.head _), Or.inr ⟨Tf.a80, (by rw [show (ints _).toArray.size = 10 by simp [hs10]]; exact Tf.s80), rfl⟩⟩, rfl, trivial⟩ (fun D hD => ret_no (can_no hc1))
  · have hcan : canN s l = true := can_yes hc1
    refine C.skip ?_
    refine C.next ?_
    refine C.seq ?_
    refine C.seq ?_
    refine C.region [(false,0)] rfl ?_
    refine L.move rfl rfl rfl trivial ?_
    refine L.nil ?_
    refine C.next ?_
    refine C.condD rfl (fun hc2 => ?_) (fun hc2 => ?_)
    · have hk2 : l.kind = 2 := by simpa using hc2
      refine C.seq ?_
      refine C.seq ?_
      refine C.draw [] 4 [0,1,2,3,4,5,6,7,8,9,10] [false,false,true,false,false,true,true,true,true,true,false] [(false,0),(false,1),(true,2),(false,3),(false,4),(true,5),(true,6),(true,7),(true,8),(true,9),(false,10)] Tf.follows (fun _ _ _ h => np_body (P := Try.prog) (fn := Try.f51) _ _ _ h) (by kernel_rfl) rfl ?_
      refine L.fieldAddr rfl Tf.f64_1 rfl rfl trivial ?_
      refine L.loadD1 rfl (k := 1) Tf.a3 rfl hB3 (by first | simp | assumption) rfl List.not_mem_nil rfl trivial ?_
      refine L.fieldAddr rfl Tf.f80_0 rfl rfl trivial ?_
      refine L.indexA rfl Try.underlying78 Tf.s3 rfl rfl (by omega) (by omega) rfl trivial ?_
      refine L.loadB1 (v := .int .i64 (getI s.ch l.chair)) rfl Tf.a3 rfl (List.Mem.tail _ (List.Mem.head _)) (sc_ch h4 hc) List.not_mem_nil rfl trivial ?_
      refine L.fieldAddr rfl Tf.f64_2 rfl rfl trivial ?_
      refine L.loadD1 rfl (k := 2) Tf.a3 rfl hB3 (by first | simp | assumption) rfl List.not_mem_nil rfl trivial ?_
      refine L.fieldAddr rfl Tf.f80_1 rfl rfl trivial ?_
      refine L.indexA rfl Try.underlying78 Tf.s3 rfl rfl (by omega) (by omega) rfl trivial ?_
      refine L.loadB1 (v := .int .i64 (getI s.tk l.token)) rfl Tf.a3 rfl (List.Mem.tail _ (List.Mem.head _)) (sc_tk h4 h5 ht) List.not_mem_nil rfl trivial ?_
      refine L.neq rfl rfl rfl rfl trivial ?_
      refine L.nil ?_
      refine C.next ?_
      refine C.condD rfl (fun hc3 => ?_) (fun hc3 => ?_)
      · refine C.region [(false,0),(false,1),(false,2),(false,3),(false,4)] rfl ?_
        refine L.fieldAddr rfl Tf.f80_3 rfl rfl trivial ?_
        refine L.loadB1 (v := .int .i64 s.mixed) rfl Tf.a3 rfl (List.Mem.tail _ (List.Mem.head _)) (ints_get (sc_mixed h4 h5)) List.not_mem_nil rfl trivial ?_
        refine L.add rfl rfl rfl (by simp only [inK]; omega) rfl trivial ?_
        refine L.fieldAddr rfl Tf.f80_3 rfl rfl trivial ?_
        refine L.storeF (k := 9) rfl Tf.s3 rfl rfl (.tail Has.head) (by first | omega | (simp only [List.length_set]; omega)) trivial ?_
        refine L.nil ?_
        refine C.next ?_
        refine C.seq ?_
        refine C.draw (But.mk [q3]) 2 [0,1,2,3,4,5,7,6,8,9] [false,false,true,true,true,true,true,true,false,false] [(false,0),(false,1),(true,2),(true,3),(true,4),(true,5),(true,7),(true,6),(false,8),(false,9)] Tf.follows (fun _ _ _ h => np_body (P := Try.prog) (fn := Try.f51) _ _ _ h) (by kernel_rfl) rfl ?_
        refine L.fieldAddr rfl Tf.f64_1 rfl rfl trivial ?_
        refine L.loadD1 rfl (k := 1) Tf.a3 rfl hB3 (by first | simp | assumption) rfl (But.out (by simp)) rfl trivial ?_
        refine L.fieldAddr rfl Tf.f64_2 rfl rfl trivial ?_
        refine L.loadD1 rfl (k := 2) Tf.a3 rfl hB3 (by first | simp | assumption) rfl (But.out (by simp)) rfl trivial ?_
        refine L.fieldAddr rfl Tf.f80_0 rfl rfl trivial ?_
        refine L.indexA rfl Try.underlying78 Tf.s3 rfl rfl (by omega) (by omega) rfl trivial ?_
        refine L.fieldAddr rfl Tf.f80_1 rfl rfl trivial ?_
        refine L.apart hB3 (by simp) (fun hap => ?_)
        refine L.storeFB (k := l.chair.toNat) rfl Tf.s3 (ptr_eq (by omega)) rfl (.tail Has.head) (by first | omega | (simp only [List.length_set]; omega)) (Or.inr (But.in_ (by rw [List.mem_singleton]; rintro rfl; exact hap (List.mem_map.2 ⟨_, List.Mem.tail _ (List.Mem.head _), rfl⟩)))) trivial ?_
        refine L.indexA rfl Try.underlying78 Tf.s3 rfl rfl (by omega) (by omega) rfl trivial ?_
        refine L.apart hB3 (by simp) (fun hap => ?_)
        refine L.storeFB (k := 4 + l.token.toNat) rfl Tf.s3 (ptr_eq (by omega)) rfl (.tail Has.head) (by first | omega | (simp only [List.length_set]; omega)) (Or.inr (But.in_ (by rw [List.mem_singleton]; rintro rfl; exact hap (List.mem_map.2 ⟨_, List.Mem.tail _ (List.Mem.head _), rfl⟩)))) trivial ?_
        refine L.nil ?_
        refine C.next ?_
        refine C.seq ?_
        refine C.region [(false,0),(false,1),(false,2),(false,3),(false,4),(false,5),(false,6)] rfl ?_
        refine L.fieldAddr rfl Tf.f80_2 rfl rfl trivial ?_
        refine L.loadB1 (v := .int .i64 s.money) rfl Tf.a3 rfl (List.Mem.tail _ (List.Mem.head _)) (ints_get (by first | exact sc_money h4 h5 | (rw [List.getElem?_set_ne (by omega), List.getElem?_set_ne (by omega)]; exact sc_money h4 h5) | (rw [List.getElem?_set_ne (by omega), List.getElem?_set_ne (by omega), List.getElem?_set_ne (by omega)]; exact sc_money h4 h5))) List.not_mem_nil rfl trivial ?_
        refine L.fieldAddr rfl Tf.f40_1 rfl rfl trivial ?_
        refine L.loadD1 rfl (k := 1) Tf.a3 rfl hB1 (by first | simp | assumption) rfl List.not_mem_nil rfl trivial ?_
        refine L.sub rfl rfl rfl (by simp only [inK]; omega) rfl trivial ?_
        refine L.fieldAddr rfl Tf.f80_2 rfl rfl trivial ?_
        refine L.storeF (k := 8) rfl Tf.s3 rfl rfl (.tail Has.head) (by first | omega | (simp only [List.length_set]; omega)) trivial ?_
        refine L.nil ?_
        refine C.next ?_
        refine C.seq ?_
        refine C.region [(false,0),(false,1),(false,2)] rfl ?_
        refine L.loadBW (e := 80) (fz := (0, 0)) rfl Tf.a80 rfl (List.Mem.tail _ (List.Mem.head _)) (by rw [show (ints _).length = 10 by simp [hs10]]; exact Tf.s80) List.not_mem_nil rfl trivial ?_
        refine L.storeW rfl rfl rfl rfl Tf.s80 (by simp [hs10]) (by rfl) .head (ints_cell1 _) trivial ?_
        refine L.assign rfl rfl rfl trivial ?_
        refine L.nil ?_
        refine C.next ?_
        refine C.ret ?_
        refine C.thenRet ?_
        exact leave (vs := [_, _]) rfl rfl rfl ⟨⟨_, _, _, rfl, (List.Mem.head _), Or.inr ⟨Tf.a80, (by rw [show (ints _).toArray.size = 10 by simp [hs10]]; exact Tf.s80), rfl⟩⟩, rfl, trivial⟩ (fun D hD => ret_yes hcan (next_back h4 h5 hc ht hk2 (Or.inl ⟨by simpa using hc3, rfl⟩)))
      · refine C.skip ?_
        refine C.next ?_
        refine C.seq ?_
        refine C.draw (But.mk [q3]) 2 [0,1,2,3,4,5,7,6,8,9] [false,false,true,true,true,true,true,true,false,false] [(false,0),(false,1),(true,2),(true,3),(true,4),(true,5),(true,7),(true,6),(false,8),(false,9)] Tf.follows (fun _ _ _ h => np_body (P := Try.prog) (fn := Try.f51) _ _ _ h) (by kernel_rfl) rfl ?_
        refine L.fieldAddr rfl Tf.f64_1 rfl rfl trivial ?_
        refine L.loadD1 rfl (k := 1) Tf.a3 rfl hB3 (by first | simp | assumption) rfl (But.out (by simp)) rfl trivial ?_
        refine L.fieldAddr rfl Tf.f64_2 rfl rfl trivial ?_
        refine L.loadD1 rfl (k := 2) Tf.a3 rfl hB3 (by first | simp | assumption) rfl (But.out (by simp)) rfl trivial ?_
        refine L.fieldAddr rfl Tf.f80_0 rfl rfl trivial ?_
        refine L.indexA rfl Try.underlying78 Tf.s3 rfl rfl (by omega) (by omega) rfl trivial ?_
        refine L.fieldAddr rfl Tf.f80_1 rfl rfl trivial ?_
        refine L.apart hB3 (by simp) (fun hap => ?_)
        refine L.storeFB (k := l.chair.toNat) rfl Tf.s3 (ptr_eq (by omega)) rfl (.tail Has.head) (by first | omega | (simp only [List.length_set]; omega)) (Or.inr (But.in_ (by rw [List.mem_singleton]; rintro rfl; exact hap (List.mem_map.2 ⟨_, List.Mem.tail _ (List.Mem.head _), rfl⟩)))) trivial ?_
        refine L.indexA rfl Try.underlying78 Tf.s3 rfl rfl (by omega) (by omega) rfl trivial ?_
        refine L.apart hB3 (by simp) (fun hap => ?_)
        refine L.storeFB (k := 4 + l.token.toNat) rfl Tf.s3 (ptr_eq (by omega)) rfl (.tail Has.head) (by first | omega | (simp only [List.length_set]; omega)) (Or.inr (But.in_ (by rw [List.mem_singleton]; rintro rfl; exact hap (List.mem_map.2 ⟨_, List.Mem.tail _ (List.Mem.head _), rfl⟩)))) trivial ?_
        refine L.nil ?_
        refine C.next ?_
        refine C.seq ?_
        refine C.region [(false,0),(false,1),(false,2),(false,3),(false,4),(false,5),(false,6)] rfl ?_
        refine L.fieldAddr rfl Tf.f80_2 rfl rfl trivial ?_
        refine L.loadB1 (v := .int .i64 s.money) rfl Tf.a3 rfl (List.Mem.tail _ (List.Mem.head _)) (ints_get (by first | exact sc_money h4 h5 | (rw [List.getElem?_set_ne (by omega), List.getElem?_set_ne (by omega)]; exact sc_money h4 h5) | (rw [List.getElem?_set_ne (by omega), List.getElem?_set_ne (by omega), List.getElem?_set_ne (by omega)]; exact sc_money h4 h5))) List.not_mem_nil rfl trivial ?_
        refine L.fieldAddr rfl Tf.f40_1 rfl rfl trivial ?_
        refine L.loadD1 rfl (k := 1) Tf.a3 rfl hB1 (by first | simp | assumption) rfl List.not_mem_nil rfl trivial ?_
        refine L.sub rfl rfl rfl (by simp only [inK]; omega) rfl trivial ?_
        refine L.fieldAddr rfl Tf.f80_2 rfl rfl trivial ?_
        refine L.storeF (k := 8) rfl Tf.s3 rfl rfl (.tail Has.head) (by first | omega | (simp only [List.length_set]; omega)) trivial ?_
        refine L.nil ?_
        refine C.next ?_
        refine C.seq ?_
        refine C.region [(false,0),(false,1),(false,2)] rfl ?_
        refine L.loadBW (e := 80) (fz := (0, 0)) rfl Tf.a80 rfl (List.Mem.tail _ (List.Mem.head _)) (by rw [show (ints _).length = 10 by simp [hs10]]; exact Tf.s80) List.not_mem_nil rfl trivial ?_
        refine L.storeW rfl rfl rfl rfl Tf.s80 (by simp [hs10]) (by rfl) .head (ints_cell1 _) trivial ?_
        refine L.assign rfl rfl rfl trivial ?_
        refine L.nil ?_
        refine C.next ?_
        refine C.ret ?_
        refine C.thenRet ?_
        exact leave (vs := [_, _]) rfl rfl rfl ⟨⟨_, _, _, rfl, (List.Mem.head _), Or.inr ⟨Tf.a80, (by rw [show (ints _).toArray.size = 10 by simp [hs10]]; exact Tf.s80), rfl⟩⟩, rfl, trivial⟩ (fun D hD => ret_yes hcan (next_back h4 h5 hc ht hk2 (Or.inr ⟨by simpa using hc3, rfl⟩)))
    · have hk2 : l.kind ≠ 2 := by simpa using hc2
      refine C.skip ?_
      refine C.next ?_
      refine C.seq ?_
      refine C.draw (But.mk [q3]) 2 [0,1,2,3,4,5,6,7,8,9,11,10,12,13] [false,false,true,true,true,true,true,true,true,true,true,true,false,false] [(false,0),(false,1),(true,2),(true,3),(true,4),(true,5),(true,6),(true,7),(true,8),(true,9),(true,11),(true,10),(false,12),(false,13)] Tf.follows (fun _ _ _ h => np_body (P := Try.prog) (fn := Try.f51) _ _ _ h) (by kernel_rfl) rfl ?_
      refine L.fieldAddr rfl Tf.f64_1 rfl rfl trivial ?_
      refine L.loadD1 rfl (k := 1) Tf.a3 rfl hB3 (by first | simp | assumption) rfl (But.out (by simp)) rfl trivial ?_
      refine L.fieldAddr rfl Tf.f64_2 rfl rfl trivial ?_
      refine L.loadD1 rfl (k := 2) Tf.a3 rfl hB3 (by first | simp | assumption) rfl (But.out (by simp)) rfl trivial ?_
      refine L.move rfl rfl rfl trivial ?_
      refine L.add rfl rfl rfl (by simp only [inK]; omega) rfl trivial ?_
      refine L.move rfl rfl rfl trivial ?_
      refine L.add rfl rfl rfl (by simp only [inK]; omega) rfl trivial ?_
      refine L.fieldAddr rfl Tf.f80_0 rfl rfl trivial ?_
      refine L.indexA rfl Try.underlying78 Tf.s3 rfl rfl (by omega) (by omega) rfl trivial ?_
      refine L.fieldAddr rfl Tf.f80_1 rfl rfl trivial ?_
      refine L.apart hB3 (by simp) (fun hap => ?_)
      refine L.storeFB (k := l.chair.toNat) rfl Tf.s3 (ptr_eq (by omega)) rfl (.tail Has.head) (by first | omega | (simp only [List.length_set]; omega)) (Or.inr (But.in_ (by rw [List.mem_singleton]; rintro rfl; exact hap (List.mem_map.2 ⟨_, List.Mem.tail _ (List.Mem.head _), rfl⟩)))) trivial ?_
      refine L.indexA rfl Try.underlying78 Tf.s3 rfl rfl (by omega) (by omega) rfl trivial ?_
      refine L.apart hB3 (by simp) (fun hap => ?_)
      refine L.storeFB (k := 4 + l.token.toNat) rfl Tf.s3 (ptr_eq (by omega)) rfl (.tail Has.head) (by first | omega | (simp only [List.length_set]; omega)) (Or.inr (But.in_ (by rw [List.mem_singleton]; rintro rfl; exact hap (List.mem_map.2 ⟨_, List.Mem.tail _ (List.Mem.head _), rfl⟩)))) trivial ?_
      refine L.nil ?_
      refine C.next ?_
      refine C.seq ?_
      refine C.region [(false,0),(false,1),(false,2),(false,3),(false,4),(false,5),(false,6)] rfl ?_
      refine L.fieldAddr rfl Tf.f80_2 rfl rfl trivial ?_
      refine L.loadB1 (v := .int .i64 s.money) rfl Tf.a3 rfl (List.Mem.tail _ (List.Mem.head _)) (ints_get (by first | exact sc_money h4 h5 | (rw [List.getElem?_set_ne (by omega), List.getElem?_set_ne (by omega)]; exact sc_money h4 h5) | (rw [List.getElem?_set_ne (by omega), List.getElem?_set_ne (by omega), List.getElem?_set_ne (by omega)]; exact sc_money h4 h5))) List.not_mem_nil rfl trivial ?_
      refine L.fieldAddr rfl Tf.f40_1 rfl rfl trivial ?_
      refine L.loadD1 rfl (k := 1) Tf.a3 rfl hB1 (by first | simp | assumption) rfl List.not_mem_nil rfl trivial ?_
      refine L.add rfl rfl rfl (by simp only [inK]; omega) rfl trivial ?_
      refine L.fieldAddr rfl Tf.f80_2 rfl rfl trivial ?_
      refine L.storeF (k := 8) rfl Tf.s3 rfl rfl (.tail Has.head) (by first | omega | (simp only [List.length_set]; omega)) trivial ?_
      refine L.nil ?_
      refine C.next ?_
      refine C.seq ?_
      refine C.region [(false,0),(false,1),(false,2)] rfl ?_
      refine L.loadBW (e := 80) (fz := (0, 0)) rfl Tf.a80 rfl (List.Mem.tail _ (List.Mem.head _)) (by rw [show (ints _).length = 10 by simp [hs10]]; exact Tf.s80) List.not_mem_nil rfl trivial ?_
      refine L.storeW rfl rfl rfl rfl Tf.s80 (by simp [hs10]) (by rfl) .head (ints_cell1 _) trivial ?_
      refine L.assign rfl rfl rfl trivial ?_
      refine L.nil ?_
      refine C.next ?_
      refine C.ret ?_
      exact leave (vs := [_, _]) rfl rfl rfl ⟨⟨_, _, _, rfl, (List.Mem.head _), Or.inr ⟨Tf.a80, (by rw [show (ints _).toArray.size = 10 by simp [hs10]]; exact Tf.s80), rfl⟩⟩, rfl, trivial⟩ (fun D hD => ret_yes hcan (next_out h4 h5 hc ht hk2))
end Go.Fs
namespace Go.Fs
open Go.Proofs
open C3
theorem lin_eq {l x : Lin} (h : (([l.kind, l.chair, l.token] : List Int) == [x.kind, x.chair, x.token]) = true) : l = x := by
  obtain ⟨a, b, c⟩ := l
  obtain ⟨a', b', c'⟩ := x
  simpa using h
theorem lin_ne {l x : Lin} (h : (([l.kind, l.chair, l.token] : List Int) == [x.kind, x.chair, x.token]) = false) : l ≠ x := by
  rintro rfl; simp at h
theorem counted1_ok (c : Cn) (ba bs : Nat) (a : Int) (s : Sc) (D : Data) (h4 : s.ch.length = 4) (h5 : s.tk.length = 4) (hA : At D ba 0 [.int .i64 a]) (hS : At D bs 0 (ints (scL s))) :
    Fn Try.prog 83 #[cnV c, .pointer (some ⟨ba, 0, none⟩), .pointer (some ⟨bs, 0, none⟩)] D (fun _ v => v = .bool (decide (c.after ≠ a) || C1.inB s.money c.lo c.hi)) := by
  refine enter 16 Try.func83 rfl rfl rfl rfl fun h0 => ?_
  refine C.seq ?_
  refine C.region [(false,0),(false,1)] rfl ?_
  refine L.boxD rfl rfl rfl rfl trivial (fun q1 E1 hE1 hB1 => ?_)
  refine L.assign rfl rfl rfl trivial ?_
  refine L.nil ?_
  refine C.next ?_
  refine C.seq ?_
  refine C.region [(false,0),(false,1),(false,2),(false,3),(false,4),(false,5),(false,6),(false,7),(false,8),(false,9),(false,10),(false,11)] rfl ?_
  refine L.fieldAddr rfl Tf.f86_0 rfl rfl trivial ?_
  refine L.loadD1 rfl (k := 0) Tf.a3 rfl hB1 (by first | simp | assumption) rfl List.not_mem_nil rfl trivial ?_
  refine L.loadD1 rfl (k := 0) Tf.a3 rfl hA (by first | simp | assumption) rfl List.not_mem_nil rfl trivial ?_
  refine L.neq rfl rfl rfl rfl trivial ?_
  refine L.move rfl rfl rfl trivial ?_
  refine' L.or [(false,5),(false,6),(false,7),(false,8),(false,9),(false,10)] [(false,11)] (s := 9) (p := 15) rfl rfl (fun hg1 => ?_) (fun hg1 => ?_) ?_
  rotate_left
  · refine L.fieldAddr rfl Tf.f86_1 rfl rfl ⟨_, rfl, rfl⟩ ?_
    refine L.loadDP rfl (k := 1) Tf.a43 Tf.s43 rfl hB1 (by first | simp | assumption) rfl rfl List.not_mem_nil rfl ⟨_, rfl, rfl⟩ ?_
    refine L.fieldAddr rfl Tf.f80_2 rfl rfl ⟨_, rfl, rfl⟩ ?_
    refine L.loadD1 (v := .int .i64 s.money) rfl (k := 8) Tf.a3 rfl hS (by first | simp | assumption) (ints_get (sc_money h4 h5)) List.not_mem_nil rfl ⟨_, rfl, rfl⟩ ?_
    refine L.callV rfl rfl rfl (fun D1 hD1 => thas_ok (c.lo, c.hi) _ _) rfl ⟨_, rfl, rfl⟩ ?_
    refine L.pickF rfl rfl rfl rfl trivial ?_
    exact L.nil fun a w hh => hh.cutK 5 rfl
  · refine L.pass rfl rfl rfl ⟨_, _, rfl, rfl, rfl⟩ ?_
    refine L.pass rfl rfl rfl ⟨_, _, rfl, rfl, rfl⟩ ?_
    refine L.pass rfl rfl rfl ⟨_, _, rfl, rfl, rfl⟩ ?_
    refine L.pass rfl rfl rfl ⟨_, _, rfl, rfl, rfl⟩ ?_
    refine L.pass rfl rfl rfl ⟨_, _, rfl, rfl, rfl⟩ ?_
    refine L.pickT rfl rfl rfl rfl trivial ?_
    exact L.nil fun a w hh => hh.cutK 5 rfl
  refine L.assign rfl rfl rfl trivial ?_
  refine L.nil ?_
  refine C.next ?_
  refine C.ret ?_
  exact leave (vs := [_]) rfl rfl rfl ⟨rfl, trivial⟩ (fun D hD => rfl)
theorem counted_ok (bv : Value) (b : BookD) (s : Sc) (a : Int) (D : Data) (hb : BookIs D bv b) (h4 : s.ch.length = 4) (h5 : s.tk.length = 4) : Fn Try.prog 65 #[bv, scV s, .int .i64 a] D (fun _ v => v = .bool (countedB b s a)) := by
  obtain ⟨lv, cv, rfl, hl, hc⟩ := hb
  refine enter 11 Try.func65 rfl rfl rfl rfl fun h0 => ?_
  refine C.seq ?_
  refine C.region [(false,0),(false,1),(false,2),(false,3)] rfl ?_
  refine L.boxD rfl rfl rfl rfl trivial (fun q1 E1 hE1 hB1 => ?_)
  refine L.boxD rfl rfl rfl rfl trivial (fun q2 E2 hE2 hB2 => ?_)
  refine L.boxD rfl rfl rfl rfl trivial (fun q3 E3 hE3 hB3 => ?_)
  refine L.assign rfl rfl rfl trivial ?_
  refine L.nil ?_
  refine C.next ?_
  refine C.seq ?_
  refine C.region [(false,0),(false,1),(false,2),(false,3),(false,4)] rfl ?_
  refine L.fieldAddr rfl Tf.f40_4 rfl rfl trivial ?_
  refine L.loadD1 rfl (k := 4) Tf.a38 rfl hB1 (by first | simp | assumption) rfl List.not_mem_nil rfl trivial ?_
  refine L.makeFunc rfl rfl rfl rfl trivial ?_
  refine L.callV rfl rfl rfl (fun D1 hD1 => allN_ok _ _ _ (fun c => decide (c.after ≠ a) || C1.inB s.money c.lo c.hi) _ (Sl.at RCn.up hD1 (by assumption) (by simp)) ⟨_, [], [_, _], rfl, fun c D2 hl => counted1_ok c _ _ a s D2 h4 h5 (hB3.up ((hD1 _ (by simp)).trans hl)) (hB2.up ((hD1 _ (by simp)).trans hl))⟩ rfl) rfl trivial ?_
  refine L.assign rfl rfl rfl trivial ?_
  refine L.nil ?_
  refine C.next ?_
  refine C.ret ?_
  exact leave (vs := [_]) rfl rfl rfl ⟨rfl, trivial⟩ (fun D hD => rfl)
theorem begin_ok (bv : Value) (b : BookD) (D : Data) (hb : BookIs D bv b) : Fn Try.prog 49 #[bv] D (fun _ v => v = scV (begin0 b)) := by
  obtain ⟨lv, cv, rfl, hl, hc⟩ := hb
  refine enter 6 Try.func49 rfl rfl rfl rfl fun h0 => ?_
  refine C.seq ?_
  refine C.region [(false,0),(false,1)] rfl ?_
  refine L.boxD rfl rfl rfl rfl trivial (fun q1 E1 hE1 hB1 => ?_)
  refine L.alloc rfl Tf.z80 rfl rfl trivial (fun q2 => ?_)
  refine L.nil ?_
  refine C.next ?_
  refine C.seq ?_
  refine C.region [(false,0),(false,1),(false,2),(false,3)] rfl ?_
  refine L.fieldAddr rfl Tf.f40_2 rfl rfl trivial ?_
  refine L.loadD1 rfl (k := 2) Tf.a3 rfl hB1 (by first | simp | assumption) rfl List.not_mem_nil rfl trivial ?_
  refine L.build (cs := [.int .i64 0, .int .i64 0, .int .i64 0, .int .i64 0, .int .i64 0, .int .i64 0, .int .i64 0, .int .i64 0, .int .i64 b.box, .int .i64 0]) rfl Tf.p80 Tf.z80 rfl rfl rfl trivial ?_
  refine L.storeW rfl rfl rfl rfl Tf.s80 (by first | rfl | (simp only [ints_length, *]; done) | (simp only [ints_length, *]; rfl) | (simp only [ints_length, *]; omega)) (by first | rfl | (simp only [ints_length, *]; done) | (simp only [ints_length, *]; rfl) | (simp only [ints_length, *]; omega)) (Has.head) (by first | exact ints_cell1 _ | simp [cell1]) trivial ?_
  refine L.nil ?_
  refine C.next ?_
  refine C.ret ?_
  exact leave (vs := [_]) rfl rfl rfl ⟨⟨_, _, _, rfl, (List.Mem.head _), Or.inr ⟨Tf.a80, (by first | exact Tf.s80 | (simp only [List.size_toArray, ints_length, *]; exact Tf.s80)), rfl⟩⟩, trivial⟩ (fun D hD => rfl)
theorem chairQ_ok (s : Sc) (i : Int) (D : Data) (h4 : s.ch.length = 4) (_h5 : s.tk.length = 4) (hi : 0 ≤ i ∧ i < 4) : Fn Try.prog 25 #[scV s, .int .i64 i] D (fun _ v => v = .bool (qCh s i.toNat)) := by
  refine enter 10 Try.func25 rfl rfl rfl rfl fun h0 => ?_
  refine C.seq ?_
  refine C.region [(false,0),(false,1)] rfl ?_
  refine L.boxD rfl rfl rfl rfl trivial (fun q1 E1 hE1 hB1 => ?_)
  refine L.assign rfl rfl rfl trivial ?_
  refine L.nil ?_
  refine C.next ?_
  refine C.seq ?_
  refine C.region [(false,0),(false,1),(false,2),(false,3),(false,4),(false,5)] rfl ?_
  refine L.move rfl rfl rfl trivial ?_
  refine L.fieldAddr rfl Tf.f80_0 rfl rfl trivial ?_
  refine L.indexA rfl Try.underlying78 Tf.s3 rfl rfl (by omega) (by omega) rfl trivial ?_
  refine L.loadD1 (o := 0) (k := 0 + i.toNat * 1) (v := .int .i64 (getI s.ch i)) rfl Tf.a3 (ptr_eq (by omega)) hB1 (by first | simp | assumption) (sc_ch h4 hi) List.not_mem_nil rfl trivial ?_
  refine L.neq rfl rfl rfl rfl trivial ?_
  refine L.assign rfl rfl rfl trivial ?_
  refine L.nil ?_
  refine C.next ?_
  refine C.ret ?_
  exact leave (vs := [_]) rfl rfl rfl ⟨rfl, trivial⟩ (fun D hD => rfl)
theorem tokenQ_ok (s : Sc) (i : Int) (D : Data) (h4 : s.ch.length = 4) (h5 : s.tk.length = 4) (hi : 0 ≤ i ∧ i < 4) : Fn Try.prog 27 #[scV s, .int .i64 i] D (fun _ v => v = .bool (qTk s i.toNat)) := by
  refine enter 10 Try.func27 rfl rfl rfl rfl fun h0 => ?_
  refine C.seq ?_
  refine C.region [(false,0),(false,1)] rfl ?_
  refine L.boxD rfl rfl rfl rfl trivial (fun q1 E1 hE1 hB1 => ?_)
  refine L.assign rfl rfl rfl trivial ?_
  refine L.nil ?_
  refine C.next ?_
  refine C.seq ?_
  refine C.region [(false,0),(false,1),(false,2),(false,3),(false,4),(false,5)] rfl ?_
  refine L.move rfl rfl rfl trivial ?_
  refine L.fieldAddr rfl Tf.f80_1 rfl rfl trivial ?_
  refine L.indexA rfl Try.underlying78 Tf.s3 rfl rfl (by omega) (by omega) rfl trivial ?_
  refine L.loadD1 (o := 0) (k := 4 + i.toNat * 1) (v := .int .i64 (getI s.tk i)) rfl Tf.a3 (ptr_eq (by omega)) hB1 (by first | simp | assumption) (by have := sc_tk h4 h5 hi; rwa [show 0 + 4 + i.toNat * 1 = 4 + i.toNat * 1 by omega] at this) List.not_mem_nil rfl trivial ?_
  refine L.neq rfl rfl rfl rfl trivial ?_
  refine L.assign rfl rfl rfl trivial ?_
  refine L.nil ?_
  refine C.next ?_
  refine C.ret ?_
  exact leave (vs := [_]) rfl rfl rfl ⟨rfl, trivial⟩ (fun D hD => rfl)
theorem ks_64 : KS Try.prog 64 3 := by
  have hf : (Try.prog.fieldsOf 64).toList = [(Try.prog.fieldsOf 64)[0]!, (Try.prog.fieldsOf 64)[1]!, (Try.prog.fieldsOf 64)[2]!] := by kernel_rfl
  refine ⟨by kernel_rfl, by kernel_rfl, by kernel_rfl, ?_⟩
  rw [hf]
  exact .cons (FldOk.int (by decide +kernel) (by kernel_rfl) (by kernel_rfl)) (.cons (FldOk.int (by decide +kernel) (by kernel_rfl) (by kernel_rfl)) (.cons (FldOk.int (by decide +kernel) (by kernel_rfl) (by kernel_rfl)) .nil))
theorem IndexLin_ok (sv : Value) (xs : List Lin) (l : Lin) (D : Data) (hS : Sl D RLin 3 sv xs) : Fn Try.prog 87 #[sv, linV l] D (fun _ v => v = .int .i64 (idxOf (fun x => decide (l = x)) xs)) := by
  have hl := hS.len
  refine enter 19 Try.func87 rfl rfl rfl rfl fun h0 => ?_
  refine C.seq ?_
  refine C.region [(false,0),(false,1)] rfl ?_
  refine L.boxD rfl rfl rfl rfl trivial (fun q1 E1 hE1 hB1 => ?_)
  refine L.assign rfl rfl rfl trivial ?_
  refine L.nil ?_
  refine C.next ?_
  refine C.seq ?_
  refine C.seq ?_
  refine C.region [(false,0),(false,1),(false,2)] rfl ?_
  refine L.move rfl rfl rfl trivial ?_
  refine L.len rfl Try.underlying37 rfl (by assumption) rfl rfl trivial ?_
  refine L.move rfl rfl rfl trivial ?_
  refine L.nil ?_
  refine C.next ?_
  refine C.block ?_
  refine C.loopC (γ := Nat) (fun k => xs.length - k) (fun k => k ≤ xs.length ∧ (xs.take k).any (fun x => decide (l = x)) = false) (fun k => [(8, .int .i64 k)]) [(7, _), (4, _), (3, _), (0, _)] (fun k => [E1, D]) 0 (by simp) ⟨(by first | rfl | (show some (Value.int _ _) = some (Value.int _ _); congr 2; omega)), trivial⟩ ⟨rfl, rfl, rfl, rfl, trivial⟩ (ds_same) ?_
  rintro k ⟨h1, h2⟩
  refine C.seq ?_
  refine C.region [(false,0)] rfl ?_
  refine L.lss rfl rfl rfl rfl trivial ?_
  refine L.nil ?_
  refine C.next ?_
  refine C.seq ?_
  refine C.condD rfl (fun hc1 => ?_) (fun hc1 => ?_)
  · have hk : k < xs.length := by omega
    obtain ⟨x, hx⟩ : ∃ x, xs[k]? = some x := ⟨_, List.getElem?_eq_getElem hk⟩
    refine C.skip ?_
    refine C.next ?_
    refine C.seq ?_
    refine C.block ?_
    refine C.seq ?_
    refine C.region [(false,0),(false,1)] rfl ?_
    refine L.move rfl rfl rfl trivial ?_
    refine L.assign rfl rfl rfl trivial ?_
    refine L.nil ?_
    refine C.next ?_
    refine C.seq ?_
    refine C.draw [] 3 [0,1,2,3,4,5] [false,true,true,true,true,false] [(false,0),(true,1),(true,2),(true,3),(true,4),(false,5)] Tf.follows (fun _ _ _ h => np_body (P := Try.prog) (fn := Try.f87) _ _ _ h) (by kernel_rfl) rfl ?_
    refine L.loadDW rfl Tf.a64 rfl hB1 (by first | simp | assumption) Tf.s64 List.not_mem_nil rfl trivial ?_
    refine L.move rfl rfl rfl trivial ?_
    refine L.move rfl rfl rfl trivial ?_
    refine L.indexS rfl Try.underlying37 Tf.s64 rfl hS rfl (by omega) hx rfl trivial (fun b1 o1 cs1 hr1 hcl1 hA1 => ?_)
    obtain rfl : cs1 = [.int .i64 _, .int .i64 _, .int .i64 _] := hr1
    refine L.loadDW rfl Tf.a64 rfl hA1 (by first | simp | assumption) Tf.s64 List.not_mem_nil rfl trivial ?_
    refine L.eqlS (l := [l.kind, l.chair, l.token]) (m := [x.kind, x.chair, x.token]) rfl ks_64 rfl rfl rfl rfl rfl trivial ?_
    refine L.nil ?_
    refine C.next ?_
    refine C.cond rfl (fun hc2 => ?_) (fun hc2 => ?_)
    · refine C.seq ?_
      refine C.region [(false,0),(false,1)] rfl ?_
      refine L.move rfl rfl rfl trivial ?_
      refine L.assign rfl rfl rfl trivial ?_
      refine L.nil ?_
      refine C.next ?_
      refine C.ret ?_
      refine C.blockRet ?_
      refine C.thenRet ?_
      refine C.thenRet ?_
      refine C.blockRet ?_
      refine C.thenRet ?_
      exact leave (vs := [_]) rfl rfl rfl ⟨rfl, trivial⟩ (fun D hD => by show Value.int _ _ = _; rw [idxOf_at hx h2 (by simp [lin_eq hc2])])
    · refine C.skip ?_
      refine C.blockEnd ?_
      refine C.next ?_
      refine C.region [(false,0),(false,1)] rfl ?_
      refine L.add rfl rfl rfl (by simp only [inK]; omega) rfl trivial ?_
      refine L.move rfl rfl rfl trivial ?_
      refine L.nil ?_
      have h3 : (xs.take (k + 1)).any (fun x => decide (l = x)) = false := by rw [List.take_add_one, hx, List.any_append, h2]; simp [lin_ne hc2]
      exact C.againR 12 (k + 1) ⟨by omega, h3⟩ (by omega) ⟨(by first | rfl | (show some (Value.int _ _) = some (Value.int _ _); congr 2; omega)), trivial⟩ rfl rfl (List.Sublist.refl _) (ds_same)
  · refine C.exit ?_
    refine C.thenExit ?_
    refine C.thenExit ?_
    refine C.blockExit ?_
    refine C.next ?_
    refine C.seq ?_
    refine C.region [(false,0)] rfl ?_
    refine L.assign rfl rfl rfl trivial ?_
    refine L.nil ?_
    refine C.next ?_
    refine C.ret ?_
    exact leave (vs := [_]) rfl rfl rfl ⟨rfl, trivial⟩ (fun D hD => by show Value.int _ _ = _; rw [idxOf_none (by rwa [List.take_of_length_le (by omega)] at h2)])
theorem ContainsLin_ok (sv : Value) (xs : List Lin) (l : Lin) (D : Data) (hS : Sl D RLin 3 sv xs) : Fn Try.prog 72 #[sv, linV l] D (fun _ v => v = .bool (xs.any fun x => decide (l = x))) := by
  refine enter 9 Try.func72 rfl rfl rfl rfl fun h0 => ?_
  refine C.seq ?_
  refine C.region [(false,0),(false,1)] rfl ?_
  refine L.boxD rfl rfl rfl rfl trivial (fun q1 E1 hE1 hB1 => ?_)
  refine L.assign rfl rfl rfl trivial ?_
  refine L.nil ?_
  refine C.next ?_
  refine C.seq ?_
  refine C.region [(false,0),(false,1),(false,2),(false,3),(false,4)] rfl ?_
  refine L.move rfl rfl rfl trivial ?_
  refine L.loadDW rfl Tf.a64 rfl hB1 (by first | simp | assumption) Tf.s64 List.not_mem_nil rfl trivial ?_
  refine L.callV rfl rfl rfl (fun D1 hD1 => IndexLin_ok _ xs l _ (Sl.at RLin.up hD1 (by assumption) (by simp))) rfl trivial ?_
  refine L.geq rfl rfl rfl rfl trivial ?_
  refine L.assign rfl rfl rfl trivial ?_
  refine L.nil ?_
  refine C.next ?_
  refine C.ret ?_
  exact leave (vs := [_]) rfl rfl rfl ⟨rfl, trivial⟩ (fun D hD => by show Value.bool (decide _) = _; rw [idxOf_ge])
theorem agrees_ok (bv : Value) (b : BookD) (l x : Lin) (D : Data) (hb : BookIs D bv b) (hn : 1 ≤ b.chairs ∧ b.chairs ≤ 4) : Fn Try.prog 50 #[bv, linV l, linV x] D (fun _ v => v = .bool ((readings b.chairs l).any fun r => decide (x = r))) := by
  have hb0 := hb
  obtain ⟨lv, cv, rfl, hl, hc⟩ := hb
  refine enter 12 Try.func50 rfl rfl rfl rfl fun h0 => ?_
  refine C.seq ?_
  refine C.region [(false,0),(false,1),(false,2),(false,3)] rfl ?_
  refine L.boxD rfl rfl rfl rfl trivial (fun q1 E1 hE1 hB1 => ?_)
  refine L.boxD rfl rfl rfl rfl trivial (fun q2 E2 hE2 hB2 => ?_)
  refine L.boxD rfl rfl rfl rfl trivial (fun q3 E3 hE3 hB3 => ?_)
  refine L.assign rfl rfl rfl trivial ?_
  refine L.nil ?_
  refine C.next ?_
  refine C.seq ?_
  refine C.draw [] 2 [0,1,3,2,4,5] [false,true,true,true,false,false] [(false,0),(true,1),(true,3),(true,2),(false,4),(false,5)] Tf.follows (fun _ _ _ h => np_body (P := Try.prog) (fn := Try.f50) _ _ _ h) (by kernel_rfl) rfl ?_
  refine L.loadDW rfl Tf.a40 rfl hB1 (by first | simp | assumption) Tf.s40 List.not_mem_nil rfl trivial ?_
  refine L.loadDW rfl Tf.a64 rfl hB2 (by first | simp | assumption) Tf.s64 List.not_mem_nil rfl trivial ?_
  refine L.loadDW rfl Tf.a64 rfl hB3 (by first | simp | assumption) Tf.s64 List.not_mem_nil rfl trivial ?_
  refine L.call rfl rfl rfl (fun D1 hD1 => readings_ok _ b l _ (hb0.up (hD1 _ (by simp))) hn) rfl trivial (fun v1 D1 hD1 hp1 => ?_)
  have hr := hp1
  refine L.callV rfl rfl rfl (fun D2 hD2 => ContainsLin_ok _ _ x _ (hr.up RLin.up (hD2 _ (by simp)))) rfl trivial ?_
  refine L.assign rfl rfl rfl trivial ?_
  refine L.nil ?_
  refine C.next ?_
  refine C.ret ?_
  exact leave (vs := [_]) rfl rfl rfl ⟨rfl, trivial⟩ (fun D hD => rfl)
end Go.Fs
namespace Go.Fs
open Go.Proofs
open C3
structure BOk (b : BookD) : Prop where
  ch : 1 ≤ b.chairs ∧ b.chairs ≤ 4
  co : 1 ≤ b.coin ∧ b.coin ≤ 99
  bx : 0 ≤ b.box ∧ b.box ≤ 999
  l8 : b.lines.length ≤ 8
  c4 : b.counts.length ≤ 4
  ln : ∀ l ∈ b.lines, lineOk b.chairs l = true
theorem bOk {b : BookD} (h : fault b = 0) : BOk b := by
  unfold fault at h
  split at h
  · omega
  · rename_i h1
    split at h
    · omega
    · rename_i h2
      have h3 : bookOk b = true := by simpa using h2
      unfold bookOk at h3
      simp only [Bool.and_eq_true, C1.inB_iff, List.all_eq_true] at h3
      exact ⟨h3.1.1.1.1, h3.1.1.1.2, h3.1.1.2, by omega, by omega, h3.1.2⟩
/-- The scene after some lines of a truth. -/
def scK (b : BookD) (t : List Lin) : Nat → Sc
  | 0 => begin0 b
  | k + 1 => match t[k]? with
    | some l => nextN b (scK b t k) k l
    | none => scK b t k
def stepOk (b : BookD) (t : List Lin) (j : Nat) : Bool := match t[j]?, b.lines[j]? with
  | some l, some z => (readings b.chairs z).any (fun r => decide (l = r)) && canN (scK b t j) l
  | _, _ => false
def okK (b : BookD) (t : List Lin) (k : Nat) : Bool := (List.range k).all (stepOk b t)
def scenesB (b : BookD) (t : List Lin) : Bool := decide (t.length = b.lines.length) && okK b t t.length
def scs (b : BookD) (t : List Lin) : List Sc := (List.range (t.length + 1)).map (scK b t)
def flatSc (l : List Sc) : List Value := l.flatMap fun s => ints (scL s)
def scsC (b : BookD) (t : List Lin) (k : Nat) : List Value := flatSc ((List.range (k + 1)).map (scK b t))
structure ScB (b : BookD) (s : Sc) (k : Nat) : Prop where
  lc : s.ch.length = 4
  lt : s.tk.length = 4
  mo : b.box - 99 * (k : Int) ≤ s.money ∧ s.money ≤ b.box + 99 * (k : Int)
  mi : 0 ≤ s.mixed ∧ s.mixed ≤ k
theorem next_b {b : BookD} (hb : BOk b) {s : Sc} {k : Nat} (h : ScB b s k) (l : Lin) (i : Int) : ScB b (nextN b s i l) (k + 1) := by
  have := hb.co
  have := h.mo
  have := h.mi
  unfold nextN
  split
  · refine ⟨by simp [h.lc], by simp [h.lt], ?_, ?_⟩
    · simp only; push_cast; omega
    · simp only; split <;> push_cast <;> omega
  · refine ⟨by simp [h.lc], by simp [h.lt], ?_, ?_⟩
    · simp only; push_cast; omega
    · simp only; push_cast; omega
theorem scK_ok {b : BookD} (hb : BOk b) {t : List Lin} : ∀ k, k ≤ t.length → True → ScB b (scK b t k) k
  | 0, _, _ => ⟨rfl, rfl, by simp [scK, begin0], by simp [scK, begin0]⟩
  | k + 1, hk, _ => by
    have ih := scK_ok hb (t := t) k (by omega) trivial
    rw [scK, List.getElem?_eq_getElem (by omega)]
    exact next_b hb ih _ _
theorem okK_succ (b : BookD) (t : List Lin) (k : Nat) : okK b t (k + 1) = (okK b t k && stepOk b t k) := by unfold okK; rw [List.range_succ, List.all_append]; simp
theorem scsC_succ (b : BookD) (t : List Lin) (k : Nat) : scsC b t (k + 1) = scsC b t k ++ ints (scL (scK b t (k + 1))) := by unfold scsC flatSc; rw [List.range_succ, List.map_append, List.flatMap_append, List.map_singleton, List.flatMap_singleton]
theorem ag_in {b : BookD} (hb : BOk b) {k : Nat} {z x : Lin} (hz : b.lines[k]? = some z) (h : (readings b.chairs z).any (fun r => decide (x = r)) = true) : linIn b.chairs x := by
  rw [List.any_eq_true] at h
  obtain ⟨r, hr, e⟩ := h
  rw [of_decide_eq_true e]
  exact ((readings_mem (hb.ln z (List.mem_of_getElem? hz))).1 hr).1
theorem scs_each {b : BookD} (_hb : BOk b) {t : List Lin} (j : Nat) : (scL (scK b t j)).length = 10 := by
  have key : ∀ j, (scK b t j).ch.length = 4 ∧ (scK b t j).tk.length = 4 := by
    intro j
    induction j with
    | zero => exact ⟨rfl, rfl⟩
    | succ j ih =>
      rw [scK]
      split
      · unfold nextN
        split <;> simp [ih.1, ih.2]
      · exact ih
  exact scL_len (key j).1 (key j).2
theorem scsC_len {b : BookD} (hb : BOk b) {t : List Lin} (k : Nat) : (scsC b t k).length = (k + 1) * 10 := by
  induction k with
  | zero => unfold scsC flatSc; simp [scs_each hb]
  | succ k ih => rw [scsC_succ, List.length_append, ih, ints_length, scs_each hb]; omega
theorem flatSc_get {l : List Sc} (h : ∀ s ∈ l, (scL s).length = 10) {i : Nat} {s : Sc} (hi : l[i]? = some s) : ((flatSc l).drop (i * 10)).take 10 = ints (scL s) := by
  induction l generalizing i with
  | nil => simp at hi
  | cons u l ih =>
    have hu : (ints (scL u)).length = 10 := by rw [ints_length, h u List.mem_cons_self]
    have e : flatSc (u :: l) = ints (scL u) ++ flatSc l := rfl
    rw [e]
    cases i with
    | zero =>
      obtain rfl : u = s := by simpa using hi
      rw [Nat.zero_mul, List.drop_zero, List.take_append_of_le_length (by omega), List.take_of_length_le (by omega)]
    | succ i =>
      rw [List.drop_append, List.drop_eq_nil_of_le (by omega), List.nil_append, hu, show (i + 1) * 10 - 10 = i * 10 by omega]
      exact ih (fun t ht => h t (List.mem_cons_of_mem _ ht)) (by simpa using hi)
theorem Froz.scs {D : Data} {v : Value} {n : Nat} {l : List Sc} (hF : Froz D v n (flatSc l)) (hn : l.length = n) (hb : n ≤ 9223372036854775807) (h : ∀ s ∈ l, (scL s).length = 10) : Sl D RSc 10 v l :=
  hF.sl hn hb fun i t hi => ⟨_, rfl, by rw [ints_length, h t (List.mem_of_getElem? hi)], flatSc_get h hi⟩
def ScsR (b : BookD) (t : List Lin) (D : Data) (v : Value) : Prop := ∃ sv, v = .tuple #[sv, .bool (scenesB b t)] ∧ (scenesB b t = true → Sl D RSc 10 sv (scs b t)) ∧ (scenesB b t = false → sv = .slice none 0 0)
theorem scR_no {b : BookD} {t : List Lin} {D : Data} (h : scenesB b t = false) : ScsR b t D (.tuple #[.slice none 0 0, .bool false]) := ⟨_, by rw [h], fun e => (by rw [h] at e; cases e), fun _ => rfl⟩
theorem scR_yes {b : BookD} {t : List Lin} {D : Data} {v : Value} (h : scenesB b t = true) (hS : Sl D RSc 10 v (scs b t)) : ScsR b t D (.tuple #[v, .bool true]) := ⟨_, by rw [h], fun _ => hS, fun e => (by rw [h] at e; cases e)⟩
theorem sb_no {b : BookD} {t : List Lin} {k : Nat} (hk : k < t.length) (h : stepOk b t k = false) : scenesB b t = false := by
  unfold scenesB okK
  rw [Bool.and_eq_false_iff]
  right
  rw [Bool.eq_false_iff]
  intro e
  rw [List.all_eq_true] at e
  have := e k (List.mem_range.2 hk)
  rw [h] at this; cases this
theorem step_is {b : BookD} {t : List Lin} {k : Nat} {x z : Lin} (hx : t[k]? = some x) (hz : b.lines[k]? = some z) : stepOk b t k = ((readings b.chairs z).any (fun r => decide (x = r)) && canN (scK b t k) x) := by unfold stepOk; rw [hx, hz]
theorem nx_is {b : BookD} {t : List Lin} {k : Nat} {x : Lin} (hx : t[k]? = some x) : nextN b (scK b t k) k x = scK b t (k + 1) := by rw [scK, hx]
theorem sb_len {b : BookD} {t : List Lin} (h : t.length ≠ b.lines.length) : scenesB b t = false := by unfold scenesB; rw [decide_eq_false h]; rfl
theorem scenes_ok (bv tv : Value) (b : BookD) (t : List Lin) (D : Data) (hb : BookIs D bv b) (ht : Sl D RLin 3 tv t) (hbo : BOk b) : Fn Try.prog 32 #[bv, tv] D (fun D' v => ScsR b t D' v) := by
  have hb0 := hb
  obtain ⟨lv, cv, rfl, hl, hc⟩ := hb
  have htl := ht.len
  have hll := hl.len
  have hl8 := hbo.l8
  have hch := hbo.ch
  have hco := hbo.co
  have hbx := hbo.bx
  refine enter 53 Try.func32 rfl rfl rfl rfl fun h0 => ?_
  refine C.seq ?_
  refine C.region [(false,0),(false,1),(false,2)] rfl ?_
  refine L.boxD rfl rfl rfl rfl trivial (fun q1 E1 hE1 hB1 => ?_)
  refine L.assign rfl rfl rfl trivial ?_
  refine L.assign rfl rfl rfl trivial ?_
  refine L.nil ?_
  refine C.next ?_
  refine C.seq ?_
  refine C.seq ?_
  refine C.region [(false,0),(false,1),(false,2),(false,3),(false,4),(false,5)] rfl ?_
  refine L.move rfl rfl rfl trivial ?_
  refine L.len rfl Try.underlying37 rfl ht rfl rfl trivial ?_
  refine L.fieldAddr rfl Tf.f40_3 rfl rfl trivial ?_
  refine L.loadD1 rfl (k := 3) Tf.a37 rfl hB1 (by first | simp | assumption) rfl List.not_mem_nil rfl trivial ?_
  refine L.len rfl Try.underlying37 rfl hl rfl rfl trivial ?_
  refine L.neq rfl rfl rfl rfl trivial ?_
  refine L.nil ?_
  refine C.next ?_
  refine C.condD rfl (fun hc1 => ?_) (fun hc1 => ?_)
  · refine C.seq ?_
    refine C.region [(false,0),(false,1)] rfl ?_
    refine L.assign rfl rfl rfl trivial ?_
    refine L.assign rfl rfl rfl trivial ?_
    refine L.nil ?_
    refine C.next ?_
    refine C.ret ?_
    refine C.thenRet ?_
    exact leave (vs := [_, _]) rfl rfl rfl ⟨rfl, rfl, trivial⟩ (fun D hD => scR_no (sb_len (by omega)))
  · have hlen : t.length = b.lines.length := by omega
    refine C.skip ?_
    refine C.next ?_
    refine C.seq ?_
    have hs10 := scL_len (s := begin0 b) rfl rfl
    have hs11 := hs10
    refine C.region [(false,0),(false,1),(false,2),(false,3)] rfl ?_
    refine L.loadDW rfl Tf.a40 rfl hB1 (by first | simp | assumption) Tf.s40 List.not_mem_nil rfl trivial ?_
    refine L.callV rfl rfl rfl (fun D1 hD1 => begin_ok _ b _ (hb0.up (hD1 _ (by simp)))) rfl trivial ?_
    refine L.alloc rfl Tf.z80 rfl rfl trivial (fun q2 => ?_)
    refine L.storeW rfl rfl rfl rfl Tf.s80 (by simp [hs10]) (by first | rfl | simp [hs10]) .head (ints_cell1 _) trivial ?_
    refine L.nil ?_
    refine C.next ?_
    refine C.seq ?_
    refine C.region [(false,0),(false,1),(false,2)] rfl ?_
    refine L.loadBW (e := 80) (fz := (0, 0)) rfl Tf.a80 rfl (List.Mem.head _) (by rw [show (ints _).length = 10 by simp [hs10]]; exact Tf.s80) List.not_mem_nil rfl trivial ?_
    refine L.buildSliceO rfl Try.underlying90 Tf.s80 Tf.z80 rfl rfl rfl rfl (.cons rfl (by simpa using hs10) .nil) rfl trivial (fun b3 hacc => ?_)
    refine L.assign rfl rfl rfl trivial ?_
    refine L.nil ?_
    refine C.next ?_
    refine C.seq ?_
    refine C.seq ?_
    refine C.region [(false,0),(false,1),(false,2)] rfl ?_
    refine L.move rfl rfl rfl trivial ?_
    refine L.len rfl Try.underlying37 rfl ht rfl rfl trivial ?_
    refine L.move rfl rfl rfl trivial ?_
    refine L.nil ?_
    refine C.next ?_
    refine C.block ?_
    refine C.loopR (γ := Nat × Value × Boxes) (fun g => t.length - g.1) (fun g => g.1 ≤ t.length ∧ okK b t g.1 = true ∧ Acc 80 10 g.2.1 (g.1 + 1) (scsC b t g.1) g.2.2) (fun g => [(7, g.2.1), (23, .int .i64 (g.1 : Int))]) [(22, _), (21, _), (6, _), (5, _), (4, _), (2, _)] (fun g => g.2.2 ++ [(q2, .cells (ints (scL (scK b t g.1))).toArray 80 (0, 0))]) (fun g => [E1, D]) (0, _, [(b3, _)]) ⟨by simp, rfl, by simpa [scsC, flatSc, scK] using hacc⟩ ⟨(by first | rfl | (show some (Value.int _ _) = some (Value.int _ _); congr 2; omega)), (by first | rfl | (show some (Value.int _ _) = some (Value.int _ _); congr 2; omega)), trivial⟩ ⟨rfl, rfl, rfl, rfl, rfl, rfl, trivial⟩ (List.Sublist.refl _) (ds_same) ?_
    rintro ⟨k, v, ν⟩ ⟨h1, hok, ha⟩
    simp only at h1 hok ha
    have hsb := scK_ok hbo (t := t) k (by omega) trivial
    have hs10 := scL_len hsb.lc hsb.lt
    refine C.seq ?_
    refine C.region [(false,0)] rfl ?_
    refine L.lss rfl rfl rfl rfl trivial ?_
    refine L.nil ?_
    refine C.next ?_
    refine C.seq ?_
    refine C.condD rfl (fun hc2 => ?_) (fun hc2 => ?_)
    · simp only at hc2
      have hk : k < t.length := by omega
      have hk4 : k ≤ 100 := by omega
      obtain ⟨x, hx⟩ : ∃ x, t[k]? = some x := ⟨_, List.getElem?_eq_getElem hk⟩
      obtain ⟨z, hz⟩ : ∃ z, b.lines[k]? = some z := ⟨_, List.getElem?_eq_getElem (by omega)⟩
      have hnx := nx_is (b := b) hx
      have hs11 : (scL (if canN (scK b t k) x = true then nextN b (scK b t k) k x else scK b t k)).length = 10 := by split; rw [hnx]; exact scs_each hbo _; exact scs_each hbo _
      have hst := step_is hx hz
      refine C.skip ?_
      refine C.next ?_
      refine C.seq ?_
      refine C.block ?_
      refine C.seq ?_
      refine C.region [(false,0),(false,1),(false,2),(false,3),(false,4),(false,5)] rfl ?_
      refine L.move rfl rfl rfl trivial ?_
      refine L.indexS rfl Try.underlying37 Tf.s64 rfl ht rfl (by omega) hx rfl trivial (fun b1 o1 cs1 hr1 hcl1 hA1 => ?_)
      obtain rfl : cs1 = [.int .i64 _, .int .i64 _, .int .i64 _] := hr1
      refine L.loadDW rfl Tf.a64 rfl hA1 (by first | simp | assumption) Tf.s64 List.not_mem_nil rfl trivial ?_
      refine L.alloc rfl Tf.z64 rfl rfl trivial (fun q3 => ?_)
      refine L.assign rfl rfl rfl trivial ?_
      refine L.storeW rfl rfl rfl rfl Tf.s64 (by first | rfl | (simp only [ints_length, *]; done) | (simp only [ints_length, *]; rfl) | (simp only [ints_length, *]; omega)) (by first | rfl | (simp only [ints_length, *]; done) | (simp only [ints_length, *]; rfl) | (simp only [ints_length, *]; omega)) (Has.head) (by first | exact ints_cell1 _ | simp [cell1]) trivial ?_
      refine L.nil ?_
      refine C.next ?_
      refine C.seq ?_
      refine C.seq ?_
      refine C.draw [] 5 [0,1,2,3,4,5,6,7,8] [false,true,true,true,true,true,true,false,false] [(false,0),(true,1),(true,2),(true,3),(true,4),(true,5),(true,6),(false,7),(false,8)] Tf.follows (fun _ _ _ h => np_body (P := Try.prog) (fn := Try.f32) _ _ _ h) (by kernel_rfl) rfl ?_
      refine L.loadDW rfl Tf.a40 rfl hB1 (by first | simp | assumption) Tf.s40 List.not_mem_nil rfl trivial ?_
      refine L.fieldAddr rfl Tf.f40_3 rfl rfl trivial ?_
      refine L.loadD1 rfl (k := 3) Tf.a37 rfl hB1 (by first | simp | assumption) rfl List.not_mem_nil rfl trivial ?_
      refine L.move rfl rfl rfl trivial ?_
      refine L.indexS rfl Try.underlying37 Tf.s64 rfl hl rfl (by omega) hz rfl trivial (fun b2 o2 cs2 hr2 hcl2 hA2 => ?_)
      obtain rfl : cs2 = [.int .i64 _, .int .i64 _, .int .i64 _] := hr2
      refine L.loadDW rfl Tf.a64 rfl hA2 (by first | simp | assumption) Tf.s64 List.not_mem_nil rfl trivial ?_
      refine L.loadBW rfl Tf.a64 rfl (List.Mem.head _) Tf.s64 List.not_mem_nil rfl trivial ?_
      refine L.callV rfl rfl rfl (fun D2 hD2 => agrees_ok _ b z x _ (hb0.up (hD2 _ (by simp))) (by omega)) rfl trivial ?_
      refine L.not rfl rfl rfl trivial ?_
      refine L.nil ?_
      refine C.next ?_
      refine C.cond rfl (fun hc3 => ?_) (fun hc3 => ?_)
      · refine C.seq ?_
        refine C.region [(false,0),(false,1)] rfl ?_
        refine L.assign rfl rfl rfl trivial ?_
        refine L.assign rfl rfl rfl trivial ?_
        refine L.nil ?_
        refine C.next ?_
        refine C.ret ?_
        refine C.thenRet ?_
        refine C.blockRet ?_
        refine C.thenRet ?_
        refine C.thenRet ?_
        refine C.blockRet ?_
        refine C.thenRet ?_
        exact leave (vs := [_, _]) rfl rfl rfl ⟨rfl, rfl, trivial⟩ (fun D hD => scR_no (sb_no hk (by rw [hst, show (readings b.chairs z).any (fun r => decide (x = r)) = false by simpa using hc3]; rfl)))
      · have hag : (readings b.chairs z).any (fun r => decide (x = r)) = true := by simpa using hc3
        have hin := ag_in hbo hz hag
        refine C.skip ?_
        refine C.next ?_
        refine C.seq ?_
        refine C.region [(false,0)] rfl ?_
        refine L.assign rfl rfl rfl trivial ?_
        refine L.nil ?_
        refine C.next ?_
        refine C.seq ?_
        refine C.seq ?_
        refine C.region [(false,0),(false,1),(false,2),(false,3),(false,4),(false,5),(false,6),(false,7),(false,8),(false,9)] rfl ?_
        refine L.loadDW rfl Tf.a40 rfl hB1 (by first | simp | assumption) Tf.s40 List.not_mem_nil rfl trivial ?_
        refine L.loadBW (e := 80) (fz := (0, 0)) rfl Tf.a80 rfl (List.Mem.tail _ (List.mem_append_right _ (List.Mem.head _))) (by rw [show (ints _).length = 10 by simp [hs10]]; exact Tf.s80) List.not_mem_nil rfl trivial ?_
        refine L.move rfl rfl rfl trivial ?_
        refine L.loadBW rfl Tf.a64 rfl (List.Mem.head _) Tf.s64 List.not_mem_nil rfl trivial ?_
        refine L.callV rfl rfl rfl (fun D3 hD3 => next_ok _ b (scK b t k) k x _ (hb0.up (hD3 _ (by simp))) hsb.lc hsb.lt (by have := hin.2; omega) (by have := hin.2; omega) (by omega) (by have := hsb.mo; omega) (by have := hsb.mi; omega) (by omega)) rfl trivial ?_
        refine L.move rfl rfl rfl trivial ?_
        refine L.extract rfl rfl rfl rfl trivial ?_
        refine L.extract rfl rfl rfl rfl trivial ?_
        refine L.storeW rfl rfl rfl rfl Tf.s80 (by simp [hs11]) (by first | rfl | simp [hs10]) (.tail (.app .head)) (ints_cell1 _) trivial ?_
        refine L.assign rfl rfl rfl trivial ?_
        refine L.nil ?_
        refine C.next ?_
        refine C.seq ?_
        refine C.region [(false,0),(false,1)] rfl ?_
        refine L.move rfl rfl rfl trivial ?_
        refine L.not rfl rfl rfl trivial ?_
        refine L.nil ?_
        refine C.next ?_
        refine C.cond rfl (fun hc4 => ?_) (fun hc4 => ?_)
        · refine C.seq ?_
          refine C.region [(false,0),(false,1)] rfl ?_
          refine L.assign rfl rfl rfl trivial ?_
          refine L.assign rfl rfl rfl trivial ?_
          refine L.nil ?_
          refine C.next ?_
          refine C.ret ?_
          refine C.thenRet ?_
          refine C.blockRet ?_
          refine C.thenRet ?_
          refine C.thenRet ?_
          refine C.blockRet ?_
          refine C.thenRet ?_
          exact leave (vs := [_, _]) rfl rfl rfl ⟨rfl, rfl, trivial⟩ (fun D hD => scR_no (sb_no hk (by rw [hst, hag, show canN (scK b t k) x = false by simpa using hc4]; rfl)))
        · have hcan : canN (scK b t k) x = true := by simpa using hc4
          rw [if_pos hcan, hnx]
          have hok2 : okK b t (k + 1) = true := by rw [okK_succ, hok, hst, hag, hcan]; rfl
          refine C.skip ?_
          refine C.next ?_
          refine C.region [(false,0),(false,1),(false,2),(false,3),(false,4)] rfl ?_
          refine L.move rfl rfl rfl trivial ?_
          refine L.loadBW (e := 80) (fz := (0, 0)) rfl Tf.a80 rfl (List.Mem.tail _ (List.mem_append_right _ (List.Mem.head _))) (by rw [show (ints _).length = 10 by simp [scs_each hbo]]; exact Tf.s80) List.not_mem_nil rfl trivial ?_
          refine L.buildSlice rfl Try.underlying90 Tf.s80 Tf.z80 rfl rfl rfl rfl (.cons rfl (by simp [scs_each hbo]) .nil) rfl trivial (fun b901 D901 hD901 hA901 => ?_)
          refine L.append (A := [(_, _)]) (B := _) rfl Try.underlying90 rfl rfl Tf.s80 Tf.z80 rfl Tf.i80 rfl rfl rfl ha (Src.lit hA901) (by simp) (by simp [scs_each hbo]) (scsC_len hbo k) (fun u hu => ints_cell1 _ u (by simpa using hu)) (by omega) (Or.inl rfl) rfl trivial (fun v7 ν7 ha7 => ?_)
          have hn7 : Acc 80 10 v7 (k + 1 + 1) (scsC b t (k + 1)) ν7 := by rw [scsC_succ]; simpa using ha7
          refine L.assign rfl rfl rfl trivial ?_
          refine L.nil ?_
          refine C.blockEnd ?_
          refine C.next ?_
          refine C.region [(false,0),(false,1)] rfl ?_
          refine L.add rfl rfl rfl (by simp only [inK]; omega) rfl trivial ?_
          refine L.move rfl rfl rfl trivial ?_
          refine L.nil ?_
          exact C.againR 36 (k + 1, v7, ν7) ⟨by simp only; omega, hok2, hn7⟩ (by simp only; omega) ⟨(by first | rfl | (show some (Value.int _ _) = some (Value.int _ _); congr 2; omega)), (by first | rfl | (show some (Value.int _ _) = some (Value.int _ _); congr 2; omega)), trivial⟩ rfl rfl (List.Sublist.cons _ (List.Sublist.refl _)) (fun D h => ⟨D, List.Mem.tail _ (h), Le.refl D⟩)
    · obtain rfl : k = t.length := by simp only at hc2; omega
      refine C.exit ?_
      refine C.thenExit ?_
      refine C.thenExit ?_
      refine C.blockExit ?_
      refine C.next ?_
      refine C.seq ?_
      refine C.region [(false,0),(false,1),(false,2)] rfl ?_
      refine L.move rfl rfl rfl trivial ?_
      refine L.assign rfl rfl rfl trivial ?_
      refine L.assign rfl rfl rfl trivial ?_
      refine L.nil ?_
      refine C.next ?_
      refine C.ret ?_
      refine Q.freeze (A := []) (B := [(_, _)]) ha rfl (fun D2 hD2 hF => ?_)
      exact leave (vs := [_, _]) rfl rfl rfl ⟨rfl, rfl, trivial⟩ (fun D hD => scR_yes (by unfold scenesB; rw [decide_eq_true hlen, hok]; rfl) ((Froz.scs hF (by simp) (by omega) (fun s hs => by obtain ⟨j, _, rfl⟩ := List.mem_map.1 hs; exact scs_each hbo j)).up RSc.up (hD _ (by simp))))
end Go.Fs
namespace Go.Fs
open Go.Proofs
open C3
def playE (b : BookD) (t : List Lin) : Int := if fault b ≠ 0 then fault b else if scenesB b t = false then 2 else 0
def playM (b : BookD) (t : List Lin) : List Int := if playE b t = 0 then (scs b t).map fun s => s.money else []
def PlayR (b : BookD) (t : List Lin) (D : Data) (v : Value) : Prop := ∃ lv m, v = .tuple #[lv, .int .i64 m, .int .i64 (playE b t)] ∧ Sl D RI 1 lv (playM b t)
theorem plB_err {b : BookD} {t : List Lin} {D : Data} (h : fault b ≠ 0) : PlayR b t D (.tuple #[.slice none 0 0, .int .i64 0, .int .i64 (fault b)]) := by
  have e : playE b t = fault b := by unfold playE; rw [if_pos h]
  refine ⟨_, 0, by rw [e], ?_⟩
  unfold playM; rw [e, if_neg h]; exact Sl.nil
theorem plB_no {b : BookD} {t : List Lin} {D : Data} (h : fault b = 0) (h2 : scenesB b t = false) : PlayR b t D (.tuple #[.slice none 0 0, .int .i64 0, .int .i64 2]) := by
  have e : playE b t = 2 := by unfold playE; rw [if_neg (by omega), if_pos h2]
  refine ⟨_, 0, by rw [e], ?_⟩
  unfold playM; rw [e, if_neg (by omega)]; exact Sl.nil
theorem plB_yes {b : BookD} {t : List Lin} {D : Data} {v : Value} {m : Int} (h : fault b = 0) (h2 : scenesB b t = true) (hS : Sl D RI 1 v ((scs b t).map fun s => s.money)) : PlayR b t D (.tuple #[v, .int .i64 m, .int .i64 0]) := by
  have e : playE b t = 0 := by unfold playE; rw [if_neg (by omega), if_neg (by rw [h2]; simp)]
  refine ⟨_, m, by rw [e], ?_⟩
  unfold playM; rw [if_pos e]; exact hS
theorem scK_four (b : BookD) (t : List Lin) (j : Nat) : (scK b t j).ch.length = 4 ∧ (scK b t j).tk.length = 4 := by
  induction j with
  | zero => exact ⟨rfl, rfl⟩
  | succ j ih =>
    rw [scK]
    split
    · unfold nextN
      split <;> simp [ih.1, ih.2]
    · exact ih
theorem scs_in {b : BookD} {t : List Lin} {s : Sc} (h : s ∈ scs b t) : s.ch.length = 4 ∧ s.tk.length = 4 := by
  obtain ⟨j, _, rfl⟩ := List.mem_map.1 h
  exact scK_four b t j
theorem scs_len9 {b : BookD} {t : List Lin} (hb : BOk b) (h : scenesB b t = true) : (scs b t).length ≤ 9 := by
  unfold scenesB at h
  rw [Bool.and_eq_true, decide_eq_true_eq] at h
  have := hb.l8
  unfold scs; rw [List.length_map, List.length_range]; omega
theorem nd1 {q : Nat} {o : Obj} {ν C : Boxes} (h : (((q, o) :: (ν ++ C)).map fun p => p.1).Nodup) : q ∉ ν.ks := by
  rw [List.map_cons, List.nodup_cons, List.map_append] at h
  exact fun hm => h.1 (List.mem_append_left _ hm)
theorem Play_ok (bv tv : Value) (b : BookD) (t : List Lin) (D : Data) (hb : BookIs D bv b) (ht : Sl D RLin 3 tv t) : Fn Try.prog 12 #[bv, tv] D (fun D' v => PlayR b t D' v) := by
  have hb0 := hb
  obtain ⟨lv, cv, rfl, hl, hc⟩ := hb
  refine enter 41 Try.func12 rfl rfl rfl rfl fun h0 => ?_
  refine C.seq ?_
  refine C.region [(false,0),(false,1),(false,2),(false,3)] rfl ?_
  refine L.boxD rfl rfl rfl rfl trivial (fun q1 E1 hE1 hB1 => ?_)
  refine L.assign rfl rfl rfl trivial ?_
  refine L.assign rfl rfl rfl trivial ?_
  refine L.assign rfl rfl rfl trivial ?_
  refine L.nil ?_
  refine C.next ?_
  refine C.seq ?_
  refine C.seq ?_
  refine C.region [(false,0),(false,1),(false,2)] rfl ?_
  refine L.loadDW rfl Tf.a40 rfl hB1 (by first | simp | assumption) Tf.s40 List.not_mem_nil rfl trivial ?_
  refine L.callV rfl rfl rfl (fun D1 hD1 => CheckBook_ok _ b _ (hb0.up (hD1 _ (by simp)))) rfl trivial ?_
  refine L.assign rfl rfl rfl trivial ?_
  refine L.nil ?_
  refine C.next ?_
  refine C.seq ?_
  refine C.region [(false,0),(false,1)] rfl ?_
  refine L.move rfl rfl rfl trivial ?_
  refine L.neq rfl rfl rfl rfl trivial ?_
  refine L.nil ?_
  refine C.next ?_
  refine C.condD rfl (fun hc1 => ?_) (fun hc1 => ?_)
  · refine C.seq ?_
    refine C.region [(false,0),(false,1),(false,2),(false,3)] rfl ?_
    refine L.move rfl rfl rfl trivial ?_
    refine L.assign rfl rfl rfl trivial ?_
    refine L.assign rfl rfl rfl trivial ?_
    refine L.assign rfl rfl rfl trivial ?_
    refine L.nil ?_
    refine C.next ?_
    refine C.ret ?_
    refine C.thenRet ?_
    exact leave (vs := [_, _, _]) rfl rfl rfl ⟨rfl, rfl, rfl, trivial⟩ (fun D hD => plB_err hc1)
  · have hf0 : fault b = 0 := by omega
    have hbo := bOk hf0
    refine C.skip ?_
    refine C.next ?_
    refine C.seq ?_
    refine C.region [(false,0),(false,1),(false,2),(false,3),(false,4),(false,5),(false,6),(false,7)] rfl ?_
    refine L.loadDW rfl Tf.a40 rfl hB1 (by first | simp | assumption) Tf.s40 List.not_mem_nil rfl trivial ?_
    refine L.move rfl rfl rfl trivial ?_
    refine L.call rfl rfl rfl (fun D2 hD2 => scenes_ok _ _ b t _ (hb0.up (hD2 _ (by simp))) (ht.up RLin.up (hD2 _ (by simp))) hbo) rfl trivial (fun v2 D2 hD2 hp2 => ?_)
    obtain ⟨sv, rfl, hsv, hsn⟩ := hp2
    refine L.move rfl rfl rfl trivial ?_
    refine L.extract rfl rfl rfl rfl trivial ?_
    refine L.extract rfl rfl rfl rfl trivial ?_
    refine L.assign rfl rfl rfl trivial ?_
    refine L.assign rfl rfl rfl trivial ?_
    refine L.nil ?_
    refine C.next ?_
    refine C.seq ?_
    refine C.seq ?_
    refine C.region [(false,0),(false,1)] rfl ?_
    refine L.move rfl rfl rfl trivial ?_
    refine L.not rfl rfl rfl trivial ?_
    refine L.nil ?_
    refine C.next ?_
    refine C.cond rfl (fun hc2 => ?_) (fun hc2 => ?_)
    · refine C.seq ?_
      refine C.region [(false,0),(false,1),(false,2)] rfl ?_
      refine L.assign rfl rfl rfl trivial ?_
      refine L.assign rfl rfl rfl trivial ?_
      refine L.assign rfl rfl rfl trivial ?_
      refine L.nil ?_
      refine C.next ?_
      refine C.ret ?_
      refine C.thenRet ?_
      exact leave (vs := [_, _, _]) rfl rfl rfl ⟨rfl, rfl, rfl, trivial⟩ (fun D hD => plB_no hf0 (by simpa using hc2))
    · have hsb : scenesB b t = true := by simpa using hc2
      have hs := hsv hsb
      have hsl := hs.len
      have hs9 := scs_len9 hbo hsb
      refine C.skip ?_
      refine C.next ?_
      refine C.seq ?_
      refine C.seq ?_
      refine C.region [(false,0),(false,1),(false,2)] rfl ?_
      refine L.move rfl rfl rfl trivial ?_
      refine L.len rfl Try.underlying90 rfl hs rfl rfl trivial ?_
      refine L.move rfl rfl rfl trivial ?_
      refine L.nil ?_
      refine C.next ?_
      refine C.block ?_
      refine C.loopR (γ := Nat × Value × Boxes × Int) (fun g => (scs b t).length - g.1) (fun g => g.1 ≤ (scs b t).length ∧ Acc 3 1 g.2.1 g.1 (ints (((scs b t).take g.1).map fun s => s.money)) g.2.2.1) (fun g => [(4, g.2.1), (5, .int .i64 g.2.2.2), (27, .int .i64 (g.1 : Int))]) [(26, _), (25, _), (6, _)] (fun g => g.2.2.1 ++ []) (fun g => [D2, E1, D]) (0, .slice none 0 0, [], 0) ⟨by simp, by simpa [ints] using Acc.nil⟩ ⟨(by first | rfl | (show some (Value.int _ _) = some (Value.int _ _); congr 2; omega)), (by first | rfl | (show some (Value.int _ _) = some (Value.int _ _); congr 2; omega)), (by first | rfl | (show some (Value.int _ _) = some (Value.int _ _); congr 2; omega)), trivial⟩ ⟨rfl, rfl, rfl, trivial⟩ (List.Sublist.refl _) (ds_same) ?_
      rintro ⟨k, v, ν, m⟩ ⟨h1, ha⟩
      simp only at h1 ha
      refine C.seq ?_
      refine C.region [(false,0)] rfl ?_
      refine L.lss rfl rfl rfl rfl trivial ?_
      refine L.nil ?_
      refine C.next ?_
      refine C.seq ?_
      refine C.condD rfl (fun hc3 => ?_) (fun hc3 => ?_)
      · simp only at hc3
        obtain ⟨x, hx⟩ : ∃ x, (scs b t)[k]? = some x := ⟨_, List.getElem?_eq_getElem (by omega)⟩
        obtain ⟨hx4, hx5⟩ := scs_in (b := b) (List.mem_of_getElem? hx)
        have hx10 := scL_len hx4 hx5
        refine C.skip ?_
        refine C.next ?_
        refine C.seq ?_
        refine C.block ?_
        refine C.seq ?_
        refine C.region [(false,0),(false,1),(false,2),(false,3)] rfl ?_
        refine L.indexS rfl Try.underlying90 Tf.s80 rfl hs rfl (by omega) hx rfl trivial (fun b1 o1 cs1 hr1 hcl1 hA1 => ?_)
        obtain rfl : cs1 = ints (scL _) := hr1
        refine L.loadDW rfl Tf.a80 rfl hA1 (by first | assumption | simp) (by rw [show (ints _).length = 10 by simp [hx10]]; exact Tf.s80) List.not_mem_nil rfl trivial ?_
        refine L.alloc rfl Tf.z80 rfl rfl trivial (fun q2 => ?_)
        refine L.storeW rfl rfl rfl rfl Tf.s80 (by simp [hx10]) (by rfl) .head (ints_cell1 _) trivial ?_
        refine L.nil ?_
        refine C.next ?_
        refine C.nd (fun hnd => ?_)
        have hqn := nd1 hnd
        refine C.draw (ν.ks) 1 [0,1,2,5,6,3,4,7,8] [false,true,true,true,true,true,true,true,false] [(false,0),(true,1),(true,2),(true,5),(true,6),(true,3),(true,4),(true,7),(false,8)] Tf.follows (fun _ _ _ h => np_body (P := Try.prog) (fn := Try.f12) _ _ _ h) (by kernel_rfl) rfl ?_
        refine L.move rfl rfl rfl trivial ?_
        refine L.fieldAddr rfl Tf.f80_2 rfl rfl trivial ?_
        refine L.loadB1 (v := .int .i64 x.money) rfl Tf.a3 rfl (List.Mem.head _) (ints_get (sc_money hx4 hx5)) hqn rfl trivial ?_
        refine L.fieldAddr rfl Tf.f80_3 rfl rfl trivial ?_
        refine L.loadB1 (v := .int .i64 x.mixed) rfl Tf.a3 rfl (List.Mem.head _) (ints_get (sc_mixed hx4 hx5)) hqn rfl trivial ?_
        refine L.buildSlice rfl Try.underlying33 Tf.s3 Tf.z3 rfl rfl rfl rfl (.cons rfl rfl .nil) rfl trivial (fun b901 D901 hD901 hA901 => ?_)
        have hS901 := Sl.ofInts (l := [_]) (n := 1) (cap := 1) hA901 rfl (by omega) (by omega)
        refine L.append (A := [(_, _)]) (B := []) rfl Try.underlying33 rfl rfl Tf.s3 Tf.z3 rfl Tf.i3 rfl rfl rfl ha (Src.lit hA901) (by simp) rfl (by simp; omega) (by simp [cell1]) (by omega) (Or.inr (fun p hp => List.mem_map.2 ⟨p, hp, rfl⟩)) rfl trivial (fun v7 ν7 ha7 => ?_)
        have hn7 : Acc 3 1 v7 (k + 1) (ints (((scs b t).take (k + 1)).map fun s => s.money)) ν7 := by rw [List.take_add_one, hx, Option.toList_some, List.map_append, List.map_singleton, ← ints_append]; exact ha7
        refine L.assign rfl rfl rfl trivial ?_
        refine L.assign rfl rfl rfl trivial ?_
        refine L.nil ?_
        refine C.blockEnd ?_
        refine C.next ?_
        refine C.region [(false,0),(false,1)] rfl ?_
        refine L.add rfl rfl rfl (by simp only [inK]; omega) rfl trivial ?_
        refine L.move rfl rfl rfl trivial ?_
        refine L.nil ?_
        exact C.againR 18 (k + 1, v7, ν7, x.mixed) ⟨by simp only; omega, hn7⟩ (by simp only; omega) ⟨(by first | rfl | (show some (Value.int _ _) = some (Value.int _ _); congr 2; omega)), (by first | rfl | (show some (Value.int _ _) = some (Value.int _ _); congr 2; omega)), (by first | rfl | (show some (Value.int _ _) = some (Value.int _ _); congr 2; omega)), trivial⟩ rfl rfl (List.Sublist.cons _ (List.Sublist.refl _)) (fun D h => ⟨D, List.Mem.tail _ (h), Le.refl D⟩)
      · obtain rfl : k = (scs b t).length := by simp only at hc3; omega
        rw [List.take_length] at ha
        refine C.exit ?_
        refine C.thenExit ?_
        refine C.thenExit ?_
        refine C.blockExit ?_
        refine C.next ?_
        refine C.seq ?_
        refine C.region [(false,0),(false,1),(false,2),(false,3),(false,4)] rfl ?_
        refine L.move rfl rfl rfl trivial ?_
        refine L.move rfl rfl rfl trivial ?_
        refine L.assign rfl rfl rfl trivial ?_
        refine L.assign rfl rfl rfl trivial ?_
        refine L.assign rfl rfl rfl trivial ?_
        refine L.nil ?_
        refine C.next ?_
        refine C.ret ?_
        refine Q.freeze (A := []) (B := []) ha rfl (fun D2 hD2 hF => ?_)
        exact leave (vs := [_, _, _]) rfl rfl rfl ⟨rfl, rfl, rfl, trivial⟩ (fun D hD => plB_yes hf0 hsb ((hF.ints (by simp) (by omega)).up RI.up (hD _ (by simp))))
end Go.Fs
namespace Go.Fs
variable {P : Program} {X : Cx} {γb : Type} [Membership Nat γb] {bad : γb} {all : Array Oper} {K : Act → World → Prop} {Q : Exit → Act → World → Prop}
variable {σ : Slots} {μ : Boxes} {Ds : List Data} {os : List (Bool × Nat)} {fl : Bool} {ix : Nat}
variable {d : Nat} {x y z : Operand} {u v : Value} {ty : TypeId} {pos : String} {aft : Array Edge} {g : Option (Nat × Bool)}
/-! ### A number and two arrays of numbers -/
theorem arr_chk {em : Bool} {t e : TypeId} {n : Nat} (t1 : P.underlying t = some (.array n e)) (te : P.underlying e = some (.int .i64)) (hse : TS P e 1) {r : List Int} (hr : r.length = n) (w : World) : (Instr.checkKey em (9998 + 1) t (.agg (ints r).toArray)).run P w = .ok () w := by
  have ce : ∀ m : Int, (Instr.checkKey em (9997 + 1) e (.int .i64 m)).run P w = .ok () w := fun m => by
    rw [Instr.checkKey, Sem.run_bind, TU.of te w]; rfl
  rw [Instr.checkKey, Sem.run_bind, TU.of t1 w]
  simp only [Result.andThen_ok]
  rw [Std.Legacy.Range.forIn_eq_forIn_range']
  have key : ∀ (is : List Nat), (∀ i ∈ is, i < n) → ((forIn is PUnit.unit fun i _ => do Instr.checkKey em 9998 e (← part e (ints r).toArray (i * (← sizeOf e))); Pure.pure (ForInStep.yield PUnit.unit) : Sem PUnit)).run P w = .ok PUnit.unit w := by
    intro is
    induction is with
    | nil => intro _; rfl
    | cons i is ih =>
      intro hi
      have hlt := hi i List.mem_cons_self
      have g1 : (ints r).toArray[i * 1]? = some (.int .i64 r[i]) := by rw [Nat.mul_one]; simpa using ints_get (List.getElem?_eq_getElem (show i < r.length by omega))
      rw [List.forIn_cons]
      simp only [Sem.run_bind, hse w, Result.andThen_ok, run_part_int te g1]
      rw [ce]
      simp only [Result.andThen_ok, Sem.run_pure]
      exact ih fun j hj => hi j (List.mem_cons_of_mem _ hj)
  have := key (List.range' 0 n) (fun i hi => by simpa using hi)
  simpa using this
/-- The key's type: a number, then two arrays of n numbers. -/
def KM (P : Program) (k : TypeId) (n : Nat) : Prop := ∃ f0 f1 f2 e, P.underlying k = some (.struct (P.fieldsOf k)) ∧ P.fieldsOf k = #[f0, f1, f2] ∧ f0.name ≠ "_" ∧ f1.name ≠ "_" ∧ f2.name ≠ "_" ∧ f0.offset = 0 ∧ f1.offset = 1 ∧ f2.offset = n + 1 ∧
  P.underlying f0.type = some (.int .i64) ∧ P.underlying f1.type = some (.array n e) ∧ P.underlying f2.type = some (.array n e) ∧ P.underlying e = some (.int .i64) ∧ TA P f1.type true ∧ TS P f1.type n ∧ TA P f2.type true ∧ TS P f2.type n ∧ TS P e 1
theorem KM.key {k : TypeId} {n : Nat} (h : KM P k n) (hks : KS P k (n + n + 1)) : KeyT P k (kaV (n := n + n + 1)) := by
  obtain ⟨f0, f1, f2, e, hu, hf, n0, n1, n2, o0, o1, o2, t0, t1, t2, te, a1, s1, a2, s2, hse⟩ := h
  refine ⟨⟨_, hu⟩, fun a b w => ?_, fun em a w => ?_, fun a => ?_, fun a => ⟨_, rfl⟩⟩
  · have := run_equal_s (P := P) hks a.h b.h w
    show (Op.equal k (.agg (ints a.l).toArray) (.agg (ints b.l).toArray)).run P w = _
    rw [this]
    congr 1
    obtain ⟨la, ha⟩ := a
    obtain ⟨lb, hb⟩ := b
    rw [Bool.eq_iff_iff]
    simp
  · have hl := a.h
    have c0 : ∀ x : Int, (Instr.checkKey em (9998 + 1) f0.type (.int .i64 x)).run P w = .ok () w := fun x => by
      rw [Instr.checkKey, Sem.run_bind, TU.of t0 w]; rfl
    obtain ⟨x, hx⟩ : ∃ x, a.l[0]? = some x := ⟨_, List.getElem?_eq_getElem (by omega)⟩
    have p0 : (part f0.type (ints a.l).toArray f0.offset).run P w = .ok (.int .i64 x) w := run_part_int t0 (by rw [o0]; simpa using ints_get hx) w
    have p1 : (part f1.type (ints a.l).toArray f1.offset).run P w = .ok (.agg (ints ((a.l.drop 1).take n)).toArray) w := by rw [o1]; exact part_ints a1 s1 (by omega) w
    have p2 : (part f2.type (ints a.l).toArray f2.offset).run P w = .ok (.agg (ints ((a.l.drop (n + 1)).take n)).toArray) w := by rw [o2]; exact part_ints a2 s2 (by omega) w
    have c1 := arr_chk (em := em) t1 te hse (r := (a.l.drop 1).take n) (by rw [List.length_take, List.length_drop]; omega) w
    have c2 := arr_chk (em := em) t2 te hse (r := (a.l.drop (n + 1)).take n) (by rw [List.length_take, List.length_drop]; omega) w
    show (Instr.checkKey em (9999 + 1) k (.agg (ints a.l).toArray)).run P w = _
    rw [Instr.checkKey, Sem.run_bind, TU.of hu w]
    simp only [Result.andThen_ok]
    rw [hf, ← Array.forIn_toList]
    simp only [List.forIn_cons, List.forIn_nil, n0, n1, n2, ne_eq, not_false_eq_true, if_true, Sem.run_bind, p0, Result.andThen_ok, Sem.run_pure]
    rw [c0]
    simp only [Result.andThen_ok, Sem.run_pure, Sem.run_bind, p1]
    rw [c1]
    simp only [Result.andThen_ok, Sem.run_pure, Sem.run_bind, p2]
    rw [c2]
    simp [Sem.run_pure, Result.andThen_ok]
  · show Instr.sameBits (9999 + 1) (.agg (ints a.l).toArray) (.agg (ints a.l).toArray) = true
    simp only [Instr.sameBits, beq_self_eq_true, Bool.true_and, List.all_eq_true]
    rintro ⟨p, q⟩ hpq
    obtain ⟨i, hi⟩ := List.mem_iff_getElem?.1 hpq
    rw [List.getElem?_zip_eq_some] at hi
    obtain ⟨h1, h2⟩ := hi
    simp only at h1 h2
    rw [h1] at h2
    obtain rfl := Option.some.inj h2
    have : p ∈ ints a.l := List.mem_of_getElem? (by simpa using h1)
    obtain ⟨m, _, rfl⟩ := List.mem_map.1 this
    simp [Instr.sameBits]
variable {α β : Type} [DecidableEq α] {val : α → Value} {wal : β → Value}
def MapV (val : α → Value) (wal : β → Value) (es : Array MapEntry) (M : List (α × β)) : Prop := es.toList.map (fun e => (e.key, e.val)) = M.map fun x => (val x.1, wal x.2)
def posV (a : α) : List (α × β) → Nat → Option (Nat × β)
  | [], _ => none
  | (b, n) :: M, i => if a = b then some (i, n) else posV a M (i + 1)
theorem posV_some {a : α} : ∀ {M : List (α × β)} {i j : Nat} {n : β}, posV a M i = some (j, n) → ∃ k, j = i + k ∧ M[k]? = some (a, n)
  | (b, m) :: M, i, j, n, h => by
    simp only [posV] at h
    split at h
    · rename_i he; cases h; exact ⟨0, rfl, by rw [he]; rfl⟩
    · obtain ⟨k, rfl, hk⟩ := posV_some h
      exact ⟨k + 1, by omega, by simpa using hk⟩
theorem run_findAsking_V {k : TypeId} (h : KeyT P k val) (a : α) (w : World) : ∀ (es : List MapEntry) (M : List (α × β)) (i : Nat), es.map (fun e => (e.key, e.val)) = M.map (fun x => (val x.1, wal x.2)) →
    (Instr.findAsking k (val a) es i).run P w = .ok ((posV a M i).map fun p => (p.1, wal p.2)) w
  | [], [], i, _ => rfl
  | [], _ :: _, i, hm => by simp at hm
  | e :: es, [], i, hm => by simp at hm
  | e :: es, (b, n) :: M, i, hm => by
    simp only [List.map_cons, List.cons.injEq, Prod.mk.injEq] at hm
    obtain ⟨⟨hk, hv⟩, hm⟩ := hm
    simp only [Instr.findAsking, Sem.run_bind, hk, h.eq, Result.andThen_ok, posV]
    by_cases he : a = b
    · subst he
      simp only [decide_true, if_true, Sem.run_pure, hv]; rfl
    · simp only [he, decide_false, Bool.false_eq_true, if_false]
      exact run_findAsking_V h a w es M (i + 1) hm
theorem run_findKey_V {k : TypeId} (h : KeyT P k val) (a : α) (w : World) {es : List MapEntry} {M : List (α × β)} (hm : es.map (fun e => (e.key, e.val)) = M.map (fun x => (val x.1, wal x.2))) :
    (Instr.findKey k (val a) es).run P w = .ok ((posV a M 0).map fun p => (p.1, wal p.2)) w := by
  obtain ⟨fs, hu⟩ := h.und
  unfold Instr.findKey
  rw [Sem.run_bind, TU.of hu w]
  cases es with
  | nil =>
    cases M with
    | nil => rfl
    | cons x M => simp at hm
  | cons e es =>
    have hn : Instr.findNow (.struct fs) (val a) (e :: es) 0 = none := by
      obtain ⟨cs, hc⟩ := h.agg a
      rw [hc]; rfl
    simp only [Result.andThen_ok, hn]
    exact run_findAsking_V h a w (e :: es) M 0 hm
/-- A value is looked up. -/
theorem L.lookupV {t k e : TypeId} {b clock : Nat} {es : Array MapEntry} {M : List (α × β)} {a : α} (ho : all[ix]? = some ⟨some d, .lookup t x y true, ty, pos, aft, g⟩) (ht : P.underlying t = some (.map k e)) (hk : KeyT P k val) {z0 : Value} (hz : TZ P e z0)
    (hx : ev σ x = some (.map (some b))) (hy : ev σ y = some (val a)) (hm : (b, Obj.map es clock) ∈ μ) (hb : b ∉ bad) (hM : MapV val wal es M) (hN : Nat.blt d X.N = true) (hg : Gok all σ g)
    (kk : ∀ n ok, (ok = true → ∃ r, n = wal r ∧ (a, r) ∈ M) → (ok = false → n = z0) → WL P X bad all K Q os ((d, .tuple #[n, .bool ok]) :: σ) μ Ds) : WL P X bad all K Q ((fl, ix) :: os) σ μ Ds := by
  have run : ∀ w, w.heap[b]? = some (Obj.map es clock) → (Instr.lookup t (.map (some b)) (val a) true).run P w = .ok (.tuple #[(match posV a M 0 with | some (_, v) => wal v | none => z0), .bool (posV a M 0).isSome]) w := by
    intro w hw
    have hf := run_findKey_V hk a w hM
    unfold Instr.lookup
    simp only [Sem.run_bind, TU.of ht w, Result.andThen_ok, run_getObj hw, Sem.run_pure, hk.chk]
    rw [hf]
    cases posV a M 0 with
    | none => simp only [Option.map_none, Result.andThen_ok, Sem.run_bind, hz w, Sem.run_pure]; rfl
    | some r => obtain ⟨j, v⟩ := r; simp only [Option.map_some, Result.andThen_ok]; rfl
  refine L.quiet ho rfl rfl hN hg (fun a' w hh w' hk' => ?_) (kk (match posV a M 0 with | some (_, v) => wal v | none => z0) (posV a M 0).isSome (fun hok => ?_) fun hok => ?_)
  · simp only [execOp, hh.eval hx, hh.eval hy, Sem.run_bind, run w' (hh.boxAt hm hb hk'), Result.andThen_ok, Sem.run_pure]
  · cases hp : posV a M 0 with
    | none => rw [hp] at hok; cases hok
    | some r =>
      obtain ⟨j, n⟩ := r
      obtain ⟨i, _, hi⟩ := posV_some hp
      exact ⟨n, rfl, List.mem_of_getElem? hi⟩
  · cases hp : posV a M 0 with
    | none => rfl
    | some r => rw [hp] at hok; cases hok
/-- A value is set. -/
theorem L.updateV {t k e : TypeId} {b clock : Nat} {es : Array MapEntry} {M : List (α × β)} {a : α} {n : β} {A B : Boxes} (ho : all[ix]? = some ⟨none, .mapUpdate t x y z, ty, pos, aft, g⟩) (ht : P.underlying t = some (.map k e)) (hk : KeyT P k val)
    (hx : ev σ x = some (.map (some b))) (hy : ev σ y = some (val a)) (hz : ev σ z = some (wal n)) (hM : MapV val wal es M) (hg : Gok all σ g)
    (kk : ∀ es' clock' M', MapV val wal es' M' → (∀ p ∈ M', p ∈ M ∨ p = (a, n)) → WL P X bad all K Q os σ (A ++ (b, .map es' clock') :: B) Ds) : WL P X bad all K Q ((false, ix) :: os) σ (A ++ (b, .map es clock) :: B) Ds := by
  refine L.loud ho rfl rfl hg fun a' w hh => ?_
  obtain ⟨h1, h2, h3, D, h4, h5, h6⟩ := id hh
  have hw := (h4.box (b, .map es clock) (by simp)).1
  have run : ∃ es' clock' M', MapV val wal es' M' ∧ (∀ p ∈ M', p ∈ M ∨ p = (a, n)) ∧ (Instr.mapUpdate t (.map (some b)) (val a) (wal n)).run P w = .ok () { w with heap := w.heap.setIfInBounds b (.map es' clock') } := by
    have hf := run_findKey_V hk a w hM
    have hset : ∀ o, (setObj b o).run P w = .ok () { w with heap := w.heap.setIfInBounds b o } := fun o => by simp [setObj, Sem.run, hw]
    cases hp : posV a M 0 with
    | none =>
      refine ⟨es.push { key := val a, val := wal n, born := clock }, clock + 1, M ++ [(a, n)], ?_, fun p hp => by simpa using hp, ?_⟩
      · unfold MapV at hM ⊢
        rw [Array.toList_push, List.map_append, List.map_append, hM]; rfl
      · unfold Instr.mapUpdate
        simp only [Sem.run_bind, TU.of ht w, Result.andThen_ok, run_getObj hw, hk.chk]
        rw [hf, hp]
        simp only [Option.map_none, Result.andThen_ok, hset]
    | some r =>
      obtain ⟨j, m⟩ := r
      obtain ⟨i, hi0, hi⟩ := posV_some hp
      rw [Nat.zero_add] at hi0; subst hi0
      have hMi : ∀ i, (es.toList[i]?).map (fun e : MapEntry => (e.key, e.val)) = (M[i]?).map (fun x : α × β => (val x.1, wal x.2)) := fun i => by rw [← List.getElem?_map, ← List.getElem?_map, hM]
      have hj := hMi j
      rw [hi] at hj
      obtain ⟨e0, he0, hke⟩ := Option.map_eq_some_iff.1 hj
      simp only [Prod.mk.injEq] at hke
      have he0' : es[j]? = some e0 := by simpa using he0
      refine ⟨es.modify j fun e => { e with key := val a, val := wal n }, clock, M.set j (a, n), ?_, fun p hp => (List.mem_or_eq_of_mem_set hp), ?_⟩
      · unfold MapV
        apply List.ext_getElem?
        intro q
        rw [List.getElem?_map, List.getElem?_map, Array.getElem?_toList, Array.getElem?_modify, List.getElem?_set]
        have hq := hMi q
        rw [Array.getElem?_toList] at hq
        by_cases hjq : j = q
        · subst hjq
          have hlt := (List.getElem?_eq_some_iff.1 hi).1
          simp [he0', hlt]
        · simp only [hjq, if_false]; exact hq
      · have hks : (Instr.keyThatStays (val a) (val a)).run P w = .ok (val a) w := by
          have : Instr.sameBits 10000 (val a) (val a) = true := hk.stay a
          unfold Instr.keyThatStays
          rw [if_pos this, Sem.run_pure]
        unfold Instr.mapUpdate
        simp only [Sem.run_bind, TU.of ht w, Result.andThen_ok, run_getObj hw, hk.chk]
        rw [hf, hp]
        simp only [Option.map_some, Result.andThen_ok, he0', Option.getD_some, hke.1, Sem.run_bind, hks, hset]
  obtain ⟨es', clock', M', hM', hmem, hr⟩ := run
  have hHas : Has (A ++ (b, Obj.map es clock) :: B) b (.map es clock) (.map es' clock') (A ++ (b, .map es' clock') :: B) := .app .head
  have hs := h4.set (w' := { w with heap := w.heap.setIfInBounds b (.map es' clock') }) hHas ⟨rfl, rfl⟩ trivial
  have : (execOp a'.eval ⟨none, .mapUpdate t x y z, ty, pos, aft, g⟩).run P w = .ok .skip { w with heap := w.heap.setIfInBounds b (.map es' clock') } := by
    simp only [execOp, hh.eval hx, hh.eval hy, hh.eval hz, Sem.run_bind, hr, Result.andThen_ok, Sem.run_pure]
  rw [this]
  exact ⟨fun h => by simp at h, kk es' clock' M' hM' hmem _ _ ⟨h1, h2, h3, D, hs, h5, h6.step (fun _ p hp => Or.inl (by rw [← hHas.keys]; exact List.mem_map.2 ⟨p, hp, rfl⟩)) (fun _ => low_set ⟨rfl, rfl⟩ (List.mem_map.2 ⟨_, hHas.mem, rfl⟩)) hs.dom⟩⟩
end Go.Fs
namespace Go.Fs
open Go.Proofs
open C3
def mkK (l : List Int) (k : Nat) : List Int := (List.range 4).map fun j => if j < k then min (l.getD j 0) 1 else 0
theorem mkK_step {l : List Int} {k : Nat} {x : Int} (hx : l[k]? = some x) : (mkK l k).set k (min x 1) = mkK l (k + 1) := by
  apply List.ext_getElem?
  intro i
  unfold mkK
  rw [List.getElem?_set, List.getElem?_map, List.getElem?_map]
  simp only [List.length_map, List.length_range]
  by_cases hi : i < 4
  · rw [List.getElem?_range hi]
    simp only [Option.map_some]
    by_cases e : k = i
    · subst e
      rw [if_pos rfl, if_pos hi, if_pos (by omega), List.getD_eq_getElem?_getD, hx]; rfl
    · rw [if_neg e]
      by_cases h : i < k
      · rw [if_pos h, if_pos (by omega)]
      · rw [if_neg h, if_neg (by omega)]
  · rw [List.getElem?_eq_none (by simpa using hi)]
    by_cases e : k = i
    · subst e; rw [if_pos rfl, if_neg hi]; rfl
    · rw [if_neg e]; rfl
theorem mkK_all {l : List Int} (h : l.length = 4) : mkK l 4 = mask l := by
  obtain ⟨a, b, c, d, rfl⟩ := four h
  rfl
theorem out_ok (l : List Int) (D : Data) (h4 : l.length = 4) : Fn Try.prog 82 #[.agg (ints l).toArray] D (fun _ v => v = .agg (ints (mask l)).toArray) := by
  refine enter 17 Try.func82 rfl rfl rfl rfl fun h0 => ?_
  refine C.seq ?_
  refine C.region [(false,0),(false,1)] rfl ?_
  refine L.boxD rfl rfl rfl rfl trivial (fun q1 E1 hE1 hB1 => ?_)
  refine L.alloc rfl Tf.z78 rfl rfl trivial (fun q2 => ?_)
  refine L.nil ?_
  refine C.next ?_
  refine C.seq ?_
  refine C.seq ?_
  refine C.region [(false,0),(false,1)] rfl ?_
  refine L.loadDW rfl Tf.a78 rfl hB1 (by first | assumption | simp) (by rw [show (ints _).length = 4 by simp [h4]]; exact Tf.s78) List.not_mem_nil rfl trivial ?_
  refine L.move rfl rfl rfl trivial ?_
  refine L.nil ?_
  refine C.next ?_
  refine C.block ?_
  refine C.loopR (γ := Nat) (fun k => 4 - k) (fun k => k ≤ 4) (fun k => [(6, .int .i64 (k : Int))]) [(5, _), (2, _)] (fun k => [(q2, .cells (ints (mkK l k)).toArray 78 (0, 0))]) (fun k => [E1, D]) 0 (by omega) ⟨(by first | rfl | (show some (Value.int _ _) = some (Value.int _ _); congr 2; omega)), trivial⟩ ⟨rfl, rfl, trivial⟩ (List.Sublist.refl _) (ds_same) ?_
  rintro k h1
  refine C.seq ?_
  refine C.region [(false,0)] rfl ?_
  refine L.lss rfl rfl rfl rfl trivial ?_
  refine L.nil ?_
  refine C.next ?_
  refine C.seq ?_
  refine C.condD rfl (fun hc1 => ?_) (fun hc1 => ?_)
  · have hk : k < 4 := by omega
    obtain ⟨x, hx0⟩ : ∃ x, l[k]? = some x := ⟨_, List.getElem?_eq_getElem (by omega)⟩
    have hx : l[((k : Nat) : Int).toNat]? = some x := by simpa using hx0
    have hstep := mkK_step hx0
    refine C.skip ?_
    refine C.next ?_
    refine C.seq ?_
    refine C.block ?_
    refine C.seq ?_
    refine C.region [(false,0),(false,1),(false,2),(false,3)] rfl ?_
    refine L.move rfl rfl rfl trivial ?_
    refine L.indexV (l := l) rfl Try.underlying78 Tf.a3 Tf.s3 rfl rfl (by omega) (by omega) hx rfl trivial ?_
    refine L.assign rfl rfl rfl trivial ?_
    refine L.assign rfl rfl rfl trivial ?_
    refine L.nil ?_
    refine C.next ?_
    refine C.region [(false,0),(false,1),(false,2),(false,3),(false,4),(false,5)] rfl ?_
    refine L.move rfl rfl rfl trivial ?_
    refine L.move rfl rfl rfl trivial ?_
    refine L.buildSlice rfl Try.underlying33 Tf.s3 Tf.z3 rfl rfl rfl rfl (.cons rfl rfl (.cons rfl rfl .nil)) rfl trivial (fun b901 D901 hD901 hA901 => ?_)
    have hS901 := Sl.ofInts (l := [_, _]) (n := 2) (cap := 2) hA901 rfl (by omega) (by omega)
    refine L.callV rfl rfl rfl (fun D1 hD1 => tminimum_ok _ x [1] _ (hS901.up RI.up (hD1 _ (by simp)))) rfl trivial ?_
    refine L.indexA rfl Try.underlying78 Tf.s3 rfl rfl (by omega) (by omega) rfl trivial ?_
    refine L.storeF (k := k) rfl Tf.s3 (ptr_eq (by omega)) rfl .head (by simp [mkK]; omega) trivial ?_
    rw [show (mkK l k).set k (List.foldl min x [1]) = mkK l (k + 1) from hstep]
    refine L.nil ?_
    refine C.blockEnd ?_
    refine C.next ?_
    refine C.region [(false,0),(false,1)] rfl ?_
    refine L.add rfl rfl rfl (by simp only [inK]; omega) rfl trivial ?_
    refine L.move rfl rfl rfl trivial ?_
    refine L.nil ?_
    exact C.againR 13 (k + 1) (by omega) (by omega) ⟨(by first | rfl | (show some (Value.int _ _) = some (Value.int _ _); congr 2; omega)), trivial⟩ rfl rfl (List.Sublist.refl _) (fun D h => ⟨D, List.Mem.tail _ (h), Le.refl D⟩)
  · obtain rfl : k = 4 := by omega
    refine C.exit ?_
    refine C.thenExit ?_
    refine C.thenExit ?_
    refine C.blockExit ?_
    refine C.next ?_
    refine C.seq ?_
    refine C.region [(false,0),(false,1)] rfl ?_
    refine L.loadBW (e := 78) (fz := (0, 0)) rfl Tf.a78 rfl (List.Mem.head _) (by rw [show (ints _).length = 4 by simp [mkK]]; exact Tf.s78) List.not_mem_nil rfl trivial ?_
    refine L.storeW rfl rfl rfl rfl Tf.s78 (by simp [mkK]) (by simp [mkK]) .head (ints_cell1 _) trivial ?_
    refine L.nil ?_
    refine C.next ?_
    refine C.ret ?_
    exact leave (vs := [_]) rfl rfl rfl ⟨⟨_, _, _, rfl, (List.Mem.head _), Or.inr ⟨Tf.a78, (by rw [show (ints _).toArray.size = 4 by simp [mkK]]; exact Tf.s78), rfl⟩⟩, trivial⟩ (fun D hD => by show Value.agg _ = _; rw [mkK_all h4])
theorem ks_151 : KS Try.prog 151 9 := by
  have hf : (Try.prog.fieldsOf 151).toList = [(Try.prog.fieldsOf 151)[0]!, (Try.prog.fieldsOf 151)[1]!, (Try.prog.fieldsOf 151)[2]!] := by kernel_rfl
  refine ⟨by kernel_rfl, by kernel_rfl, by kernel_rfl, ?_⟩
  rw [hf]
  refine .cons (FldOk.int (by decide +kernel) (by kernel_rfl) (by kernel_rfl)) (.cons (n := 4) (FldOk.arr (e := 3) (by decide +kernel) (by kernel_rfl) (by kernel_rfl) (by kernel_rfl) (by kernel_rfl) ?_ ?_) (.cons (n := 4) (FldOk.arr (e := 3) (by decide +kernel) (by kernel_rfl) (by kernel_rfl) (by kernel_rfl) (by kernel_rfl) ?_ ?_) .nil))
  · rw [show ((Try.prog.fieldsOf 151)[1]!).type = 78 by kernel_rfl]; exact Tf.a78
  · rw [show ((Try.prog.fieldsOf 151)[1]!).type = 78 by kernel_rfl]; exact Tf.s78
  · rw [show ((Try.prog.fieldsOf 151)[2]!).type = 78 by kernel_rfl]; exact Tf.a78
  · rw [show ((Try.prog.fieldsOf 151)[2]!).type = 78 by kernel_rfl]; exact Tf.s78
theorem km_151 : KM Try.prog 151 4 := ⟨(Try.prog.fieldsOf 151)[0]!, (Try.prog.fieldsOf 151)[1]!, (Try.prog.fieldsOf 151)[2]!, 3, by kernel_rfl, by kernel_rfl, by decide +kernel, by decide +kernel, by decide +kernel, by kernel_rfl, by kernel_rfl, by kernel_rfl, by kernel_rfl, by kernel_rfl, by kernel_rfl, by kernel_rfl,
  by rw [show ((Try.prog.fieldsOf 151)[1]!).type = 78 by kernel_rfl]; exact Tf.a78, by rw [show ((Try.prog.fieldsOf 151)[1]!).type = 78 by kernel_rfl]; exact Tf.s78, by rw [show ((Try.prog.fieldsOf 151)[2]!).type = 78 by kernel_rfl]; exact Tf.a78, by rw [show ((Try.prog.fieldsOf 151)[2]!).type = 78 by kernel_rfl]; exact Tf.s78, Tf.s3⟩
theorem mokey : KeyT Try.prog 151 (kaV (n := 9)) := KM.key km_151 ks_151
end Go.Fs
