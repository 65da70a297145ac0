/- Of the proof of TopStand: V22. -/
import Derived.Test.YtjbdakpeheajgaaZTopStandK
namespace Go.Fs
open Go.Proofs
open C3
section
variable {P : Program} {X : Cx} {Q : Exit → Act → World → Prop} {σ : Slots} {μ : Boxes} {Ds : List Data}
theorem C.dropB {c : Code} {μ' : Boxes} (n : Nat) (he : μ.drop n = μ') (h : WC P X Q c σ μ' Ds) : WC P X Q c σ μ Ds := fun a w hh => by
  subst he; exact h a w (hh.dropBoxes n)
end
/-- The blocks of 'read', of the two lists' headers, and of the lists. -/
def readMu (bh bs bl bo blo bY br n : Nat) (c : List Sc) (cl : List Int) : Boxes := [(bh, .cells [.func (.func 64) #[] #[.pointer (some ⟨br, 0, none⟩), .pointer (some ⟨bs, 0, none⟩), .pointer (some ⟨bl, 0, none⟩), .pointer (some ⟨bY, 0, none⟩), .pointer (some ⟨bh, 0, none⟩)]].toArray 76 (0, 0)), (bs, .cells [.slice (some ⟨bo, 0, none⟩) (n + 1) (n + 1)].toArray 90 (0, 0)), (bl, .cells [.slice (some ⟨blo, 0, none⟩) n n].toArray 37 (0, 0)), (bo, .cells (flatSc c).toArray 80 (0, 0)), (blo, .cells (ints cl).toArray 64 (0, 0))]
theorem mem_bo {bh bs bl bo blo bY br n : Nat} {c : List Sc} {cl : List Int} : (bo, Obj.cells (flatSc c).toArray 80 (0, 0)) ∈ readMu bh bs bl bo blo bY br n c cl := List.Mem.tail _ (List.Mem.tail _ (List.Mem.tail _ (List.Mem.head _)))
def encT3 (n bo : Nat) (vs : List Value) : Prop := ∃ blo, vs = [.slice (some ⟨blo, 0, none⟩) n n, .slice (some ⟨bo, 0, none⟩) (n + 1) (n + 1)]
def YieldsU {α : Type} (P : Program) (Dr : Data) (lo l : Nat) (J Jx : List α → Inv) (xs : List α) (enc : Nat → List Value → Prop) (cells : α → List Value) : Prop := ∀ pre x β D w bo vs, (∃ r, xs = pre ++ x :: r) → Dom lo D w → J pre β D w → (∀ b ∈ β, b < w.heap.size) → Le Dr D → enc bo vs → Shown β D w bo (cells x) →
      YieldRuns P l vs w fun b D' w' => Dom lo D' w' ∧ High β D w D' w' ∧ (if b then J (pre ++ [x]) β D' w' else Jx (pre ++ [x]) β D' w')
def Len10 (c : List Sc) : Prop := ∀ s ∈ c, (scL s).length = 10
theorem Len10.set {c : List Sc} {s : Sc} (h : Len10 c) (hs : (scL s).length = 10) (i : Nat) : Len10 (c.set i s) := fun u hu => by
  rcases List.mem_or_eq_of_mem_set hu with hu | rfl
  · exact h u hu
  · exact hs
theorem fs_len {c : List Sc} (h : Len10 c) : (flatSc c).length = c.length * 10 := by
  induction c with
  | nil => rfl
  | cons u c ih =>
    have := ih fun s hs => h s (List.mem_cons_of_mem _ hs)
    rw [show flatSc (u :: c) = ints (scL u) ++ flatSc c from rfl, List.length_append, ints_length, h u List.mem_cons_self, this, List.length_cons]; omega
theorem fs_set {c : List Sc} (h : Len10 c) {i : Nat} {s : Sc} (hs : (scL s).length = 10) (hi : i < c.length) : (flatSc c).take (i * 10) ++ ints (scL s) ++ (flatSc c).drop (i * 10 + (ints (scL s)).length) = flatSc (c.set i s) := by
  rw [ints_length, hs]
  induction c generalizing i with
  | nil => simp at hi
  | cons u c ih =>
    have hu : (ints (scL u)).length = 10 := by rw [ints_length, h u List.mem_cons_self]
    have e : flatSc (u :: c) = ints (scL u) ++ flatSc c := rfl
    rw [e]
    cases i with
    | zero =>
      rw [List.set_cons_zero, show flatSc (s :: c) = ints (scL s) ++ flatSc c from rfl, Nat.zero_mul, List.take_zero, List.nil_append, Nat.zero_add, List.drop_append, List.drop_eq_nil_of_le (by omega), List.nil_append, hu]; simp
    | succ i =>
      rw [List.set_cons_succ, show flatSc (u :: c.set i s) = ints (scL u) ++ flatSc (c.set i s) from rfl, ← ih (fun t ht => h t (List.mem_cons_of_mem _ ht)) (by simpa using hi)]
      rw [List.take_append, List.take_of_length_le (by omega), hu, List.drop_append, List.drop_eq_nil_of_le (by omega), List.nil_append, hu, show (i + 1) * 10 - 10 = i * 10 by omega, show (i + 1) * 10 + 10 - 10 = i * 10 + 10 by omega]
      simp
def sc0 : Sc := ⟨[0, 0, 0, 0], [0, 0, 0, 0], 0, 0⟩
theorem fs_zero (n : Nat) : ints (List.replicate (n * 10) 0) = flatSc (List.replicate n sc0) := by
  induction n with
  | zero => rfl
  | succ n ih => rw [List.replicate_succ, show flatSc (sc0 :: List.replicate n sc0) = ints (scL sc0) ++ flatSc (List.replicate n sc0) from rfl, ← ih, show (n + 1) * 10 = 10 + n * 10 by omega, ← List.replicate_append_replicate, ints_append]; rfl
def wr (l : List Int) (k : Nat) (us : List Int) : List Int := l.take k ++ us ++ l.drop (k + us.length)
theorem wr_len {l us : List Int} {k : Nat} (h : k + us.length ≤ l.length) : (wr l k us).length = l.length := by unfold wr; simp; omega
theorem ints_wr {l us : List Int} {k : Nat} : (ints l).take k ++ ints us ++ (ints l).drop (k + (ints us).length) = ints (wr l k us) := by
  unfold wr ints; simp
def runS (b : BookD) (i : Nat) (s : Sc) : List (List Sc) := (runs b (b.lines.drop i) i s).map (·.2)
def brR (b : BookD) (i : Nat) (s : Sc) (z : Lin) (pre : List Sc) (k : Nat) : List (List Sc) := ((readings b.chairs z).take k).flatMap fun r => if canN s r = true then (runS b (i + 1) (nextN b s i r)).map (fun t => (pre ++ [s]) ++ t) else []
theorem runS_no {b : BookD} {i : Nat} {s : Sc} (h : countedB b s i = false) : runS b i s = [] := by
  unfold runS
  cases e : b.lines.drop i with
  | nil => unfold runs; rw [if_neg (by rw [h]; simp)]; rfl
  | cons l ls => unfold runs; rw [if_neg (by rw [h]; simp)]; rfl
theorem runS_end {b : BookD} {i : Nat} {s : Sc} (h : countedB b s i = true) (hi : b.lines.length ≤ i) : runS b i s = [[s]] := by
  unfold runS
  rw [List.drop_eq_nil_of_le hi]
  unfold runs; rw [if_pos h]; rfl
theorem runS_step {b : BookD} {i : Nat} {s : Sc} {z : Lin} {pre : List Sc} (h : countedB b s i = true) (hd : b.lines.drop i = z :: b.lines.drop (i + 1)) : (runS b i s).map (fun t => pre ++ t) = brR b i s z pre (readings b.chairs z).length := by
  unfold runS brR
  rw [hd, List.take_length]
  unfold runs
  rw [if_pos h, List.map_flatMap, List.map_flatMap]
  congr 1
  funext r
  by_cases hc : canN s r = true
  · rw [if_pos hc, if_pos hc, List.map_map, List.map_map]
    unfold runS
    rw [List.map_map]
    congr 1
    funext x
    simp
  · rw [if_neg hc, if_neg hc]; rfl
theorem brR_zero {b : BookD} {i : Nat} {s : Sc} {z : Lin} {pre : List Sc} : brR b i s z pre 0 = [] := rfl
theorem brR_no {b : BookD} {i : Nat} {s : Sc} {z x : Lin} {pre : List Sc} {k : Nat} (hx : (readings b.chairs z)[k]? = some x) (h : canN s x = false) : brR b i s z pre (k + 1) = brR b i s z pre k := by
  unfold brR; rw [List.take_add_one, hx, Option.toList_some, List.flatMap_append, List.flatMap_singleton, if_neg (by rw [h]; simp), List.append_nil]
theorem brR_yes {b : BookD} {i : Nat} {s : Sc} {z x : Lin} {pre : List Sc} {k : Nat} (hx : (readings b.chairs z)[k]? = some x) (h : canN s x = true) : brR b i s z pre (k + 1) = brR b i s z pre k ++ (runS b (i + 1) (nextN b s i x)).map (fun t => (pre ++ [s]) ++ t) := by
  unfold brR; rw [List.take_add_one, hx, Option.toList_some, List.flatMap_append, List.flatMap_singleton, if_pos h]
theorem brR_rest {b : BookD} {i : Nat} {s : Sc} {z : Lin} {pre : List Sc} {k : Nat} : ∃ r, brR b i s z pre (readings b.chairs z).length = brR b i s z pre k ++ r := by
  unfold brR
  rw [List.take_length]
  conv => enter [1, r, 1]; rw [← List.take_append_drop k (readings b.chairs z), List.flatMap_append]
  exact ⟨_, rfl⟩
theorem take_pre1 {c pre : List Sc} {i : Nat} {s s' : Sc} (h : c.take (i + 1 + 1) = (pre ++ [s]) ++ [s']) (hl : pre.length = i) : c.take (i + 1) = pre ++ [s] := by
  have := congrArg (List.take (i + 1)) h
  rw [List.take_take, Nat.min_eq_left (Nat.le_succ _)] at this
  rw [this, List.take_append_of_le_length (by simp; omega), List.take_of_length_le (by simp; omega)]
theorem set_take1 {c pre : List Sc} {i : Nat} {s' : Sc} (hi : i < c.length) (h : c.take i = pre) : (c.set i s').take (i + 1) = pre ++ [s'] := by
  rw [List.take_add_one, List.getElem?_set_self hi, Option.toList_some, List.take_set_of_le (Nat.le_refl _), h]
theorem at_pre {c pre : List Sc} {i : Nat} {s : Sc} (h : c.take (i + 1) = pre ++ [s]) (hl : pre.length = i) : c[i]? = some s := by
  have : (c.take (i + 1))[i]? = (pre ++ [s])[i]? := by rw [h]
  rw [List.getElem?_take_of_lt (Nat.lt_succ_self i), List.getElem?_append_right (by omega)] at this
  rw [this]; simp [hl]
theorem ap8 {bh bs bl bo blo bY br n q1 q2 : Nat} {c : List Sc} {cl : List Int} {o1 o2 : Obj} (hap : br ∉ Boxes.ks ((q2, o2) :: (q1, o1) :: readMu bh bs bl bo blo bY br n c cl)) (hnd : (((q2, o2) :: (q1, o1) :: readMu bh bs bl bo blo bY br n c cl).map fun p => p.1).Nodup) : q2 ∉ [br, bs, bo, q1] := by
  intro h
  simp only [List.mem_cons, List.not_mem_nil, or_false] at h
  rcases h with rfl | rfl | rfl | rfl
  · exact hap (by simp [Boxes.ks])
  · simp [readMu] at hnd
  · simp [readMu] at hnd
  · simp at hnd
theorem ap10 {bh bs bl bo blo bY br n q1 q2 : Nat} {c : List Sc} {cl : List Int} {o1 o2 : Obj} (hnd : (((q2, o2) :: (q1, o1) :: readMu bh bs bl bo blo bY br n c cl).map fun p => p.1).Nodup) : blo ∉ [bl, bs, q1, q2] ∧ bo ∉ [bl, bs, q1, q2] := by
  constructor
  · intro h
    simp only [List.mem_cons, List.not_mem_nil, or_false] at h
    rcases h with rfl | rfl | rfl | rfl <;> simp [readMu] at hnd
  · intro h
    simp only [List.mem_cons, List.not_mem_nil, or_false] at h
    rcases h with rfl | rfl | rfl | rfl <;> simp [readMu] at hnd
def readR (b : BookD) (J Jx : List (List Sc) → Inv) (bh bs bl bo blo bY br : Nat) (pre : List Sc) (s : Sc) (i : Nat) (done : List (List Sc)) (v : Value) (J' : Inv) (μ' : Boxes) : Prop :=
  ∃ bb c' cl', v = .bool bb ∧ c'.length = b.lines.length + 1 ∧ Len10 c' ∧ cl'.length = b.lines.length * 3 ∧ c'.take (i + 1) = pre ++ [s] ∧ μ' = readMu bh bs bl bo blo bY br b.lines.length c' cl' ∧ (if bb = true then J' = J (done ++ (runS b i s).map fun t => pre ++ t) else ∃ p, J' = Jx p)
set_option maxHeartbeats 1000000 in
theorem read_ok {lo l : Nat} {b : BookD} {bv : Value} {xs : List (List Sc)} {Dr Dy : Data} {bh bs bl bo blo bY br : Nat} {lv cv : Value} (hbo : BOk b) (hbv : bv = .agg #[.int .i64 b.chairs, .int .i64 b.coin, .int .i64 b.box, lv, cv]) (hb0 : BookIs Dr bv b)
    (hA : At Dr br 0 [.int .i64 b.chairs, .int .i64 b.coin, .int .i64 b.box, lv, cv]) (hB : At Dy bY 0 [.func (.yield l) #[] #[]]) :
    ∀ (j i : Nat) (pre : List Sc) (s : Sc) (c : List Sc) (cl : List Int) (done rest : List (List Sc)) (iv : Int) (Ds : List Data), Dr ∈ Ds → Dy ∈ Ds → iv = i → i + j = b.lines.length → pre.length = i → c.length = b.lines.length + 1 → Len10 c → cl.length = b.lines.length * 3 → c.take (i + 1) = pre ++ [s] → ScB b s i →
      xs = done ++ (runS b i s).map (fun t => pre ++ t) ++ rest → ∀ (J Jx : List (List Sc) → Inv), (∀ pre, Stb lo (J pre)) → (∀ pre, Stb lo (Jx pre)) → YieldsU Try.prog Dr lo l J Jx xs (encT3 b.lines.length) flatSc →
      FnJ Try.prog 64 [.int .i64 iv, .pointer (some ⟨br, 0, none⟩), .pointer (some ⟨bs, 0, none⟩), .pointer (some ⟨bl, 0, none⟩), .pointer (some ⟨bY, 0, none⟩), .pointer (some ⟨bh, 0, none⟩)] lo (J done) (readMu bh bs bl bo blo bY br b.lines.length c cl) Ds (readR b J Jx bh bs bl bo blo bY br pre s i done) := by
  subst hbv
  intro j
  induction j using Nat.strongRecOn with
  | _ j ih =>
  intro i pre s c cl done rest iv Ds hDr hDy hiv hij hl h9 h10 h11 hp hsb hxs J Jx hs hsx hY
  replace ih := fun j hj i pre s c cl done rest iv Ds h1 h2 h3 h4 h5 h6 h7 h8 h9 h10 h11 => ih j hj i pre s c cl done rest iv Ds h1 h2 h3 h4 h5 h6 h7 h8 h9 h10 h11 J Jx hs hsx hY
  subst hiv
  obtain ⟨lv', cv', he, hl', hc'⟩ := id hb0
  obtain ⟨rfl, rfl⟩ := book_eq he
  have hl8 := hbo.l8
  have hch := hbo.ch
  have hco := hbo.co
  have hbx := hbo.bx
  have hmo := hsb.mo
  have hmi := hsb.mi
  have hs10 := scL_len hsb.lc hsb.lt
  refine enterJ (μ := readMu bh bs bl bo blo bY br b.lines.length c cl) 68 Try.func64 rfl rfl rfl rfl ?_
  refine C.seq ?_
  refine C.region [(false,0)] rfl ?_
  refine L.assign rfl rfl rfl trivial ?_
  refine L.nil ?_
  refine C.next ?_
  refine C.seq ?_
  refine C.seq ?_
  refine C.draw [] 4 [0,1,2,3,4,5,6,7] [false,true,true,true,true,true,false,false] [(false,0),(true,1),(true,2),(true,3),(true,4),(true,5),(false,6),(false,7)] Tf.follows (fun _ _ _ h => np_bodyJ (P := Try.prog) (fn := Try.f64) _ _ _ h) (by kernel_rfl) rfl ?_
  refine L.loadDW rfl Tf.a40 rfl hA (by first | simp | assumption) Tf.s40 List.not_mem_nil rfl trivial ?_
  refine L.loadB1 rfl Tf.a90 rfl (List.Mem.tail _ (List.Mem.head _)) rfl List.not_mem_nil rfl trivial ?_
  refine L.move rfl rfl rfl trivial ?_
  refine L.indexP rfl Try.underlying90 Tf.s80 rfl rfl (by omega) (by push_cast; omega) rfl trivial ?_
  refine L.loadBP (n := 10) (us := ints (scL s)) rfl Tf.a80 Tf.s80 rfl (List.Mem.tail _ (List.Mem.tail _ (List.Mem.tail _ (List.Mem.head _)))) (by rw [show 0 + ((i : Int)).toNat * 10 = i * 10 by omega]; exact flatSc_get h10 (at_pre hp hl)) (by simp [hs10]) List.not_mem_nil rfl trivial ?_
  refine L.move rfl rfl rfl trivial ?_
  refine L.callV rfl rfl rfl (fun D1 hD1 => counted_ok _ b s i _ (hb0.up (hD1 _ (by first | assumption | exact List.mem_cons_of_mem _ hDr))) hsb.lc hsb.lt) rfl trivial ?_
  refine L.not rfl rfl rfl trivial ?_
  refine L.nil ?_
  refine C.next ?_
  refine C.cond rfl (fun hc1 => ?_) (fun hc1 => ?_)
  · refine C.seq ?_
    refine C.region [(false,0)] rfl ?_
    refine L.assign rfl rfl rfl trivial ?_
    refine L.nil ?_
    refine C.next ?_
    refine C.ret ?_
    refine C.thenRet ?_
    exact leaveJ (P := Try.prog) (fn := Try.f64) (N := 68) (vs := [_]) rfl rfl ⟨rfl, trivial⟩ (fun D h => ⟨D, h, Le.refl D⟩) ⟨true, c, cl, rfl, h9, h10, h11, hp, rfl, by simp only [if_true]; rw [runS_no (by simpa using hc1)]; simp⟩
  · have hcd : countedB b s i = true := by simpa using hc1
    refine C.skip ?_
    refine C.next ?_
    refine C.seq ?_
    refine C.seq ?_
    refine C.region [(false,0),(false,1),(false,2),(false,3)] rfl ?_
    refine L.move rfl rfl rfl trivial ?_
    refine L.loadB1 rfl Tf.a37 rfl (List.Mem.tail _ (List.Mem.tail _ (List.Mem.head _))) rfl List.not_mem_nil rfl trivial ?_
    refine L.lenV rfl Try.underlying37 rfl rfl rfl trivial ?_
    refine L.eql rfl rfl rfl rfl trivial ?_
    refine L.nil ?_
    refine C.next ?_
    refine C.condD rfl (fun hc2 => ?_) (fun hc2 => ?_)
    · have hrun := runS_end hcd (show b.lines.length ≤ i by omega)
      have hleaf : pre ++ [s] = c := by rw [← hp, List.take_of_length_le (by omega)]
      rw [hrun, List.map_singleton, hleaf, List.append_assoc, List.singleton_append] at hxs
      refine C.seq ?_
      refine C.region [(false,0),(false,1),(false,2),(false,3),(false,4)] rfl ?_
      refine L.loadD1 rfl (k := 0) Tf.a140 rfl hB (by first | simp | assumption) rfl List.not_mem_nil rfl trivial ?_
      refine L.loadB1 rfl Tf.a37 rfl (List.Mem.tail _ (List.Mem.tail _ (List.Mem.head _))) rfl List.not_mem_nil rfl trivial ?_
      refine L.loadB1 rfl Tf.a90 rfl (List.Mem.tail _ (List.Mem.head _)) rfl List.not_mem_nil rfl trivial ?_
      refine L.yieldSB (l := l) (J1 := J (done ++ [c])) (J0 := Jx (done ++ [c])) rfl rfl rfl rfl (hs _) (hsx _) (fun D w hd hJ hb hl => hY done c _ D w bo _ ⟨rest, hxs⟩ hd hJ (fun b hbm => by obtain ⟨p, hp, rfl⟩ := List.mem_map.1 hbm; exact lt_of_some (hb p hp).1) (hl _ hDr) ⟨blo, rfl⟩ ⟨List.mem_map.2 ⟨_, mem_bo, rfl⟩, (hb _ mem_bo).2, _, _, (hb _ mem_bo).1⟩) rfl trivial (fun b1 J1 hJ1 => ?_)
      refine L.assign rfl rfl rfl trivial ?_
      refine L.nil ?_
      refine C.next ?_
      refine C.ret ?_
      refine C.thenRet ?_
      exact leaveJ (P := Try.prog) (fn := Try.f64) (N := 68) (vs := [_]) rfl rfl ⟨rfl, trivial⟩ (fun D h => ⟨D, h, Le.refl D⟩) ⟨b1, c, cl, rfl, h9, h10, h11, hp, rfl, by cases b1 <;> simp only [hJ1, if_true, Bool.false_eq_true, if_false]; exact ⟨_, rfl⟩; rw [hrun, List.map_singleton, hleaf]⟩
    · have hil : i < b.lines.length := by omega
      obtain ⟨z, hz⟩ : ∃ z, b.lines[i]? = some z := ⟨_, List.getElem?_eq_getElem hil⟩
      have hdr : b.lines.drop i = z :: b.lines.drop (i + 1) := by rw [List.drop_eq_getElem_cons hil]; congr 1; exact Option.some.inj ((List.getElem?_eq_getElem hil).symm.trans hz)
      have hrun := runS_step (pre := pre) hcd hdr
      rw [hrun] at hxs
      refine C.skip ?_
      refine C.next ?_
      refine C.seq ?_
      refine C.seq ?_
      refine C.draw [] 1 [0,1,2,3,4,5,8,6,7] [false,true,true,true,true,true,true,true,true] [(false,0),(true,1),(true,2),(true,3),(true,4),(true,5),(true,8),(true,6),(true,7)] Tf.follows (fun _ _ _ h => np_bodyJ (P := Try.prog) (fn := Try.f64) _ _ _ h) (by kernel_rfl) rfl ?_
      refine L.loadDW rfl Tf.a40 rfl hA (by first | simp | assumption) Tf.s40 List.not_mem_nil rfl trivial ?_
      refine L.fieldAddr rfl Tf.f40_3 rfl rfl trivial ?_
      refine L.loadD1 rfl (k := 3) Tf.a37 rfl hA (by first | simp | assumption) rfl List.not_mem_nil rfl trivial ?_
      refine L.move rfl rfl rfl trivial ?_
      refine L.indexS rfl Try.underlying37 Tf.s64 rfl hl' rfl (by omega) hz rfl trivial (fun b1 o1 cs1 hr1 hcl1 hA1 => ?_)
      obtain rfl : cs1 = [.int .i64 _, .int .i64 _, .int .i64 _] := hr1
      refine L.loadDW rfl Tf.a64 rfl hA1 (by first | simp | assumption) Tf.s64 List.not_mem_nil rfl trivial ?_
      refine L.move rfl rfl rfl trivial ?_
      refine L.call rfl rfl rfl (fun D2 hD2 => readings_ok _ b z _ (hb0.up (hD2 _ (by first | assumption | exact List.mem_cons_of_mem _ hDr))) (by omega)) rfl trivial (fun v2 D2 hD2 hp2 => ?_)
      have hr_ := hp2
      have hrl := hr_.len
      refine L.len rfl Try.underlying37 rfl (by assumption) rfl rfl trivial ?_
      refine L.nil ?_
      refine C.next ?_
      refine C.block ?_
      refine C.loopJ (γ := Nat × List Sc × List Int) (fun g => (readings b.chairs z).length - g.1) (fun g => g.1 ≤ (readings b.chairs z).length ∧ g.2.1.length = b.lines.length + 1 ∧ Len10 g.2.1 ∧ g.2.2.length = b.lines.length * 3 ∧ g.2.1.take (i + 1) = pre ++ [s]) (fun g => J (done ++ brR b i s z pre g.1)) (fun g => [(36, .int .i64 (g.1 : Int))]) [(35, _), (34, _), (7, _), (0, _), (1, _), (2, _), (3, _), (5, _)] (fun g => readMu bh bs bl bo blo bY br b.lines.length g.2.1 g.2.2) (fun g => D2 :: Ds) (0, c, cl) ⟨by simp, h9, h10, h11, hp⟩ (by simp [brR_zero]) ⟨(by first | rfl | (show some (Value.int _ _) = some (Value.int _ _); congr 2; omega)), trivial⟩ ⟨rfl, rfl, rfl, rfl, rfl, rfl, rfl, rfl, trivial⟩ (List.Sublist.refl _) (ds_same) ?_
      rintro ⟨k, c1, cl1⟩ ⟨h12, h91, h92, h93, hp1⟩
      simp only at h12 h91 h92 h93 hp1
      refine C.seq ?_
      refine C.region [(false,0)] rfl ?_
      refine L.lss rfl rfl rfl rfl trivial ?_
      refine L.nil ?_
      refine C.next ?_
      refine C.seq ?_
      refine C.condD rfl (fun hc3 => ?_) (fun hc3 => ?_)
      · simp only at hc3
        obtain ⟨x, hx⟩ : ∃ x, (readings b.chairs z)[k]? = some x := ⟨_, List.getElem?_eq_getElem (by omega)⟩
        have hin := ((readings_mem (hbo.ln z (List.mem_of_getElem? hz))).1 (List.mem_of_getElem? hx)).1
        have hn10 : (scL (nextN b s i x)).length = 10 := nx_len hsb.lc hsb.lt
        have hif : (scL (if canN s x = true then nextN b s i x else s)).length = 10 := by split; exact hn10; exact hs10
        refine C.skip ?_
        refine C.next ?_
        refine C.seq ?_
        refine C.block ?_
        refine C.seq ?_
        refine C.region [(false,0),(false,1),(false,2),(false,3)] rfl ?_
        refine L.indexS rfl Try.underlying37 Tf.s64 rfl hr_ rfl (by omega) hx rfl trivial (fun b2 o2 cs2 hr2 hcl2 hA2 => ?_)
        obtain rfl : cs2 = [.int .i64 _, .int .i64 _, .int .i64 _] := hr2
        refine L.loadDW rfl Tf.a64 rfl hA2 (by first | simp | assumption) Tf.s64 List.not_mem_nil rfl trivial ?_
        refine L.alloc rfl Tf.z64 rfl rfl trivial (fun q1 => ?_)
        refine L.storeW rfl rfl rfl rfl Tf.s64 (by first | rfl | (simp only [ints_length, *]; done) | (simp only [ints_length, *]; rfl) | (simp only [ints_length, *]; omega)) (by first | rfl | (simp only [ints_length, *]; done) | (simp only [ints_length, *]; rfl) | (simp only [ints_length, *]; omega)) (Has.head) (by first | exact ints_cell1 _ | simp [cell1]) trivial ?_
        refine L.nil ?_
        refine C.next ?_
        refine C.seq ?_
        refine C.drawS (But.mk [br, bs, bo, q1]) 5 [false,true,true,true,true,true,true,true,false,false,true,true,true,false] [.fork [0,1,2,3,4,5,6] 7 (.fin [8,9,10,11]) 11 (.fin [7,8,9,10]), .fin [12,13]] Tf.follows (fun _ _ _ h => np_bodyJ (P := Try.prog) (fn := Try.f64) _ _ _ h) (by kernel_rfl) ?_
        refine S.cons ?_
        refine L.planFork [(false,0),(true,1),(true,2),(true,3),(true,4),(true,5),(true,6)] rfl ?_
        refine L.loadDW rfl Tf.a40 rfl hA (List.mem_cons_of_mem _ hDr) Tf.s40 (But.out (by simp)) rfl trivial ?_
        refine L.loadB1 rfl Tf.a90 rfl (List.Mem.tail _ (List.Mem.tail _ (List.Mem.head _))) rfl (But.out (by simp)) rfl trivial ?_
        refine L.move rfl rfl rfl trivial ?_
        refine L.indexP rfl Try.underlying90 Tf.s80 rfl rfl (by omega) (by push_cast; omega) rfl trivial ?_
        refine L.loadBP (n := 10) (us := ints (scL s)) rfl Tf.a80 Tf.s80 rfl (List.Mem.tail _ (List.Mem.tail _ (List.Mem.tail _ (List.Mem.tail _ (List.Mem.head _))))) (by rw [show 0 + ((i : Int)).toNat * 10 = i * 10 by omega]; exact flatSc_get h92 (at_pre hp1 hl)) (by simp [hs10]) (But.out (by simp)) rfl trivial ?_
        refine L.move rfl rfl rfl trivial ?_
        refine L.loadBW (e := 64) (fz := (0, 0)) rfl Tf.a64 rfl (List.Mem.head _) Tf.s64 (But.out (by simp)) rfl trivial ?_
        refine L.nil (L.forkP true true rfl rfl ?_ ?_)
        · refine L.callV rfl rfl rfl (fun D3 hD3 => next_ok _ b s i x _ (hb0.up (hD3 _ (by first | assumption | exact List.mem_cons_of_mem _ hDr))) hsb.lc hsb.lt (by have := hin.2; omega) (by have := hin.2; omega) (by omega) (by omega) (by omega) (by omega)) rfl trivial ?_
          refine L.nil ?_
          refine L.planFin [(false,8),(false,9),(true,10),(true,11)] rfl ?_
          refine L.move rfl rfl rfl trivial ?_
          refine L.extract rfl rfl rfl rfl trivial ?_
          refine L.extract rfl rfl rfl rfl trivial ?_
          refine L.alloc rfl Tf.z80 rfl rfl trivial (fun q2 => ?_)
          refine L.nil ?_
          refine S.fin [(true,12),(false,13)] rfl ?_
          refine L.apart hA (by first | assumption | exact List.mem_cons_of_mem _ hDr) (fun hap => ?_)
          refine L.nd (fun hnd => ?_)
          refine L.storeB (off := 0) (us := ints (scL (if canN s x = true then nextN b s i x else s))) (ws := ints (scL (if canN s x = true then nextN b s i x else s))) rfl rfl rfl rfl (by rw [show (ints _).length = 10 by simp [hif]]; exact Tf.s80) (Has.head) (by simp [hif]) (by simp [hif]) (ints_cell1 _) (Or.inr (But.in_ (ap8 hap hnd))) trivial ?_
          refine L.assign rfl rfl rfl trivial ?_
          refine L.nil ?_
          refine S.nil ?_
          refine C.next ?_
          refine C.seq ?_
          refine C.seq ?_
          refine C.region [(false,0),(false,1)] rfl ?_
          refine L.move rfl rfl rfl trivial ?_
          refine L.not rfl rfl rfl trivial ?_
          refine L.nil ?_
          refine C.next ?_
          refine C.cond rfl (fun hc4 => ?_) (fun hc4 => ?_)
          · have hcan : canN s x = false := by simpa using hc4
            refine C.exit ?_
            refine C.thenExit ?_
            refine C.blockExit ?_
            refine C.next ?_
            refine C.region [(false,0),(false,1)] rfl ?_
            refine L.add rfl rfl rfl (by simp only [inK]; omega) rfl trivial ?_
            refine L.move rfl rfl rfl trivial ?_
            refine L.nil ?_
            exact C.againJ 22 (k + 1, c1, cl1) ⟨by simp only; omega, h91, h92, h93, hp1⟩ (by simp only; omega) (by rw [brR_no hx hcan]) ⟨(by first | rfl | (show some (Value.int _ _) = some (Value.int _ _); congr 2; omega)), trivial⟩ rfl rfl (List.Sublist.cons _ (List.Sublist.cons _ (List.Sublist.refl _))) (ds_same)
          · have hcan : canN s x = true := by simpa using hc4
            rw [if_pos hcan]
            obtain ⟨rr, hr⟩ := brR_rest (b := b) (i := i) (s := s) (z := z) (pre := pre) (k := k + 1)
            refine C.skip ?_
            refine C.next ?_
            refine C.seq ?_
            refine C.draw (But.mk [bl, bs, q1, q2]) 1 [0,1,2,3,4,5,6,7,8,9,10] [false,true,true,true,true,true,true,true,true,false,false] [(false,0),(true,1),(true,2),(true,3),(true,4),(true,5),(true,6),(true,7),(true,8),(false,9),(false,10)] Tf.follows (fun _ _ _ h => np_bodyJ (P := Try.prog) (fn := Try.f64) _ _ _ h) (by kernel_rfl) rfl ?_
            refine L.loadB1 rfl Tf.a37 rfl (List.Mem.tail _ (List.Mem.tail _ (List.Mem.tail _ (List.Mem.tail _ (List.Mem.head _))))) rfl (But.out (by simp)) rfl trivial ?_
            refine L.move rfl rfl rfl trivial ?_
            refine L.loadB1 rfl Tf.a90 rfl (List.Mem.tail _ (List.Mem.tail _ (List.Mem.tail _ (List.Mem.head _)))) rfl (But.out (by simp)) rfl trivial ?_
            refine L.move rfl rfl rfl trivial ?_
            refine L.add rfl rfl rfl (by simp only [inK]; omega) rfl trivial ?_
            refine L.loadBW (e := 64) (fz := (0, 0)) rfl Tf.a64 rfl (List.Mem.tail _ (List.Mem.head _)) Tf.s64 (But.out (by simp)) rfl trivial ?_
            refine L.loadBW (e := 80) (fz := (0, 0)) rfl Tf.a80 rfl (List.Mem.head _) (by rw [show (ints _).length = 10 by simp [hn10]]; exact Tf.s80) (But.out (by simp)) rfl trivial ?_
            refine L.indexP rfl Try.underlying37 Tf.s64 rfl rfl (by omega) (by omega) rfl trivial ?_
            refine L.nd (fun hnd => ?_)
            refine L.storeB (off := i * 3) (us := ints [x.kind, x.chair, x.token]) (ws := ints (wr cl1 (i * 3) [x.kind, x.chair, x.token])) rfl (ptr_eq (by omega)) rfl rfl Tf.s64 (.tail (.tail (.tail (.tail (.tail (.tail .head)))))) (by simp; omega) ints_wr (ints_cell1 _) (Or.inr (But.in_ (ap10 hnd).1)) trivial ?_
            refine L.indexP rfl Try.underlying90 Tf.s80 rfl rfl (by omega) (by push_cast; omega) rfl trivial ?_
            refine L.storeB (off := (i + 1) * 10) (us := ints (scL (nextN b s i x))) (ws := flatSc (c1.set (i + 1) (nextN b s i x))) rfl (ptr_eq (by omega)) rfl rfl (by rw [show (ints _).length = 10 by simp [hn10]]; exact Tf.s80) (.tail (.tail (.tail (.tail (.tail .head))))) (by rw [fs_len h92, ints_length, hn10]; omega) (fs_set h92 hn10 (by omega)) (ints_cell1 _) (Or.inr (But.in_ (ap10 hnd).2)) trivial ?_
            refine L.nil ?_
            refine C.next ?_
            refine C.seq ?_
            refine C.dropB (μ' := readMu bh bs bl bo blo bY br b.lines.length (c1.set (i + 1) (nextN b s i x)) (wr cl1 (i * 3) [x.kind, x.chair, x.token])) 2 rfl ?_
            refine C.region [(false,0),(false,1),(false,2),(false,3),(false,4)] rfl ?_
            refine L.loadB1 rfl Tf.a76 rfl (List.Mem.head _) rfl List.not_mem_nil rfl trivial ?_
            refine L.move rfl rfl rfl trivial ?_
            refine L.add rfl rfl rfl (by simp only [inK]; omega) rfl trivial ?_
            refine L.callJ rfl rfl rfl rfl (ih (j - 1) (by omega) (i + 1) (pre ++ [s]) (nextN b s i x) (c1.set (i + 1) (nextN b s i x)) (wr cl1 (i * 3) [x.kind, x.chair, x.token]) (done ++ brR b i s z pre k) (rr ++ rest) (i + 1 : Int) _ (List.mem_cons_of_mem _ hDr) (List.mem_cons_of_mem _ hDy) (by omega) (by omega) (by simp; omega) (by simpa using h91) (h92.set hn10 _) (by rw [wr_len (by simp; omega)]; exact h93) (set_take1 (by omega) hp1) (next_b hbo hsb x i) (by rw [hxs, hr, brR_yes hx hcan]; simp)) rfl trivial ?_
            rintro _ J2 _ ⟨b2, c2, cl2, rfl, h9', h10', h11', hp', rfl, hJ2⟩
            refine L.not rfl rfl rfl trivial ?_
            refine L.nil ?_
            refine C.next ?_
            refine C.cond rfl (fun hc5 => ?_) (fun hc5 => ?_)
            · obtain rfl : b2 = false := by simpa using hc5
              refine C.seq ?_
              refine C.region [(false,0)] rfl ?_
              refine L.assign rfl rfl rfl trivial ?_
              refine L.nil ?_
              refine C.next ?_
              refine C.ret ?_
              refine C.blockRet ?_
              refine C.thenRet ?_
              refine C.thenRet ?_
              refine C.blockRet ?_
              refine C.thenRet ?_
              exact leaveJ (P := Try.prog) (fn := Try.f64) (N := 68) (vs := [_]) rfl rfl ⟨rfl, trivial⟩ (fun D h => ⟨D, List.mem_cons_of_mem _ h, Le.refl D⟩) ⟨false, c2, cl2, rfl, h9', h10', h11', take_pre1 hp' hl, rfl, by simpa using hJ2⟩
            · obtain rfl : b2 = true := by simpa using hc5
              refine C.skip ?_
              refine C.blockEnd ?_
              refine C.next ?_
              refine C.region [(false,0),(false,1)] rfl ?_
              refine L.add rfl rfl rfl (by simp only [inK]; omega) rfl trivial ?_
              refine L.move rfl rfl rfl trivial ?_
              refine L.nil ?_
              exact C.againJ 36 (k + 1, c2, cl2) ⟨by simp only; omega, h9', h10', h11', take_pre1 hp' hl⟩ (by simp only; omega) (by simpa only [if_true, brR_yes hx hcan, List.append_assoc] using hJ2) ⟨(by first | rfl | (show some (Value.int _ _) = some (Value.int _ _); congr 2; omega)), trivial⟩ rfl rfl (List.Sublist.refl _) (ds_same)
        · refine L.alloc rfl Tf.z80 rfl rfl trivial (fun q2 => ?_)
          refine L.nil ?_
          refine L.planFin [(true,7),(false,8),(false,9),(true,10)] rfl ?_
          refine L.callV rfl rfl rfl (fun D3 hD3 => next_ok _ b s i x _ (hb0.up (hD3 _ (by first | assumption | exact List.mem_cons_of_mem _ hDr))) hsb.lc hsb.lt (by have := hin.2; omega) (by have := hin.2; omega) (by omega) (by omega) (by omega) (by omega)) rfl trivial ?_
          refine L.move rfl rfl rfl trivial ?_
          refine L.extract rfl rfl rfl rfl trivial ?_
          refine L.extract rfl rfl rfl rfl trivial ?_
          refine L.nil ?_
          refine S.fin [(true,12),(false,13)] rfl ?_
          refine L.apart hA (by first | assumption | exact List.mem_cons_of_mem _ hDr) (fun hap => ?_)
          refine L.nd (fun hnd => ?_)
          refine L.storeB (off := 0) (us := ints (scL (if canN s x = true then nextN b s i x else s))) (ws := ints (scL (if canN s x = true then nextN b s i x else s))) rfl rfl rfl rfl (by rw [show (ints _).length = 10 by simp [hif]]; exact Tf.s80) (Has.head) (by simp [hif]) (by simp [hif]) (ints_cell1 _) (Or.inr (But.in_ (ap8 hap hnd))) trivial ?_
          refine L.assign rfl rfl rfl trivial ?_
          refine L.nil ?_
          refine S.nil ?_
          refine C.next ?_
          refine C.seq ?_
          refine C.seq ?_
          refine C.region [(false,0),(false,1)] rfl ?_
          refine L.move rfl rfl rfl trivial ?_
          refine L.not rfl rfl rfl trivial ?_
          refine L.nil ?_
          refine C.next ?_
          refine C.cond rfl (fun hc4 => ?_) (fun hc4 => ?_)
          · have hcan : canN s x = false := by simpa using hc4
            refine C.exit ?_
            refine C.thenExit ?_
            refine C.blockExit ?_
            refine C.next ?_
            refine C.region [(false,0),(false,1)] rfl ?_
            refine L.add rfl rfl rfl (by simp only [inK]; omega) rfl trivial ?_
            refine L.move rfl rfl rfl trivial ?_
            refine L.nil ?_
            exact C.againJ 22 (k + 1, c1, cl1) ⟨by simp only; omega, h91, h92, h93, hp1⟩ (by simp only; omega) (by rw [brR_no hx hcan]) ⟨(by first | rfl | (show some (Value.int _ _) = some (Value.int _ _); congr 2; omega)), trivial⟩ rfl rfl (List.Sublist.cons _ (List.Sublist.cons _ (List.Sublist.refl _))) (ds_same)
          · have hcan : canN s x = true := by simpa using hc4
            rw [if_pos hcan]
            obtain ⟨rr, hr⟩ := brR_rest (b := b) (i := i) (s := s) (z := z) (pre := pre) (k := k + 1)
            refine C.skip ?_
            refine C.next ?_
            refine C.seq ?_
            refine C.draw (But.mk [bl, bs, q1, q2]) 1 [0,1,2,3,4,5,6,7,8,9,10] [false,true,true,true,true,true,true,true,true,false,false] [(false,0),(true,1),(true,2),(true,3),(true,4),(true,5),(true,6),(true,7),(true,8),(false,9),(false,10)] Tf.follows (fun _ _ _ h => np_bodyJ (P := Try.prog) (fn := Try.f64) _ _ _ h) (by kernel_rfl) rfl ?_
            refine L.loadB1 rfl Tf.a37 rfl (List.Mem.tail _ (List.Mem.tail _ (List.Mem.tail _ (List.Mem.tail _ (List.Mem.head _))))) rfl (But.out (by simp)) rfl trivial ?_
            refine L.move rfl rfl rfl trivial ?_
            refine L.loadB1 rfl Tf.a90 rfl (List.Mem.tail _ (List.Mem.tail _ (List.Mem.tail _ (List.Mem.head _)))) rfl (But.out (by simp)) rfl trivial ?_
            refine L.move rfl rfl rfl trivial ?_
            refine L.add rfl rfl rfl (by simp only [inK]; omega) rfl trivial ?_
            refine L.loadBW (e := 64) (fz := (0, 0)) rfl Tf.a64 rfl (List.Mem.tail _ (List.Mem.head _)) Tf.s64 (But.out (by simp)) rfl trivial ?_
            refine L.loadBW (e := 80) (fz := (0, 0)) rfl Tf.a80 rfl (List.Mem.head _) (by rw [show (ints _).length = 10 by simp [hn10]]; exact Tf.s80) (But.out (by simp)) rfl trivial ?_
            refine L.indexP rfl Try.underlying37 Tf.s64 rfl rfl (by omega) (by omega) rfl trivial ?_
            refine L.nd (fun hnd => ?_)
            refine L.storeB (off := i * 3) (us := ints [x.kind, x.chair, x.token]) (ws := ints (wr cl1 (i * 3) [x.kind, x.chair, x.token])) rfl (ptr_eq (by omega)) rfl rfl Tf.s64 (.tail (.tail (.tail (.tail (.tail (.tail .head)))))) (by simp; omega) ints_wr (ints_cell1 _) (Or.inr (But.in_ (ap10 hnd).1)) trivial ?_
            refine L.indexP rfl Try.underlying90 Tf.s80 rfl rfl (by omega) (by push_cast; omega) rfl trivial ?_
            refine L.storeB (off := (i + 1) * 10) (us := ints (scL (nextN b s i x))) (ws := flatSc (c1.set (i + 1) (nextN b s i x))) rfl (ptr_eq (by omega)) rfl rfl (by rw [show (ints _).length = 10 by simp [hn10]]; exact Tf.s80) (.tail (.tail (.tail (.tail (.tail .head))))) (by rw [fs_len h92, ints_length, hn10]; omega) (fs_set h92 hn10 (by omega)) (ints_cell1 _) (Or.inr (But.in_ (ap10 hnd).2)) trivial ?_
            refine L.nil ?_
            refine C.next ?_
            refine C.seq ?_
            refine C.dropB (μ' := readMu bh bs bl bo blo bY br b.lines.length (c1.set (i + 1) (nextN b s i x)) (wr cl1 (i * 3) [x.kind, x.chair, x.token])) 2 rfl ?_
            refine C.region [(false,0),(false,1),(false,2),(false,3),(false,4)] rfl ?_
            refine L.loadB1 rfl Tf.a76 rfl (List.Mem.head _) rfl List.not_mem_nil rfl trivial ?_
            refine L.move rfl rfl rfl trivial ?_
            refine L.add rfl rfl rfl (by simp only [inK]; omega) rfl trivial ?_
            refine L.callJ rfl rfl rfl rfl (ih (j - 1) (by omega) (i + 1) (pre ++ [s]) (nextN b s i x) (c1.set (i + 1) (nextN b s i x)) (wr cl1 (i * 3) [x.kind, x.chair, x.token]) (done ++ brR b i s z pre k) (rr ++ rest) (i + 1 : Int) _ (List.mem_cons_of_mem _ hDr) (List.mem_cons_of_mem _ hDy) (by omega) (by omega) (by simp; omega) (by simpa using h91) (h92.set hn10 _) (by rw [wr_len (by simp; omega)]; exact h93) (set_take1 (by omega) hp1) (next_b hbo hsb x i) (by rw [hxs, hr, brR_yes hx hcan]; simp)) rfl trivial ?_
            rintro _ J2 _ ⟨b2, c2, cl2, rfl, h9', h10', h11', hp', rfl, hJ2⟩
            refine L.not rfl rfl rfl trivial ?_
            refine L.nil ?_
            refine C.next ?_
            refine C.cond rfl (fun hc5 => ?_) (fun hc5 => ?_)
            · obtain rfl : b2 = false := by simpa using hc5
              refine C.seq ?_
              refine C.region [(false,0)] rfl ?_
              refine L.assign rfl rfl rfl trivial ?_
              refine L.nil ?_
              refine C.next ?_
              refine C.ret ?_
              refine C.blockRet ?_
              refine C.thenRet ?_
              refine C.thenRet ?_
              refine C.blockRet ?_
              refine C.thenRet ?_
              exact leaveJ (P := Try.prog) (fn := Try.f64) (N := 68) (vs := [_]) rfl rfl ⟨rfl, trivial⟩ (fun D h => ⟨D, List.mem_cons_of_mem _ h, Le.refl D⟩) ⟨false, c2, cl2, rfl, h9', h10', h11', take_pre1 hp' hl, rfl, by simpa using hJ2⟩
            · obtain rfl : b2 = true := by simpa using hc5
              refine C.skip ?_
              refine C.blockEnd ?_
              refine C.next ?_
              refine C.region [(false,0),(false,1)] rfl ?_
              refine L.add rfl rfl rfl (by simp only [inK]; omega) rfl trivial ?_
              refine L.move rfl rfl rfl trivial ?_
              refine L.nil ?_
              exact C.againJ 36 (k + 1, c2, cl2) ⟨by simp only; omega, h9', h10', h11', take_pre1 hp' hl⟩ (by simp only; omega) (by simpa only [if_true, brR_yes hx hcan, List.append_assoc] using hJ2) ⟨(by first | rfl | (show some (Value.int _ _) = some (Value.int _ _); congr 2; omega)), trivial⟩ rfl rfl (List.Sublist.refl _) (ds_same)
      · have hk : k = (readings b.chairs z).length := by simp only at hc3; omega
        refine C.exit ?_
        refine C.thenExit ?_
        refine C.thenExit ?_
        refine C.blockExit ?_
        refine C.next ?_
        refine C.seq ?_
        refine C.region [(false,0)] rfl ?_
        refine L.assign rfl rfl rfl trivial ?_
        refine L.nil ?_
        refine C.next ?_
        refine C.ret ?_
        exact leaveJ (P := Try.prog) (fn := Try.f64) (N := 68) (vs := [_]) rfl rfl ⟨rfl, trivial⟩ (fun D h => ⟨D, List.mem_cons_of_mem _ h, Le.refl D⟩) ⟨true, c1, cl1, rfl, h91, h92, h93, hp1, rfl, by simp only [if_true]; rw [hrun, hk]⟩
theorem len10_rep {n : Nat} : Len10 (List.replicate n sc0) := fun s hs => by rw [List.eq_of_mem_replicate hs]; rfl
set_option maxHeartbeats 1000000 in
theorem truths1_ok {b : BookD} {bv lv cv : Value} {Dr : Data} {br : Nat} (hbo : BOk b) (hbv : bv = .agg #[.int .i64 b.chairs, .int .i64 b.coin, .int .i64 b.box, lv, cv]) (hb0 : BookIs Dr bv b) (hA : At Dr br 0 [.int .i64 b.chairs, .int .i64 b.coin, .int .i64 b.box, lv, cv]) :
    IterT Try.prog 63 [.pointer (some ⟨br, 0, none⟩)] Dr (runS b 0 (begin0 b)) (encT3 b.lines.length) flatSc := by
  subst hbv
  obtain ⟨lv', cv', he, hl', hc'⟩ := id hb0
  obtain ⟨rfl, rfl⟩ := book_eq he
  have hl8 := hbo.l8
  refine enterIterT 22 Try.func63 rfl rfl rfl rfl (fun lo l J Jx hs hsx hY => ?_)
  refine C.seq ?_
  refine C.region [(false,0)] rfl ?_
  refine L.boxD rfl rfl rfl rfl trivial (fun q1 E1 hE1 hB1 => ?_)
  refine L.nil ?_
  refine C.next ?_
  refine C.seq ?_
  refine C.drawS (But.mk [br]) 4 [false,false,false,true,true,true,true,true,true,true,true,true,false] [.forkN [0,1,2,4,5,6,7] 3 [8,9,10] (alts [(3, .forkN [] 8 [9,10] (alts [(8, .fork [] 9 (.fin [10,11]) 10 (.fin [9,11])), (9, .fork [] 8 (.fin [10,11]) 10 (.fork [] 8 (.fin [11]) 11 (.fin [8]))), (10, .fork [] 8 (.fin [9,11]) 9 (.fork [] 8 (.fin [11]) 11 (.fin [8])))])), (8, .forkN [] 3 [9,10] (alts [(3, .fork [] 9 (.fin [10,11]) 10 (.fin [9,11])), (9, .fork [] 3 (.fin [10,11]) 10 (.fin [3,11])), (10, .fork [] 3 (.fin [9,11]) 9 (.fin [3,11]))])), (9, .forkN [] 3 [8,10] (alts [(3, .fork [] 8 (.fin [10,11]) 10 (.fork [] 8 (.fin [11]) 11 (.fin [8]))), (8, .fork [] 3 (.fin [10,11]) 10 (.fin [3,11])), (10, .fork [] 3 (.fork [] 8 (.fin [11]) 11 (.fin [8])) 8 (.fin [3,11]))])), (10, .forkN [] 3 [8,9] (alts [(3, .fork [] 8 (.fin [9,11]) 9 (.fork [] 8 (.fin [11]) 11 (.fin [8]))), (8, .fork [] 3 (.fin [9,11]) 9 (.fin [3,11])), (9, .fork [] 3 (.fork [] 8 (.fin [11]) 11 (.fin [8])) 8 (.fin [3,11]))]))]), .fin [12]] Tf.follows (fun _ _ _ h => np_bodyJ (P := Try.prog) (fn := Try.f63) _ _ _ h) (by kernel_rfl) ?_
  refine S.join (γ := Nat × Nat × Nat × Nat) (fun g => True) (fun g => [(3, .pointer (some ⟨g.1, 0, none⟩)), (4, .pointer (some ⟨g.2.1, 0, none⟩)), (14, .slice (some ⟨g.2.2.1, 0, none⟩) (b.lines.length + 1) (b.lines.length + 1)), (2, .pointer (some ⟨q1, 0, none⟩)), (1, .pointer (some ⟨br, 0, none⟩)), (0, .func (.yield l) #[] #[])]) (fun g => [(g.2.1, .cells [.slice none 0 0].toArray 90 (0, 0)), (g.1, .cells [.slice (some ⟨g.2.2.2, 0, none⟩) b.lines.length b.lines.length].toArray 37 (0, 0)), (g.2.2.1, .cells (flatSc (List.replicate (b.lines.length + 1) sc0)).toArray 80 (0, 0)), (g.2.2.2, .cells (ints (List.replicate (b.lines.length * 3) 0)).toArray 64 (0, 0))]) (fun g => [E1, Dr]) [.forkN [0,1,2,4,5,6,7] 3 [8,9,10] (alts [(3, .forkN [] 8 [9,10] (alts [(8, .fork [] 9 (.fin [10,11]) 10 (.fin [9,11])), (9, .fork [] 8 (.fin [10,11]) 10 (.fork [] 8 (.fin [11]) 11 (.fin [8]))), (10, .fork [] 8 (.fin [9,11]) 9 (.fork [] 8 (.fin [11]) 11 (.fin [8])))])), (8, .forkN [] 3 [9,10] (alts [(3, .fork [] 9 (.fin [10,11]) 10 (.fin [9,11])), (9, .fork [] 3 (.fin [10,11]) 10 (.fin [3,11])), (10, .fork [] 3 (.fin [9,11]) 9 (.fin [3,11]))])), (9, .forkN [] 3 [8,10] (alts [(3, .fork [] 8 (.fin [10,11]) 10 (.fork [] 8 (.fin [11]) 11 (.fin [8]))), (8, .fork [] 3 (.fin [10,11]) 10 (.fin [3,11])), (10, .fork [] 3 (.fork [] 8 (.fin [11]) 11 (.fin [8])) 8 (.fin [3,11]))])), (10, .forkN [] 3 [8,9] (alts [(3, .fork [] 8 (.fin [9,11]) 9 (.fork [] 8 (.fin [11]) 11 (.fin [8]))), (8, .fork [] 3 (.fin [9,11]) 9 (.fin [3,11])), (9, .fork [] 3 (.fork [] 8 (.fin [11]) 11 (.fin [8])) 8 (.fin [3,11]))]))])] [.fin [12]] rfl ?_ ?_
  · refine S.cons ?_
    refine L.planForkN [(false,0),(false,1),(false,2),(true,4),(true,5),(true,6),(true,7)] rfl ?_
    refine L.fieldAddr rfl Tf.f40_3 rfl rfl trivial ?_
    refine L.loadD1 rfl (k := 3) Tf.a37 rfl hA (by simp) rfl (But.out (by simp)) rfl trivial ?_
    refine L.len rfl Try.underlying37 rfl hl' rfl rfl trivial ?_
    refine L.fieldAddr rfl Tf.f40_3 rfl rfl trivial ?_
    refine L.loadD1 rfl (k := 3) Tf.a37 rfl hA (by simp) rfl (But.out (by simp)) rfl trivial ?_
    refine L.len rfl Try.underlying37 rfl hl' rfl rfl trivial ?_
    refine L.add rfl rfl rfl (by simp only [inK]; omega) rfl trivial ?_
    refine L.nil (L.altCons true rfl rfl ?_ (L.altCons true rfl rfl ?_ (L.altCons true rfl rfl ?_ (L.altCons true rfl rfl ?_ (L.altNil)))))
    · refine L.makeSliceO (n := b.lines.length) rfl Try.underlying37 Tf.s64 Tf.z64 rfl Tf.i64 rfl rfl (by omega) (zero_cells (by simp) rfl) rfl trivial (fun blo => ?_)
      refine L.nil ?_
      refine L.planForkN [] rfl ?_
      refine L.nil (L.altCons true rfl rfl ?_ (L.altCons true rfl rfl ?_ (L.altCons true rfl rfl ?_ (L.altNil))))
      · refine L.makeSliceO (n := b.lines.length + 1) rfl Try.underlying90 Tf.s80 Tf.z80 rfl Tf.i80 (by first | rfl | (show some (Value.int _ _) = some (Value.int _ _); congr 2; omega)) (by first | rfl | (show some (Value.int _ _) = some (Value.int _ _); congr 2; omega)) (by omega) ((zero_cells (by simp) rfl).trans (fs_zero _)) rfl trivial (fun bo => ?_)
        refine L.nil ?_
        refine L.planFork [] rfl ?_
        refine L.nil (L.forkP true true rfl rfl ?_ ?_)
        · refine L.alloc rfl Tf.z37 rfl rfl trivial (fun q2 => ?_)
          refine L.nil ?_
          refine L.planFin [(true,10),(true,11)] rfl ?_
          refine L.alloc rfl Tf.z90 rfl rfl trivial (fun q3 => ?_)
          refine L.apart hA (by simp) (fun hap => ?_)
          refine L.storeB (off := 0) (us := [.slice (some ⟨blo, 0, none⟩) b.lines.length b.lines.length]) (vs := [.slice none 0 0]) (ws := [.slice (some ⟨blo, 0, none⟩) b.lines.length b.lines.length]) rfl rfl rfl rfl Tf.s37 (.tail (Has.head)) (by simp) rfl (by simp [cell1]) (Or.inr (But.in_ (by rw [List.mem_singleton]; rintro rfl; exact hap (List.mem_map.2 ⟨_, (List.Mem.tail _ (List.Mem.head _)), rfl⟩)))) trivial ?_
          refine L.nil ?_
          exact fun a w hh => ⟨(q2, q3, bo, blo), trivial, (hh.perm (μ' := [(q3, .cells [.slice none 0 0].toArray 90 (0, 0)), (q2, .cells [.slice (some ⟨blo, 0, none⟩) b.lines.length b.lines.length].toArray 37 (0, 0)), (bo, .cells (flatSc (List.replicate (b.lines.length + 1) sc0)).toArray 80 (0, 0)), (blo, .cells (ints (List.replicate (b.lines.length * 3) 0)).toArray 64 (0, 0))]) (by simp) (by simp <;> omega)).weak ⟨rfl, rfl, rfl, rfl, rfl, rfl, trivial⟩ (List.Sublist.refl _) ds_same⟩
        · refine L.alloc rfl Tf.z90 rfl rfl trivial (fun q2 => ?_)
          refine L.nil ?_
          refine L.planFin [(true,9),(true,11)] rfl ?_
          refine L.alloc rfl Tf.z37 rfl rfl trivial (fun q3 => ?_)
          refine L.apart hA (by simp) (fun hap => ?_)
          refine L.storeB (off := 0) (us := [.slice (some ⟨blo, 0, none⟩) b.lines.length b.lines.length]) (vs := [.slice none 0 0]) (ws := [.slice (some ⟨blo, 0, none⟩) b.lines.length b.lines.length]) rfl rfl rfl rfl Tf.s37 (Has.head) (by simp) rfl (by simp [cell1]) (Or.inr (But.in_ (by rw [List.mem_singleton]; rintro rfl; exact hap (List.mem_map.2 ⟨_, (List.Mem.head _), rfl⟩)))) trivial ?_
          refine L.nil ?_
          exact fun a w hh => ⟨(q3, q2, bo, blo), trivial, (hh.perm (μ' := [(q2, .cells [.slice none 0 0].toArray 90 (0, 0)), (q3, .cells [.slice (some ⟨blo, 0, none⟩) b.lines.length b.lines.length].toArray 37 (0, 0)), (bo, .cells (flatSc (List.replicate (b.lines.length + 1) sc0)).toArray 80 (0, 0)), (blo, .cells (ints (List.replicate (b.lines.length * 3) 0)).toArray 64 (0, 0))]) (by simp) (by simp <;> omega)).weak ⟨rfl, rfl, rfl, rfl, rfl, rfl, trivial⟩ (List.Sublist.refl _) ds_same⟩
      · refine L.alloc rfl Tf.z37 rfl rfl trivial (fun q2 => ?_)
        refine L.nil ?_
        refine L.planFork [] rfl ?_
        refine L.nil (L.forkP true true rfl rfl ?_ ?_)
        · refine L.makeSliceO (n := b.lines.length + 1) rfl Try.underlying90 Tf.s80 Tf.z80 rfl Tf.i80 (by first | rfl | (show some (Value.int _ _) = some (Value.int _ _); congr 2; omega)) (by first | rfl | (show some (Value.int _ _) = some (Value.int _ _); congr 2; omega)) (by omega) ((zero_cells (by simp) rfl).trans (fs_zero _)) rfl trivial (fun bo => ?_)
          refine L.nil ?_
          refine L.planFin [(true,10),(true,11)] rfl ?_
          refine L.alloc rfl Tf.z90 rfl rfl trivial (fun q3 => ?_)
          refine L.apart hA (by simp) (fun hap => ?_)
          refine L.storeB (off := 0) (us := [.slice (some ⟨blo, 0, none⟩) b.lines.length b.lines.length]) (vs := [.slice none 0 0]) (ws := [.slice (some ⟨blo, 0, none⟩) b.lines.length b.lines.length]) rfl rfl rfl rfl Tf.s37 (.tail (.tail (Has.head))) (by simp) rfl (by simp [cell1]) (Or.inr (But.in_ (by rw [List.mem_singleton]; rintro rfl; exact hap (List.mem_map.2 ⟨_, (List.Mem.tail _ (List.Mem.tail _ (List.Mem.head _))), rfl⟩)))) trivial ?_
          refine L.nil ?_
          exact fun a w hh => ⟨(q2, q3, bo, blo), trivial, (hh.perm (μ' := [(q3, .cells [.slice none 0 0].toArray 90 (0, 0)), (q2, .cells [.slice (some ⟨blo, 0, none⟩) b.lines.length b.lines.length].toArray 37 (0, 0)), (bo, .cells (flatSc (List.replicate (b.lines.length + 1) sc0)).toArray 80 (0, 0)), (blo, .cells (ints (List.replicate (b.lines.length * 3) 0)).toArray 64 (0, 0))]) (by simp) (by simp <;> omega)).weak ⟨rfl, rfl, rfl, rfl, rfl, rfl, trivial⟩ (List.Sublist.refl _) ds_same⟩
        · refine L.alloc rfl Tf.z90 rfl rfl trivial (fun q3 => ?_)
          refine L.nil ?_
          refine L.planFork [] rfl ?_
          refine L.nil (L.forkP true true rfl rfl ?_ ?_)
          · refine L.makeSliceO (n := b.lines.length + 1) rfl Try.underlying90 Tf.s80 Tf.z80 rfl Tf.i80 (by first | rfl | (show some (Value.int _ _) = some (Value.int _ _); congr 2; omega)) (by first | rfl | (show some (Value.int _ _) = some (Value.int _ _); congr 2; omega)) (by omega) ((zero_cells (by simp) rfl).trans (fs_zero _)) rfl trivial (fun bo => ?_)
            refine L.nil ?_
            refine L.planFin [(true,11)] rfl ?_
            refine L.apart hA (by simp) (fun hap => ?_)
            refine L.storeB (off := 0) (us := [.slice (some ⟨blo, 0, none⟩) b.lines.length b.lines.length]) (vs := [.slice none 0 0]) (ws := [.slice (some ⟨blo, 0, none⟩) b.lines.length b.lines.length]) rfl rfl rfl rfl Tf.s37 (.tail (.tail (Has.head))) (by simp) rfl (by simp [cell1]) (Or.inr (But.in_ (by rw [List.mem_singleton]; rintro rfl; exact hap (List.mem_map.2 ⟨_, (List.Mem.tail _ (List.Mem.tail _ (List.Mem.head _))), rfl⟩)))) trivial ?_
            refine L.nil ?_
            exact fun a w hh => ⟨(q2, q3, bo, blo), trivial, (hh.perm (μ' := [(q3, .cells [.slice none 0 0].toArray 90 (0, 0)), (q2, .cells [.slice (some ⟨blo, 0, none⟩) b.lines.length b.lines.length].toArray 37 (0, 0)), (bo, .cells (flatSc (List.replicate (b.lines.length + 1) sc0)).toArray 80 (0, 0)), (blo, .cells (ints (List.replicate (b.lines.length * 3) 0)).toArray 64 (0, 0))]) (by simp) (by simp <;> omega)).weak ⟨rfl, rfl, rfl, rfl, rfl, rfl, trivial⟩ (List.Sublist.refl _) ds_same⟩
          · refine L.apart hA (by simp) (fun hap => ?_)
            refine L.storeB (off := 0) (us := [.slice (some ⟨blo, 0, none⟩) b.lines.length b.lines.length]) (vs := [.slice none 0 0]) (ws := [.slice (some ⟨blo, 0, none⟩) b.lines.length b.lines.length]) rfl rfl rfl rfl Tf.s37 (.tail (Has.head)) (by simp) rfl (by simp [cell1]) (Or.inr (But.in_ (by rw [List.mem_singleton]; rintro rfl; exact hap (List.mem_map.2 ⟨_, (List.Mem.tail _ (List.Mem.head _)), rfl⟩)))) trivial ?_
            refine L.nil ?_
            refine L.planFin [(true,8)] rfl ?_
            refine L.makeSliceO (n := b.lines.length + 1) rfl Try.underlying90 Tf.s80 Tf.z80 rfl Tf.i80 (by first | rfl | (show some (Value.int _ _) = some (Value.int _ _); congr 2; omega)) (by first | rfl | (show some (Value.int _ _) = some (Value.int _ _); congr 2; omega)) (by omega) ((zero_cells (by simp) rfl).trans (fs_zero _)) rfl trivial (fun bo => ?_)
            refine L.nil ?_
            exact fun a w hh => ⟨(q2, q3, bo, blo), trivial, (hh.perm (μ' := [(q3, .cells [.slice none 0 0].toArray 90 (0, 0)), (q2, .cells [.slice (some ⟨blo, 0, none⟩) b.lines.length b.lines.length].toArray 37 (0, 0)), (bo, .cells (flatSc (List.replicate (b.lines.length + 1) sc0)).toArray 80 (0, 0)), (blo, .cells (ints (List.replicate (b.lines.length * 3) 0)).toArray 64 (0, 0))]) (by simp) (by simp <;> omega)).weak ⟨rfl, rfl, rfl, rfl, rfl, rfl, trivial⟩ (List.Sublist.refl _) ds_same⟩
      · refine L.alloc rfl Tf.z90 rfl rfl trivial (fun q2 => ?_)
        refine L.nil ?_
        refine L.planFork [] rfl ?_
        refine L.nil (L.forkP true true rfl rfl ?_ ?_)
        · refine L.makeSliceO (n := b.lines.length + 1) rfl Try.underlying90 Tf.s80 Tf.z80 rfl Tf.i80 (by first | rfl | (show some (Value.int _ _) = some (Value.int _ _); congr 2; omega)) (by first | rfl | (show some (Value.int _ _) = some (Value.int _ _); congr 2; omega)) (by omega) ((zero_cells (by simp) rfl).trans (fs_zero _)) rfl trivial (fun bo => ?_)
          refine L.nil ?_
          refine L.planFin [(true,9),(true,11)] rfl ?_
          refine L.alloc rfl Tf.z37 rfl rfl trivial (fun q3 => ?_)
          refine L.apart hA (by simp) (fun hap => ?_)
          refine L.storeB (off := 0) (us := [.slice (some ⟨blo, 0, none⟩) b.lines.length b.lines.length]) (vs := [.slice none 0 0]) (ws := [.slice (some ⟨blo, 0, none⟩) b.lines.length b.lines.length]) rfl rfl rfl rfl Tf.s37 (Has.head) (by simp) rfl (by simp [cell1]) (Or.inr (But.in_ (by rw [List.mem_singleton]; rintro rfl; exact hap (List.mem_map.2 ⟨_, (List.Mem.head _), rfl⟩)))) trivial ?_
          refine L.nil ?_
          exact fun a w hh => ⟨(q3, q2, bo, blo), trivial, (hh.perm (μ' := [(q2, .cells [.slice none 0 0].toArray 90 (0, 0)), (q3, .cells [.slice (some ⟨blo, 0, none⟩) b.lines.length b.lines.length].toArray 37 (0, 0)), (bo, .cells (flatSc (List.replicate (b.lines.length + 1) sc0)).toArray 80 (0, 0)), (blo, .cells (ints (List.replicate (b.lines.length * 3) 0)).toArray 64 (0, 0))]) (by simp) (by simp <;> omega)).weak ⟨rfl, rfl, rfl, rfl, rfl, rfl, trivial⟩ (List.Sublist.refl _) ds_same⟩
        · refine L.alloc rfl Tf.z37 rfl rfl trivial (fun q3 => ?_)
          refine L.nil ?_
          refine L.planFork [] rfl ?_
          refine L.nil (L.forkP true true rfl rfl ?_ ?_)
          · refine L.makeSliceO (n := b.lines.length + 1) rfl Try.underlying90 Tf.s80 Tf.z80 rfl Tf.i80 (by first | rfl | (show some (Value.int _ _) = some (Value.int _ _); congr 2; omega)) (by first | rfl | (show some (Value.int _ _) = some (Value.int _ _); congr 2; omega)) (by omega) ((zero_cells (by simp) rfl).trans (fs_zero _)) rfl trivial (fun bo => ?_)
            refine L.nil ?_
            refine L.planFin [(true,11)] rfl ?_
            refine L.apart hA (by simp) (fun hap => ?_)
            refine L.storeB (off := 0) (us := [.slice (some ⟨blo, 0, none⟩) b.lines.length b.lines.length]) (vs := [.slice none 0 0]) (ws := [.slice (some ⟨blo, 0, none⟩) b.lines.length b.lines.length]) rfl rfl rfl rfl Tf.s37 (.tail (Has.head)) (by simp) rfl (by simp [cell1]) (Or.inr (But.in_ (by rw [List.mem_singleton]; rintro rfl; exact hap (List.mem_map.2 ⟨_, (List.Mem.tail _ (List.Mem.head _)), rfl⟩)))) trivial ?_
            refine L.nil ?_
            exact fun a w hh => ⟨(q3, q2, bo, blo), trivial, (hh.perm (μ' := [(q2, .cells [.slice none 0 0].toArray 90 (0, 0)), (q3, .cells [.slice (some ⟨blo, 0, none⟩) b.lines.length b.lines.length].toArray 37 (0, 0)), (bo, .cells (flatSc (List.replicate (b.lines.length + 1) sc0)).toArray 80 (0, 0)), (blo, .cells (ints (List.replicate (b.lines.length * 3) 0)).toArray 64 (0, 0))]) (by simp) (by simp <;> omega)).weak ⟨rfl, rfl, rfl, rfl, rfl, rfl, trivial⟩ (List.Sublist.refl _) ds_same⟩
          · refine L.apart hA (by simp) (fun hap => ?_)
            refine L.storeB (off := 0) (us := [.slice (some ⟨blo, 0, none⟩) b.lines.length b.lines.length]) (vs := [.slice none 0 0]) (ws := [.slice (some ⟨blo, 0, none⟩) b.lines.length b.lines.length]) rfl rfl rfl rfl Tf.s37 (Has.head) (by simp) rfl (by simp [cell1]) (Or.inr (But.in_ (by rw [List.mem_singleton]; rintro rfl; exact hap (List.mem_map.2 ⟨_, (List.Mem.head _), rfl⟩)))) trivial ?_
            refine L.nil ?_
            refine L.planFin [(true,8)] rfl ?_
            refine L.makeSliceO (n := b.lines.length + 1) rfl Try.underlying90 Tf.s80 Tf.z80 rfl Tf.i80 (by first | rfl | (show some (Value.int _ _) = some (Value.int _ _); congr 2; omega)) (by first | rfl | (show some (Value.int _ _) = some (Value.int _ _); congr 2; omega)) (by omega) ((zero_cells (by simp) rfl).trans (fs_zero _)) rfl trivial (fun bo => ?_)
            refine L.nil ?_
            exact fun a w hh => ⟨(q3, q2, bo, blo), trivial, (hh.perm (μ' := [(q2, .cells [.slice none 0 0].toArray 90 (0, 0)), (q3, .cells [.slice (some ⟨blo, 0, none⟩) b.lines.length b.lines.length].toArray 37 (0, 0)), (bo, .cells (flatSc (List.replicate (b.lines.length + 1) sc0)).toArray 80 (0, 0)), (blo, .cells (ints (List.replicate (b.lines.length * 3) 0)).toArray 64 (0, 0))]) (by simp) (by simp <;> omega)).weak ⟨rfl, rfl, rfl, rfl, rfl, rfl, trivial⟩ (List.Sublist.refl _) ds_same⟩
    · refine L.makeSliceO (n := b.lines.length + 1) rfl Try.underlying90 Tf.s80 Tf.z80 rfl Tf.i80 (by first | rfl | (show some (Value.int _ _) = some (Value.int _ _); congr 2; omega)) (by first | rfl | (show some (Value.int _ _) = some (Value.int _ _); congr 2; omega)) (by omega) ((zero_cells (by simp) rfl).trans (fs_zero _)) rfl trivial (fun bo => ?_)
      refine L.nil ?_
      refine L.planForkN [] rfl ?_
      refine L.nil (L.altCons true rfl rfl ?_ (L.altCons true rfl rfl ?_ (L.altCons true rfl rfl ?_ (L.altNil))))
      · refine L.makeSliceO (n := b.lines.length) rfl Try.underlying37 Tf.s64 Tf.z64 rfl Tf.i64 rfl rfl (by omega) (zero_cells (by simp) rfl) rfl trivial (fun blo => ?_)
        refine L.nil ?_
        refine L.planFork [] rfl ?_
        refine L.nil (L.forkP true true rfl rfl ?_ ?_)
        · refine L.alloc rfl Tf.z37 rfl rfl trivial (fun q2 => ?_)
          refine L.nil ?_
          refine L.planFin [(true,10),(true,11)] rfl ?_
          refine L.alloc rfl Tf.z90 rfl rfl trivial (fun q3 => ?_)
          refine L.apart hA (by simp) (fun hap => ?_)
          refine L.storeB (off := 0) (us := [.slice (some ⟨blo, 0, none⟩) b.lines.length b.lines.length]) (vs := [.slice none 0 0]) (ws := [.slice (some ⟨blo, 0, none⟩) b.lines.length b.lines.length]) rfl rfl rfl rfl Tf.s37 (.tail (Has.head)) (by simp) rfl (by simp [cell1]) (Or.inr (But.in_ (by rw [List.mem_singleton]; rintro rfl; exact hap (List.mem_map.2 ⟨_, (List.Mem.tail _ (List.Mem.head _)), rfl⟩)))) trivial ?_
          refine L.nil ?_
          exact fun a w hh => ⟨(q2, q3, bo, blo), trivial, (hh.perm (μ' := [(q3, .cells [.slice none 0 0].toArray 90 (0, 0)), (q2, .cells [.slice (some ⟨blo, 0, none⟩) b.lines.length b.lines.length].toArray 37 (0, 0)), (bo, .cells (flatSc (List.replicate (b.lines.length + 1) sc0)).toArray 80 (0, 0)), (blo, .cells (ints (List.replicate (b.lines.length * 3) 0)).toArray 64 (0, 0))]) (by simp) (by simp <;> omega)).weak ⟨rfl, rfl, rfl, rfl, rfl, rfl, trivial⟩ (List.Sublist.refl _) ds_same⟩
        · refine L.alloc rfl Tf.z90 rfl rfl trivial (fun q2 => ?_)
          refine L.nil ?_
          refine L.planFin [(true,9),(true,11)] rfl ?_
          refine L.alloc rfl Tf.z37 rfl rfl trivial (fun q3 => ?_)
          refine L.apart hA (by simp) (fun hap => ?_)
          refine L.storeB (off := 0) (us := [.slice (some ⟨blo, 0, none⟩) b.lines.length b.lines.length]) (vs := [.slice none 0 0]) (ws := [.slice (some ⟨blo, 0, none⟩) b.lines.length b.lines.length]) rfl rfl rfl rfl Tf.s37 (Has.head) (by simp) rfl (by simp [cell1]) (Or.inr (But.in_ (by rw [List.mem_singleton]; rintro rfl; exact hap (List.mem_map.2 ⟨_, (List.Mem.head _), rfl⟩)))) trivial ?_
          refine L.nil ?_
          exact fun a w hh => ⟨(q3, q2, bo, blo), trivial, (hh.perm (μ' := [(q2, .cells [.slice none 0 0].toArray 90 (0, 0)), (q3, .cells [.slice (some ⟨blo, 0, none⟩) b.lines.length b.lines.length].toArray 37 (0, 0)), (bo, .cells (flatSc (List.replicate (b.lines.length + 1) sc0)).toArray 80 (0, 0)), (blo, .cells (ints (List.replicate (b.lines.length * 3) 0)).toArray 64 (0, 0))]) (by simp) (by simp <;> omega)).weak ⟨rfl, rfl, rfl, rfl, rfl, rfl, trivial⟩ (List.Sublist.refl _) ds_same⟩
      · refine L.alloc rfl Tf.z37 rfl rfl trivial (fun q2 => ?_)
        refine L.nil ?_
        refine L.planFork [] rfl ?_
        refine L.nil (L.forkP true true rfl rfl ?_ ?_)
        · refine L.makeSliceO (n := b.lines.length) rfl Try.underlying37 Tf.s64 Tf.z64 rfl Tf.i64 rfl rfl (by omega) (zero_cells (by simp) rfl) rfl trivial (fun blo => ?_)
          refine L.nil ?_
          refine L.planFin [(true,10),(true,11)] rfl ?_
          refine L.alloc rfl Tf.z90 rfl rfl trivial (fun q3 => ?_)
          refine L.apart hA (by simp) (fun hap => ?_)
          refine L.storeB (off := 0) (us := [.slice (some ⟨blo, 0, none⟩) b.lines.length b.lines.length]) (vs := [.slice none 0 0]) (ws := [.slice (some ⟨blo, 0, none⟩) b.lines.length b.lines.length]) rfl rfl rfl rfl Tf.s37 (.tail (.tail (Has.head))) (by simp) rfl (by simp [cell1]) (Or.inr (But.in_ (by rw [List.mem_singleton]; rintro rfl; exact hap (List.mem_map.2 ⟨_, (List.Mem.tail _ (List.Mem.tail _ (List.Mem.head _))), rfl⟩)))) trivial ?_
          refine L.nil ?_
          exact fun a w hh => ⟨(q2, q3, bo, blo), trivial, (hh.perm (μ' := [(q3, .cells [.slice none 0 0].toArray 90 (0, 0)), (q2, .cells [.slice (some ⟨blo, 0, none⟩) b.lines.length b.lines.length].toArray 37 (0, 0)), (bo, .cells (flatSc (List.replicate (b.lines.length + 1) sc0)).toArray 80 (0, 0)), (blo, .cells (ints (List.replicate (b.lines.length * 3) 0)).toArray 64 (0, 0))]) (by simp) (by simp <;> omega)).weak ⟨rfl, rfl, rfl, rfl, rfl, rfl, trivial⟩ (List.Sublist.refl _) ds_same⟩
        · refine L.alloc rfl Tf.z90 rfl rfl trivial (fun q3 => ?_)
          refine L.nil ?_
          refine L.planFin [(true,3),(true,11)] rfl ?_
          refine L.makeSliceO (n := b.lines.length) rfl Try.underlying37 Tf.s64 Tf.z64 rfl Tf.i64 rfl rfl (by omega) (zero_cells (by simp) rfl) rfl trivial (fun blo => ?_)
          refine L.apart hA (by simp) (fun hap => ?_)
          refine L.storeB (off := 0) (us := [.slice (some ⟨blo, 0, none⟩) b.lines.length b.lines.length]) (vs := [.slice none 0 0]) (ws := [.slice (some ⟨blo, 0, none⟩) b.lines.length b.lines.length]) rfl rfl rfl rfl Tf.s37 (.tail (.tail (Has.head))) (by simp) rfl (by simp [cell1]) (Or.inr (But.in_ (by rw [List.mem_singleton]; rintro rfl; exact hap (List.mem_map.2 ⟨_, (List.Mem.tail _ (List.Mem.tail _ (List.Mem.head _))), rfl⟩)))) trivial ?_
          refine L.nil ?_
          exact fun a w hh => ⟨(q2, q3, bo, blo), trivial, (hh.perm (μ' := [(q3, .cells [.slice none 0 0].toArray 90 (0, 0)), (q2, .cells [.slice (some ⟨blo, 0, none⟩) b.lines.length b.lines.length].toArray 37 (0, 0)), (bo, .cells (flatSc (List.replicate (b.lines.length + 1) sc0)).toArray 80 (0, 0)), (blo, .cells (ints (List.replicate (b.lines.length * 3) 0)).toArray 64 (0, 0))]) (by simp) (by simp <;> omega)).weak ⟨rfl, rfl, rfl, rfl, rfl, rfl, trivial⟩ (List.Sublist.refl _) ds_same⟩
      · refine L.alloc rfl Tf.z90 rfl rfl trivial (fun q2 => ?_)
        refine L.nil ?_
        refine L.planFork [] rfl ?_
        refine L.nil (L.forkP true true rfl rfl ?_ ?_)
        · refine L.makeSliceO (n := b.lines.length) rfl Try.underlying37 Tf.s64 Tf.z64 rfl Tf.i64 rfl rfl (by omega) (zero_cells (by simp) rfl) rfl trivial (fun blo => ?_)
          refine L.nil ?_
          refine L.planFin [(true,9),(true,11)] rfl ?_
          refine L.alloc rfl Tf.z37 rfl rfl trivial (fun q3 => ?_)
          refine L.apart hA (by simp) (fun hap => ?_)
          refine L.storeB (off := 0) (us := [.slice (some ⟨blo, 0, none⟩) b.lines.length b.lines.length]) (vs := [.slice none 0 0]) (ws := [.slice (some ⟨blo, 0, none⟩) b.lines.length b.lines.length]) rfl rfl rfl rfl Tf.s37 (Has.head) (by simp) rfl (by simp [cell1]) (Or.inr (But.in_ (by rw [List.mem_singleton]; rintro rfl; exact hap (List.mem_map.2 ⟨_, (List.Mem.head _), rfl⟩)))) trivial ?_
          refine L.nil ?_
          exact fun a w hh => ⟨(q3, q2, bo, blo), trivial, (hh.perm (μ' := [(q2, .cells [.slice none 0 0].toArray 90 (0, 0)), (q3, .cells [.slice (some ⟨blo, 0, none⟩) b.lines.length b.lines.length].toArray 37 (0, 0)), (bo, .cells (flatSc (List.replicate (b.lines.length + 1) sc0)).toArray 80 (0, 0)), (blo, .cells (ints (List.replicate (b.lines.length * 3) 0)).toArray 64 (0, 0))]) (by simp) (by simp <;> omega)).weak ⟨rfl, rfl, rfl, rfl, rfl, rfl, trivial⟩ (List.Sublist.refl _) ds_same⟩
        · refine L.alloc rfl Tf.z37 rfl rfl trivial (fun q3 => ?_)
          refine L.nil ?_
          refine L.planFin [(true,3),(true,11)] rfl ?_
          refine L.makeSliceO (n := b.lines.length) rfl Try.underlying37 Tf.s64 Tf.z64 rfl Tf.i64 rfl rfl (by omega) (zero_cells (by simp) rfl) rfl trivial (fun blo => ?_)
          refine L.apart hA (by simp) (fun hap => ?_)
          refine L.storeB (off := 0) (us := [.slice (some ⟨blo, 0, none⟩) b.lines.length b.lines.length]) (vs := [.slice none 0 0]) (ws := [.slice (some ⟨blo, 0, none⟩) b.lines.length b.lines.length]) rfl rfl rfl rfl Tf.s37 (.tail (Has.head)) (by simp) rfl (by simp [cell1]) (Or.inr (But.in_ (by rw [List.mem_singleton]; rintro rfl; exact hap (List.mem_map.2 ⟨_, (List.Mem.tail _ (List.Mem.head _)), rfl⟩)))) trivial ?_
          refine L.nil ?_
          exact fun a w hh => ⟨(q3, q2, bo, blo), trivial, (hh.perm (μ' := [(q2, .cells [.slice none 0 0].toArray 90 (0, 0)), (q3, .cells [.slice (some ⟨blo, 0, none⟩) b.lines.length b.lines.length].toArray 37 (0, 0)), (bo, .cells (flatSc (List.replicate (b.lines.length + 1) sc0)).toArray 80 (0, 0)), (blo, .cells (ints (List.replicate (b.lines.length * 3) 0)).toArray 64 (0, 0))]) (by simp) (by simp <;> omega)).weak ⟨rfl, rfl, rfl, rfl, rfl, rfl, trivial⟩ (List.Sublist.refl _) ds_same⟩
    · refine L.alloc rfl Tf.z37 rfl rfl trivial (fun q2 => ?_)
      refine L.nil ?_
      refine L.planForkN [] rfl ?_
      refine L.nil (L.altCons true rfl rfl ?_ (L.altCons true rfl rfl ?_ (L.altCons true rfl rfl ?_ (L.altNil))))
      · refine L.makeSliceO (n := b.lines.length) rfl Try.underlying37 Tf.s64 Tf.z64 rfl Tf.i64 rfl rfl (by omega) (zero_cells (by simp) rfl) rfl trivial (fun blo => ?_)
        refine L.nil ?_
        refine L.planFork [] rfl ?_
        refine L.nil (L.forkP true true rfl rfl ?_ ?_)
        · refine L.makeSliceO (n := b.lines.length + 1) rfl Try.underlying90 Tf.s80 Tf.z80 rfl Tf.i80 (by first | rfl | (show some (Value.int _ _) = some (Value.int _ _); congr 2; omega)) (by first | rfl | (show some (Value.int _ _) = some (Value.int _ _); congr 2; omega)) (by omega) ((zero_cells (by simp) rfl).trans (fs_zero _)) rfl trivial (fun bo => ?_)
          refine L.nil ?_
          refine L.planFin [(true,10),(true,11)] rfl ?_
          refine L.alloc rfl Tf.z90 rfl rfl trivial (fun q3 => ?_)
          refine L.apart hA (by simp) (fun hap => ?_)
          refine L.storeB (off := 0) (us := [.slice (some ⟨blo, 0, none⟩) b.lines.length b.lines.length]) (vs := [.slice none 0 0]) (ws := [.slice (some ⟨blo, 0, none⟩) b.lines.length b.lines.length]) rfl rfl rfl rfl Tf.s37 (.tail (.tail (.tail (Has.head)))) (by simp) rfl (by simp [cell1]) (Or.inr (But.in_ (by rw [List.mem_singleton]; rintro rfl; exact hap (List.mem_map.2 ⟨_, (List.Mem.tail _ (List.Mem.tail _ (List.Mem.tail _ (List.Mem.head _)))), rfl⟩)))) trivial ?_
          refine L.nil ?_
          exact fun a w hh => ⟨(q2, q3, bo, blo), trivial, (hh.perm (μ' := [(q3, .cells [.slice none 0 0].toArray 90 (0, 0)), (q2, .cells [.slice (some ⟨blo, 0, none⟩) b.lines.length b.lines.length].toArray 37 (0, 0)), (bo, .cells (flatSc (List.replicate (b.lines.length + 1) sc0)).toArray 80 (0, 0)), (blo, .cells (ints (List.replicate (b.lines.length * 3) 0)).toArray 64 (0, 0))]) (by simp) (by simp <;> omega)).weak ⟨rfl, rfl, rfl, rfl, rfl, rfl, trivial⟩ (List.Sublist.refl _) ds_same⟩
        · refine L.alloc rfl Tf.z90 rfl rfl trivial (fun q3 => ?_)
          refine L.nil ?_
          refine L.planFork [] rfl ?_
          refine L.nil (L.forkP true true rfl rfl ?_ ?_)
          · refine L.makeSliceO (n := b.lines.length + 1) rfl Try.underlying90 Tf.s80 Tf.z80 rfl Tf.i80 (by first | rfl | (show some (Value.int _ _) = some (Value.int _ _); congr 2; omega)) (by first | rfl | (show some (Value.int _ _) = some (Value.int _ _); congr 2; omega)) (by omega) ((zero_cells (by simp) rfl).trans (fs_zero _)) rfl trivial (fun bo => ?_)
            refine L.nil ?_
            refine L.planFin [(true,11)] rfl ?_
            refine L.apart hA (by simp) (fun hap => ?_)
            refine L.storeB (off := 0) (us := [.slice (some ⟨blo, 0, none⟩) b.lines.length b.lines.length]) (vs := [.slice none 0 0]) (ws := [.slice (some ⟨blo, 0, none⟩) b.lines.length b.lines.length]) rfl rfl rfl rfl Tf.s37 (.tail (.tail (.tail (Has.head)))) (by simp) rfl (by simp [cell1]) (Or.inr (But.in_ (by rw [List.mem_singleton]; rintro rfl; exact hap (List.mem_map.2 ⟨_, (List.Mem.tail _ (List.Mem.tail _ (List.Mem.tail _ (List.Mem.head _)))), rfl⟩)))) trivial ?_
            refine L.nil ?_
            exact fun a w hh => ⟨(q2, q3, bo, blo), trivial, (hh.perm (μ' := [(q3, .cells [.slice none 0 0].toArray 90 (0, 0)), (q2, .cells [.slice (some ⟨blo, 0, none⟩) b.lines.length b.lines.length].toArray 37 (0, 0)), (bo, .cells (flatSc (List.replicate (b.lines.length + 1) sc0)).toArray 80 (0, 0)), (blo, .cells (ints (List.replicate (b.lines.length * 3) 0)).toArray 64 (0, 0))]) (by simp) (by simp <;> omega)).weak ⟨rfl, rfl, rfl, rfl, rfl, rfl, trivial⟩ (List.Sublist.refl _) ds_same⟩
          · refine L.apart hA (by simp) (fun hap => ?_)
            refine L.storeB (off := 0) (us := [.slice (some ⟨blo, 0, none⟩) b.lines.length b.lines.length]) (vs := [.slice none 0 0]) (ws := [.slice (some ⟨blo, 0, none⟩) b.lines.length b.lines.length]) rfl rfl rfl rfl Tf.s37 (.tail (.tail (Has.head))) (by simp) rfl (by simp [cell1]) (Or.inr (But.in_ (by rw [List.mem_singleton]; rintro rfl; exact hap (List.mem_map.2 ⟨_, (List.Mem.tail _ (List.Mem.tail _ (List.Mem.head _))), rfl⟩)))) trivial ?_
            refine L.nil ?_
            refine L.planFin [(true,8)] rfl ?_
            refine L.makeSliceO (n := b.lines.length + 1) rfl Try.underlying90 Tf.s80 Tf.z80 rfl Tf.i80 (by first | rfl | (show some (Value.int _ _) = some (Value.int _ _); congr 2; omega)) (by first | rfl | (show some (Value.int _ _) = some (Value.int _ _); congr 2; omega)) (by omega) ((zero_cells (by simp) rfl).trans (fs_zero _)) rfl trivial (fun bo => ?_)
            refine L.nil ?_
            exact fun a w hh => ⟨(q2, q3, bo, blo), trivial, (hh.perm (μ' := [(q3, .cells [.slice none 0 0].toArray 90 (0, 0)), (q2, .cells [.slice (some ⟨blo, 0, none⟩) b.lines.length b.lines.length].toArray 37 (0, 0)), (bo, .cells (flatSc (List.replicate (b.lines.length + 1) sc0)).toArray 80 (0, 0)), (blo, .cells (ints (List.replicate (b.lines.length * 3) 0)).toArray 64 (0, 0))]) (by simp) (by simp <;> omega)).weak ⟨rfl, rfl, rfl, rfl, rfl, rfl, trivial⟩ (List.Sublist.refl _) ds_same⟩
      · refine L.makeSliceO (n := b.lines.length + 1) rfl Try.underlying90 Tf.s80 Tf.z80 rfl Tf.i80 (by first | rfl | (show some (Value.int _ _) = some (Value.int _ _); congr 2; omega)) (by first | rfl | (show some (Value.int _ _) = some (Value.int _ _); congr 2; omega)) (by omega) ((zero_cells (by simp) rfl).trans (fs_zero _)) rfl trivial (fun bo => ?_)
        refine L.nil ?_
        refine L.planFork [] rfl ?_
        refine L.nil (L.forkP true true rfl rfl ?_ ?_)
        · refine L.makeSliceO (n := b.lines.length) rfl Try.underlying37 Tf.s64 Tf.z64 rfl Tf.i64 rfl rfl (by omega) (zero_cells (by simp) rfl) rfl trivial (fun blo => ?_)
          refine L.nil ?_
          refine L.planFin [(true,10),(true,11)] rfl ?_
          refine L.alloc rfl Tf.z90 rfl rfl trivial (fun q3 => ?_)
          refine L.apart hA (by simp) (fun hap => ?_)
          refine L.storeB (off := 0) (us := [.slice (some ⟨blo, 0, none⟩) b.lines.length b.lines.length]) (vs := [.slice none 0 0]) (ws := [.slice (some ⟨blo, 0, none⟩) b.lines.length b.lines.length]) rfl rfl rfl rfl Tf.s37 (.tail (.tail (.tail (Has.head)))) (by simp) rfl (by simp [cell1]) (Or.inr (But.in_ (by rw [List.mem_singleton]; rintro rfl; exact hap (List.mem_map.2 ⟨_, (List.Mem.tail _ (List.Mem.tail _ (List.Mem.tail _ (List.Mem.head _)))), rfl⟩)))) trivial ?_
          refine L.nil ?_
          exact fun a w hh => ⟨(q2, q3, bo, blo), trivial, (hh.perm (μ' := [(q3, .cells [.slice none 0 0].toArray 90 (0, 0)), (q2, .cells [.slice (some ⟨blo, 0, none⟩) b.lines.length b.lines.length].toArray 37 (0, 0)), (bo, .cells (flatSc (List.replicate (b.lines.length + 1) sc0)).toArray 80 (0, 0)), (blo, .cells (ints (List.replicate (b.lines.length * 3) 0)).toArray 64 (0, 0))]) (by simp) (by simp <;> omega)).weak ⟨rfl, rfl, rfl, rfl, rfl, rfl, trivial⟩ (List.Sublist.refl _) ds_same⟩
        · refine L.alloc rfl Tf.z90 rfl rfl trivial (fun q3 => ?_)
          refine L.nil ?_
          refine L.planFin [(true,3),(true,11)] rfl ?_
          refine L.makeSliceO (n := b.lines.length) rfl Try.underlying37 Tf.s64 Tf.z64 rfl Tf.i64 rfl rfl (by omega) (zero_cells (by simp) rfl) rfl trivial (fun blo => ?_)
          refine L.apart hA (by simp) (fun hap => ?_)
          refine L.storeB (off := 0) (us := [.slice (some ⟨blo, 0, none⟩) b.lines.length b.lines.length]) (vs := [.slice none 0 0]) (ws := [.slice (some ⟨blo, 0, none⟩) b.lines.length b.lines.length]) rfl rfl rfl rfl Tf.s37 (.tail (.tail (.tail (Has.head)))) (by simp) rfl (by simp [cell1]) (Or.inr (But.in_ (by rw [List.mem_singleton]; rintro rfl; exact hap (List.mem_map.2 ⟨_, (List.Mem.tail _ (List.Mem.tail _ (List.Mem.tail _ (List.Mem.head _)))), rfl⟩)))) trivial ?_
          refine L.nil ?_
          exact fun a w hh => ⟨(q2, q3, bo, blo), trivial, (hh.perm (μ' := [(q3, .cells [.slice none 0 0].toArray 90 (0, 0)), (q2, .cells [.slice (some ⟨blo, 0, none⟩) b.lines.length b.lines.length].toArray 37 (0, 0)), (bo, .cells (flatSc (List.replicate (b.lines.length + 1) sc0)).toArray 80 (0, 0)), (blo, .cells (ints (List.replicate (b.lines.length * 3) 0)).toArray 64 (0, 0))]) (by simp) (by simp <;> omega)).weak ⟨rfl, rfl, rfl, rfl, rfl, rfl, trivial⟩ (List.Sublist.refl _) ds_same⟩
      · refine L.alloc rfl Tf.z90 rfl rfl trivial (fun q3 => ?_)
        refine L.nil ?_
        refine L.planFork [] rfl ?_
        refine L.nil (L.forkP true true rfl rfl ?_ ?_)
        · refine L.makeSliceO (n := b.lines.length) rfl Try.underlying37 Tf.s64 Tf.z64 rfl Tf.i64 rfl rfl (by omega) (zero_cells (by simp) rfl) rfl trivial (fun blo => ?_)
          refine L.nil ?_
          refine L.planFork [] rfl ?_
          refine L.nil (L.forkP true true rfl rfl ?_ ?_)
          · refine L.makeSliceO (n := b.lines.length + 1) rfl Try.underlying90 Tf.s80 Tf.z80 rfl Tf.i80 (by first | rfl | (show some (Value.int _ _) = some (Value.int _ _); congr 2; omega)) (by first | rfl | (show some (Value.int _ _) = some (Value.int _ _); congr 2; omega)) (by omega) ((zero_cells (by simp) rfl).trans (fs_zero _)) rfl trivial (fun bo => ?_)
            refine L.nil ?_
            refine L.planFin [(true,11)] rfl ?_
            refine L.apart hA (by simp) (fun hap => ?_)
            refine L.storeB (off := 0) (us := [.slice (some ⟨blo, 0, none⟩) b.lines.length b.lines.length]) (vs := [.slice none 0 0]) (ws := [.slice (some ⟨blo, 0, none⟩) b.lines.length b.lines.length]) rfl rfl rfl rfl Tf.s37 (.tail (.tail (.tail (Has.head)))) (by simp) rfl (by simp [cell1]) (Or.inr (But.in_ (by rw [List.mem_singleton]; rintro rfl; exact hap (List.mem_map.2 ⟨_, (List.Mem.tail _ (List.Mem.tail _ (List.Mem.tail _ (List.Mem.head _)))), rfl⟩)))) trivial ?_
            refine L.nil ?_
            exact fun a w hh => ⟨(q2, q3, bo, blo), trivial, (hh.perm (μ' := [(q3, .cells [.slice none 0 0].toArray 90 (0, 0)), (q2, .cells [.slice (some ⟨blo, 0, none⟩) b.lines.length b.lines.length].toArray 37 (0, 0)), (bo, .cells (flatSc (List.replicate (b.lines.length + 1) sc0)).toArray 80 (0, 0)), (blo, .cells (ints (List.replicate (b.lines.length * 3) 0)).toArray 64 (0, 0))]) (by simp) (by simp <;> omega)).weak ⟨rfl, rfl, rfl, rfl, rfl, rfl, trivial⟩ (List.Sublist.refl _) ds_same⟩
          · refine L.apart hA (by simp) (fun hap => ?_)
            refine L.storeB (off := 0) (us := [.slice (some ⟨blo, 0, none⟩) b.lines.length b.lines.length]) (vs := [.slice none 0 0]) (ws := [.slice (some ⟨blo, 0, none⟩) b.lines.length b.lines.length]) rfl rfl rfl rfl Tf.s37 (.tail (.tail (Has.head))) (by simp) rfl (by simp [cell1]) (Or.inr (But.in_ (by rw [List.mem_singleton]; rintro rfl; exact hap (List.mem_map.2 ⟨_, (List.Mem.tail _ (List.Mem.tail _ (List.Mem.head _))), rfl⟩)))) trivial ?_
            refine L.nil ?_
            refine L.planFin [(true,8)] rfl ?_
            refine L.makeSliceO (n := b.lines.length + 1) rfl Try.underlying90 Tf.s80 Tf.z80 rfl Tf.i80 (by first | rfl | (show some (Value.int _ _) = some (Value.int _ _); congr 2; omega)) (by first | rfl | (show some (Value.int _ _) = some (Value.int _ _); congr 2; omega)) (by omega) ((zero_cells (by simp) rfl).trans (fs_zero _)) rfl trivial (fun bo => ?_)
            refine L.nil ?_
            exact fun a w hh => ⟨(q2, q3, bo, blo), trivial, (hh.perm (μ' := [(q3, .cells [.slice none 0 0].toArray 90 (0, 0)), (q2, .cells [.slice (some ⟨blo, 0, none⟩) b.lines.length b.lines.length].toArray 37 (0, 0)), (bo, .cells (flatSc (List.replicate (b.lines.length + 1) sc0)).toArray 80 (0, 0)), (blo, .cells (ints (List.replicate (b.lines.length * 3) 0)).toArray 64 (0, 0))]) (by simp) (by simp <;> omega)).weak ⟨rfl, rfl, rfl, rfl, rfl, rfl, trivial⟩ (List.Sublist.refl _) ds_same⟩
        · refine L.makeSliceO (n := b.lines.length + 1) rfl Try.underlying90 Tf.s80 Tf.z80 rfl Tf.i80 (by first | rfl | (show some (Value.int _ _) = some (Value.int _ _); congr 2; omega)) (by first | rfl | (show some (Value.int _ _) = some (Value.int _ _); congr 2; omega)) (by omega) ((zero_cells (by simp) rfl).trans (fs_zero _)) rfl trivial (fun bo => ?_)
          refine L.nil ?_
          refine L.planFin [(true,3),(true,11)] rfl ?_
          refine L.makeSliceO (n := b.lines.length) rfl Try.underlying37 Tf.s64 Tf.z64 rfl Tf.i64 rfl rfl (by omega) (zero_cells (by simp) rfl) rfl trivial (fun blo => ?_)
          refine L.apart hA (by simp) (fun hap => ?_)
          refine L.storeB (off := 0) (us := [.slice (some ⟨blo, 0, none⟩) b.lines.length b.lines.length]) (vs := [.slice none 0 0]) (ws := [.slice (some ⟨blo, 0, none⟩) b.lines.length b.lines.length]) rfl rfl rfl rfl Tf.s37 (.tail (.tail (.tail (Has.head)))) (by simp) rfl (by simp [cell1]) (Or.inr (But.in_ (by rw [List.mem_singleton]; rintro rfl; exact hap (List.mem_map.2 ⟨_, (List.Mem.tail _ (List.Mem.tail _ (List.Mem.tail _ (List.Mem.head _)))), rfl⟩)))) trivial ?_
          refine L.nil ?_
          exact fun a w hh => ⟨(q2, q3, bo, blo), trivial, (hh.perm (μ' := [(q3, .cells [.slice none 0 0].toArray 90 (0, 0)), (q2, .cells [.slice (some ⟨blo, 0, none⟩) b.lines.length b.lines.length].toArray 37 (0, 0)), (bo, .cells (flatSc (List.replicate (b.lines.length + 1) sc0)).toArray 80 (0, 0)), (blo, .cells (ints (List.replicate (b.lines.length * 3) 0)).toArray 64 (0, 0))]) (by simp) (by simp <;> omega)).weak ⟨rfl, rfl, rfl, rfl, rfl, rfl, trivial⟩ (List.Sublist.refl _) ds_same⟩
    · refine L.alloc rfl Tf.z90 rfl rfl trivial (fun q2 => ?_)
      refine L.nil ?_
      refine L.planForkN [] rfl ?_
      refine L.nil (L.altCons true rfl rfl ?_ (L.altCons true rfl rfl ?_ (L.altCons true rfl rfl ?_ (L.altNil))))
      · refine L.makeSliceO (n := b.lines.length) rfl Try.underlying37 Tf.s64 Tf.z64 rfl Tf.i64 rfl rfl (by omega) (zero_cells (by simp) rfl) rfl trivial (fun blo => ?_)
        refine L.nil ?_
        refine L.planFork [] rfl ?_
        refine L.nil (L.forkP true true rfl rfl ?_ ?_)
        · refine L.makeSliceO (n := b.lines.length + 1) rfl Try.underlying90 Tf.s80 Tf.z80 rfl Tf.i80 (by first | rfl | (show some (Value.int _ _) = some (Value.int _ _); congr 2; omega)) (by first | rfl | (show some (Value.int _ _) = some (Value.int _ _); congr 2; omega)) (by omega) ((zero_cells (by simp) rfl).trans (fs_zero _)) rfl trivial (fun bo => ?_)
          refine L.nil ?_
          refine L.planFin [(true,9),(true,11)] rfl ?_
          refine L.alloc rfl Tf.z37 rfl rfl trivial (fun q3 => ?_)
          refine L.apart hA (by simp) (fun hap => ?_)
          refine L.storeB (off := 0) (us := [.slice (some ⟨blo, 0, none⟩) b.lines.length b.lines.length]) (vs := [.slice none 0 0]) (ws := [.slice (some ⟨blo, 0, none⟩) b.lines.length b.lines.length]) rfl rfl rfl rfl Tf.s37 (Has.head) (by simp) rfl (by simp [cell1]) (Or.inr (But.in_ (by rw [List.mem_singleton]; rintro rfl; exact hap (List.mem_map.2 ⟨_, (List.Mem.head _), rfl⟩)))) trivial ?_
          refine L.nil ?_
          exact fun a w hh => ⟨(q3, q2, bo, blo), trivial, (hh.perm (μ' := [(q2, .cells [.slice none 0 0].toArray 90 (0, 0)), (q3, .cells [.slice (some ⟨blo, 0, none⟩) b.lines.length b.lines.length].toArray 37 (0, 0)), (bo, .cells (flatSc (List.replicate (b.lines.length + 1) sc0)).toArray 80 (0, 0)), (blo, .cells (ints (List.replicate (b.lines.length * 3) 0)).toArray 64 (0, 0))]) (by simp) (by simp <;> omega)).weak ⟨rfl, rfl, rfl, rfl, rfl, rfl, trivial⟩ (List.Sublist.refl _) ds_same⟩
        · refine L.alloc rfl Tf.z37 rfl rfl trivial (fun q3 => ?_)
          refine L.nil ?_
          refine L.planFork [] rfl ?_
          refine L.nil (L.forkP true true rfl rfl ?_ ?_)
          · refine L.makeSliceO (n := b.lines.length + 1) rfl Try.underlying90 Tf.s80 Tf.z80 rfl Tf.i80 (by first | rfl | (show some (Value.int _ _) = some (Value.int _ _); congr 2; omega)) (by first | rfl | (show some (Value.int _ _) = some (Value.int _ _); congr 2; omega)) (by omega) ((zero_cells (by simp) rfl).trans (fs_zero _)) rfl trivial (fun bo => ?_)
            refine L.nil ?_
            refine L.planFin [(true,11)] rfl ?_
            refine L.apart hA (by simp) (fun hap => ?_)
            refine L.storeB (off := 0) (us := [.slice (some ⟨blo, 0, none⟩) b.lines.length b.lines.length]) (vs := [.slice none 0 0]) (ws := [.slice (some ⟨blo, 0, none⟩) b.lines.length b.lines.length]) rfl rfl rfl rfl Tf.s37 (.tail (Has.head)) (by simp) rfl (by simp [cell1]) (Or.inr (But.in_ (by rw [List.mem_singleton]; rintro rfl; exact hap (List.mem_map.2 ⟨_, (List.Mem.tail _ (List.Mem.head _)), rfl⟩)))) trivial ?_
            refine L.nil ?_
            exact fun a w hh => ⟨(q3, q2, bo, blo), trivial, (hh.perm (μ' := [(q2, .cells [.slice none 0 0].toArray 90 (0, 0)), (q3, .cells [.slice (some ⟨blo, 0, none⟩) b.lines.length b.lines.length].toArray 37 (0, 0)), (bo, .cells (flatSc (List.replicate (b.lines.length + 1) sc0)).toArray 80 (0, 0)), (blo, .cells (ints (List.replicate (b.lines.length * 3) 0)).toArray 64 (0, 0))]) (by simp) (by simp <;> omega)).weak ⟨rfl, rfl, rfl, rfl, rfl, rfl, trivial⟩ (List.Sublist.refl _) ds_same⟩
          · refine L.apart hA (by simp) (fun hap => ?_)
            refine L.storeB (off := 0) (us := [.slice (some ⟨blo, 0, none⟩) b.lines.length b.lines.length]) (vs := [.slice none 0 0]) (ws := [.slice (some ⟨blo, 0, none⟩) b.lines.length b.lines.length]) rfl rfl rfl rfl Tf.s37 (Has.head) (by simp) rfl (by simp [cell1]) (Or.inr (But.in_ (by rw [List.mem_singleton]; rintro rfl; exact hap (List.mem_map.2 ⟨_, (List.Mem.head _), rfl⟩)))) trivial ?_
            refine L.nil ?_
            refine L.planFin [(true,8)] rfl ?_
            refine L.makeSliceO (n := b.lines.length + 1) rfl Try.underlying90 Tf.s80 Tf.z80 rfl Tf.i80 (by first | rfl | (show some (Value.int _ _) = some (Value.int _ _); congr 2; omega)) (by first | rfl | (show some (Value.int _ _) = some (Value.int _ _); congr 2; omega)) (by omega) ((zero_cells (by simp) rfl).trans (fs_zero _)) rfl trivial (fun bo => ?_)
            refine L.nil ?_
            exact fun a w hh => ⟨(q3, q2, bo, blo), trivial, (hh.perm (μ' := [(q2, .cells [.slice none 0 0].toArray 90 (0, 0)), (q3, .cells [.slice (some ⟨blo, 0, none⟩) b.lines.length b.lines.length].toArray 37 (0, 0)), (bo, .cells (flatSc (List.replicate (b.lines.length + 1) sc0)).toArray 80 (0, 0)), (blo, .cells (ints (List.replicate (b.lines.length * 3) 0)).toArray 64 (0, 0))]) (by simp) (by simp <;> omega)).weak ⟨rfl, rfl, rfl, rfl, rfl, rfl, trivial⟩ (List.Sublist.refl _) ds_same⟩
      · refine L.makeSliceO (n := b.lines.length + 1) rfl Try.underlying90 Tf.s80 Tf.z80 rfl Tf.i80 (by first | rfl | (show some (Value.int _ _) = some (Value.int _ _); congr 2; omega)) (by first | rfl | (show some (Value.int _ _) = some (Value.int _ _); congr 2; omega)) (by omega) ((zero_cells (by simp) rfl).trans (fs_zero _)) rfl trivial (fun bo => ?_)
        refine L.nil ?_
        refine L.planFork [] rfl ?_
        refine L.nil (L.forkP true true rfl rfl ?_ ?_)
        · refine L.makeSliceO (n := b.lines.length) rfl Try.underlying37 Tf.s64 Tf.z64 rfl Tf.i64 rfl rfl (by omega) (zero_cells (by simp) rfl) rfl trivial (fun blo => ?_)
          refine L.nil ?_
          refine L.planFin [(true,9),(true,11)] rfl ?_
          refine L.alloc rfl Tf.z37 rfl rfl trivial (fun q3 => ?_)
          refine L.apart hA (by simp) (fun hap => ?_)
          refine L.storeB (off := 0) (us := [.slice (some ⟨blo, 0, none⟩) b.lines.length b.lines.length]) (vs := [.slice none 0 0]) (ws := [.slice (some ⟨blo, 0, none⟩) b.lines.length b.lines.length]) rfl rfl rfl rfl Tf.s37 (Has.head) (by simp) rfl (by simp [cell1]) (Or.inr (But.in_ (by rw [List.mem_singleton]; rintro rfl; exact hap (List.mem_map.2 ⟨_, (List.Mem.head _), rfl⟩)))) trivial ?_
          refine L.nil ?_
          exact fun a w hh => ⟨(q3, q2, bo, blo), trivial, (hh.perm (μ' := [(q2, .cells [.slice none 0 0].toArray 90 (0, 0)), (q3, .cells [.slice (some ⟨blo, 0, none⟩) b.lines.length b.lines.length].toArray 37 (0, 0)), (bo, .cells (flatSc (List.replicate (b.lines.length + 1) sc0)).toArray 80 (0, 0)), (blo, .cells (ints (List.replicate (b.lines.length * 3) 0)).toArray 64 (0, 0))]) (by simp) (by simp <;> omega)).weak ⟨rfl, rfl, rfl, rfl, rfl, rfl, trivial⟩ (List.Sublist.refl _) ds_same⟩
        · refine L.alloc rfl Tf.z37 rfl rfl trivial (fun q3 => ?_)
          refine L.nil ?_
          refine L.planFin [(true,3),(true,11)] rfl ?_
          refine L.makeSliceO (n := b.lines.length) rfl Try.underlying37 Tf.s64 Tf.z64 rfl Tf.i64 rfl rfl (by omega) (zero_cells (by simp) rfl) rfl trivial (fun blo => ?_)
          refine L.apart hA (by simp) (fun hap => ?_)
          refine L.storeB (off := 0) (us := [.slice (some ⟨blo, 0, none⟩) b.lines.length b.lines.length]) (vs := [.slice none 0 0]) (ws := [.slice (some ⟨blo, 0, none⟩) b.lines.length b.lines.length]) rfl rfl rfl rfl Tf.s37 (.tail (Has.head)) (by simp) rfl (by simp [cell1]) (Or.inr (But.in_ (by rw [List.mem_singleton]; rintro rfl; exact hap (List.mem_map.2 ⟨_, (List.Mem.tail _ (List.Mem.head _)), rfl⟩)))) trivial ?_
          refine L.nil ?_
          exact fun a w hh => ⟨(q3, q2, bo, blo), trivial, (hh.perm (μ' := [(q2, .cells [.slice none 0 0].toArray 90 (0, 0)), (q3, .cells [.slice (some ⟨blo, 0, none⟩) b.lines.length b.lines.length].toArray 37 (0, 0)), (bo, .cells (flatSc (List.replicate (b.lines.length + 1) sc0)).toArray 80 (0, 0)), (blo, .cells (ints (List.replicate (b.lines.length * 3) 0)).toArray 64 (0, 0))]) (by simp) (by simp <;> omega)).weak ⟨rfl, rfl, rfl, rfl, rfl, rfl, trivial⟩ (List.Sublist.refl _) ds_same⟩
      · refine L.alloc rfl Tf.z37 rfl rfl trivial (fun q3 => ?_)
        refine L.nil ?_
        refine L.planFork [] rfl ?_
        refine L.nil (L.forkP true true rfl rfl ?_ ?_)
        · refine L.makeSliceO (n := b.lines.length) rfl Try.underlying37 Tf.s64 Tf.z64 rfl Tf.i64 rfl rfl (by omega) (zero_cells (by simp) rfl) rfl trivial (fun blo => ?_)
          refine L.nil ?_
          refine L.planFork [] rfl ?_
          refine L.nil (L.forkP true true rfl rfl ?_ ?_)
          · refine L.makeSliceO (n := b.lines.length + 1) rfl Try.underlying90 Tf.s80 Tf.z80 rfl Tf.i80 (by first | rfl | (show some (Value.int _ _) = some (Value.int _ _); congr 2; omega)) (by first | rfl | (show some (Value.int _ _) = some (Value.int _ _); congr 2; omega)) (by omega) ((zero_cells (by simp) rfl).trans (fs_zero _)) rfl trivial (fun bo => ?_)
            refine L.nil ?_
            refine L.planFin [(true,11)] rfl ?_
            refine L.apart hA (by simp) (fun hap => ?_)
            refine L.storeB (off := 0) (us := [.slice (some ⟨blo, 0, none⟩) b.lines.length b.lines.length]) (vs := [.slice none 0 0]) (ws := [.slice (some ⟨blo, 0, none⟩) b.lines.length b.lines.length]) rfl rfl rfl rfl Tf.s37 (.tail (.tail (Has.head))) (by simp) rfl (by simp [cell1]) (Or.inr (But.in_ (by rw [List.mem_singleton]; rintro rfl; exact hap (List.mem_map.2 ⟨_, (List.Mem.tail _ (List.Mem.tail _ (List.Mem.head _))), rfl⟩)))) trivial ?_
            refine L.nil ?_
            exact fun a w hh => ⟨(q3, q2, bo, blo), trivial, (hh.perm (μ' := [(q2, .cells [.slice none 0 0].toArray 90 (0, 0)), (q3, .cells [.slice (some ⟨blo, 0, none⟩) b.lines.length b.lines.length].toArray 37 (0, 0)), (bo, .cells (flatSc (List.replicate (b.lines.length + 1) sc0)).toArray 80 (0, 0)), (blo, .cells (ints (List.replicate (b.lines.length * 3) 0)).toArray 64 (0, 0))]) (by simp) (by simp <;> omega)).weak ⟨rfl, rfl, rfl, rfl, rfl, rfl, trivial⟩ (List.Sublist.refl _) ds_same⟩
          · refine L.apart hA (by simp) (fun hap => ?_)
            refine L.storeB (off := 0) (us := [.slice (some ⟨blo, 0, none⟩) b.lines.length b.lines.length]) (vs := [.slice none 0 0]) (ws := [.slice (some ⟨blo, 0, none⟩) b.lines.length b.lines.length]) rfl rfl rfl rfl Tf.s37 (.tail (Has.head)) (by simp) rfl (by simp [cell1]) (Or.inr (But.in_ (by rw [List.mem_singleton]; rintro rfl; exact hap (List.mem_map.2 ⟨_, (List.Mem.tail _ (List.Mem.head _)), rfl⟩)))) trivial ?_
            refine L.nil ?_
            refine L.planFin [(true,8)] rfl ?_
            refine L.makeSliceO (n := b.lines.length + 1) rfl Try.underlying90 Tf.s80 Tf.z80 rfl Tf.i80 (by first | rfl | (show some (Value.int _ _) = some (Value.int _ _); congr 2; omega)) (by first | rfl | (show some (Value.int _ _) = some (Value.int _ _); congr 2; omega)) (by omega) ((zero_cells (by simp) rfl).trans (fs_zero _)) rfl trivial (fun bo => ?_)
            refine L.nil ?_
            exact fun a w hh => ⟨(q3, q2, bo, blo), trivial, (hh.perm (μ' := [(q2, .cells [.slice none 0 0].toArray 90 (0, 0)), (q3, .cells [.slice (some ⟨blo, 0, none⟩) b.lines.length b.lines.length].toArray 37 (0, 0)), (bo, .cells (flatSc (List.replicate (b.lines.length + 1) sc0)).toArray 80 (0, 0)), (blo, .cells (ints (List.replicate (b.lines.length * 3) 0)).toArray 64 (0, 0))]) (by simp) (by simp <;> omega)).weak ⟨rfl, rfl, rfl, rfl, rfl, rfl, trivial⟩ (List.Sublist.refl _) ds_same⟩
        · refine L.makeSliceO (n := b.lines.length + 1) rfl Try.underlying90 Tf.s80 Tf.z80 rfl Tf.i80 (by first | rfl | (show some (Value.int _ _) = some (Value.int _ _); congr 2; omega)) (by first | rfl | (show some (Value.int _ _) = some (Value.int _ _); congr 2; omega)) (by omega) ((zero_cells (by simp) rfl).trans (fs_zero _)) rfl trivial (fun bo => ?_)
          refine L.nil ?_
          refine L.planFin [(true,3),(true,11)] rfl ?_
          refine L.makeSliceO (n := b.lines.length) rfl Try.underlying37 Tf.s64 Tf.z64 rfl Tf.i64 rfl rfl (by omega) (zero_cells (by simp) rfl) rfl trivial (fun blo => ?_)
          refine L.apart hA (by simp) (fun hap => ?_)
          refine L.storeB (off := 0) (us := [.slice (some ⟨blo, 0, none⟩) b.lines.length b.lines.length]) (vs := [.slice none 0 0]) (ws := [.slice (some ⟨blo, 0, none⟩) b.lines.length b.lines.length]) rfl rfl rfl rfl Tf.s37 (.tail (.tail (Has.head))) (by simp) rfl (by simp [cell1]) (Or.inr (But.in_ (by rw [List.mem_singleton]; rintro rfl; exact hap (List.mem_map.2 ⟨_, (List.Mem.tail _ (List.Mem.tail _ (List.Mem.head _))), rfl⟩)))) trivial ?_
          refine L.nil ?_
          exact fun a w hh => ⟨(q3, q2, bo, blo), trivial, (hh.perm (μ' := [(q2, .cells [.slice none 0 0].toArray 90 (0, 0)), (q3, .cells [.slice (some ⟨blo, 0, none⟩) b.lines.length b.lines.length].toArray 37 (0, 0)), (bo, .cells (flatSc (List.replicate (b.lines.length + 1) sc0)).toArray 80 (0, 0)), (blo, .cells (ints (List.replicate (b.lines.length * 3) 0)).toArray 64 (0, 0))]) (by simp) (by simp <;> omega)).weak ⟨rfl, rfl, rfl, rfl, rfl, rfl, trivial⟩ (List.Sublist.refl _) ds_same⟩
  rintro ⟨bl, bs, bo, blo⟩ -
  dsimp only
  refine S.fin [(false,12)] rfl ?_
  refine L.store rfl rfl rfl rfl Tf.s90 (Has.head) (by simp) rfl (by simp [cell1]) trivial ?_
  refine L.nil ?_
  refine S.nil ?_
  refine C.next ?_
  refine C.seq ?_
  refine C.region [(false,0)] rfl ?_
  refine L.alloc rfl Tf.z76 rfl rfl trivial (fun q4 => ?_)
  refine L.nil ?_
  refine C.next ?_
  refine C.seq ?_
  refine C.region [(false,0),(false,1)] rfl ?_
  refine L.makeFunc rfl rfl rfl rfl trivial ?_
  refine L.store rfl rfl rfl rfl Tf.s76 (Has.head) (by simp) rfl (by simp [cell1]) trivial ?_
  refine L.nil ?_
  refine C.next ?_
  refine C.seq ?_
  refine C.draw [] 1 [0,1,2,3,4] [false,true,true,false,false] [(false,0),(true,1),(true,2),(false,3),(false,4)] Tf.follows (fun _ _ _ h => np_bodyJ (P := Try.prog) (fn := Try.f63) _ _ _ h) (by kernel_rfl) rfl ?_
  refine L.loadB1 rfl Tf.a90 rfl (List.Mem.tail _ (List.Mem.head _)) rfl List.not_mem_nil rfl trivial ?_
  refine L.loadDW rfl Tf.a40 rfl hA (by first | simp | assumption) Tf.s40 List.not_mem_nil rfl trivial ?_
  refine L.callV rfl rfl rfl (fun D1 hD1 => begin_ok _ b _ (hb0.up (hD1 _ (by simp)))) rfl trivial ?_
  refine L.indexP rfl Try.underlying90 Tf.s80 rfl rfl (by omega) (by push_cast; omega) rfl trivial ?_
  refine L.store (off := 0 * 10) (us := ints (scL (begin0 b))) (ws := flatSc ((List.replicate (b.lines.length + 1) sc0).set 0 (begin0 b))) rfl (ptr_eq (by omega)) rfl rfl Tf.s80 (.tail (.tail (.tail (Has.head)))) (by rw [fs_len len10_rep, ints_length, show (scL (begin0 b)).length = 10 from rfl, List.length_replicate]; omega) (fs_set len10_rep rfl (by simp)) (ints_cell1 _) trivial ?_
  refine L.nil ?_
  refine C.next ?_
  refine C.region [(false,0),(false,1)] rfl ?_
  refine L.loadB1 rfl Tf.a76 rfl (List.Mem.head _) rfl List.not_mem_nil rfl trivial ?_
  refine L.callJ rfl rfl rfl rfl (read_ok (l := l) hbo rfl hb0 hA hB1 b.lines.length 0 [] (begin0 b) ((List.replicate (b.lines.length + 1) sc0).set 0 (begin0 b)) (List.replicate (b.lines.length * 3) 0) [] [] 0 _ (by simp) (by simp) rfl (by omega) rfl (by simp) (len10_rep.set rfl _) (by simp) (by simp [List.replicate_succ]) (begin_b b) (by simp) J Jx hs hsx hY) rfl trivial ?_
  rintro _ J2 _ ⟨b2, c2, cl2, rfl, h9', h10', h11', hp', rfl, hJ2⟩
  refine L.nil ?_
  exact leaveJ (P := Try.prog) (fn := Try.f63) (N := 22) (vs := []) rfl rfl trivial (fun D h => ⟨D, by simp only [List.mem_singleton] at h; subst h; simp, Le.refl D⟩) (by cases b2 <;> simp at hJ2; exact Or.inr hJ2; exact Or.inl hJ2)
theorem truths_ok3 (bv : Value) (b : BookD) (D : Data) (hb : BookIs D bv b) (hbo : BOk b) :
    Fn Try.prog 41 #[bv] D (fun D' v => ∃ br, v = .func (.func 63) #[] #[.pointer (some ⟨br, 0, none⟩)] ∧ IterT Try.prog 63 [.pointer (some ⟨br, 0, none⟩)] D' (runS b 0 (begin0 b)) (encT3 b.lines.length) flatSc) := by
  have hb0 := hb
  obtain ⟨lv, cv, rfl, hl, hc⟩ := hb
  refine enter 4 Try.func41 rfl rfl rfl rfl fun h0 => ?_
  refine C.seq ?_
  refine C.region [(false,0),(false,1)] rfl ?_
  refine L.boxD rfl rfl rfl rfl trivial (fun q1 E1 hE1 hB1 => ?_)
  refine L.assign rfl rfl rfl trivial ?_
  refine L.nil ?_
  refine C.next ?_
  refine C.seq ?_
  refine C.region [(false,0),(false,1)] rfl ?_
  refine L.makeFunc rfl rfl rfl rfl trivial ?_
  refine L.assign rfl rfl rfl trivial ?_
  refine L.nil ?_
  refine C.next ?_
  refine C.ret ?_
  exact leave (vs := [_]) rfl rfl rfl ⟨rfl, trivial⟩ (fun D hD => ⟨_, rfl, truths1_ok hbo rfl (hb0.up (hD _ (by simp))) (hB1.up (hD _ (by simp)))⟩)
end Go.Fs
