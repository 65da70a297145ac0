/- How a row and its counts read. -/
import Derived.Test.YtgnnlghoadfffaaTypes
import Derived.Test.YtgnnlghoadfffaaSpec
namespace Go.Fs
open C1

def RC : Rd Cnt := fun _ c cs => cs = [.bool c.back, .int .i64 c.many, .int .i64 c.num]
theorem RC.up : RC.Up := fun _ _ _ h => h
def iV (n : Int) : Value := .int .i64 n
def cV (c : Cnt) : Value := .agg #[.bool c.back, .int .i64 c.many, .int .i64 c.num]

def RowIs (D : Data) (v : Value) (r : RowD) : Prop := ∃ pv cv, v = .agg #[pv, cv, .int .i64 r.wrong, .int .i64 r.off] ∧ Sl D RI 1 pv r.places ∧ Sl D RC 3 cv r.counts
theorem RowIs.up {D D' : Data} {v : Value} {r : RowD} (h : RowIs D v r) (hl : Le D D') : RowIs D' v r := by
  obtain ⟨pv, cv, hv, hp, hc⟩ := h
  exact ⟨pv, cv, hv, hp.up RI.up hl, hc.up RC.up hl⟩

/-- The first index of an element of which p is true; -1 if there is none. -/
def idxOf {α : Type} (p : α → Bool) (xs : List α) : Int := if xs.any p then (xs.findIdx p : Int) else -1

theorem foldl_min_le (l : List Int) (a : Int) : l.foldl min a ≤ a := by
  induction l generalizing a with
  | nil => exact Int.le_refl _
  | cons x l ih => rw [List.foldl_cons]; have := ih (min a x); omega

def RT : Rd (List Int) := fun _ t cs => cs = ints (pad9 t)
theorem RT.up : RT.Up := fun _ _ _ h => h
/-- A row at work. -/
def WorkIs (D : Data) (v : Value) (r : RowD) : Prop := ∃ b pv cv tv, v = .pointer (some ⟨b, 0, none⟩) ∧ At D b 0 [pv, cv, .int .i64 r.wrong, .int .i64 r.off, tv] ∧ Sl D RI 1 pv r.places ∧ Sl D RC 3 cv r.counts ∧ Sl D RT 9 tv (truths r)
theorem WorkIs.up {D D' : Data} {v : Value} {r : RowD} (h : WorkIs D v r) (hl : Le D D') : WorkIs D' v r := by
  obtain ⟨b, pv, cv, tv, hv, hA, hp, hc, ht⟩ := h
  exact ⟨b, pv, cv, tv, hv, hA.up hl, hp.up RI.up hl, hc.up RC.up hl, ht.up RT.up hl⟩

/-- The loop of 'asked': the truths that fit, so far. -/
def AskI (e : Nat) (r : RowD) (pre : List (List Int)) (g : Value × Boxes) : Prop := Acc e 9 g.1 (((allT r.places).take pre.length).filter (fits r)).length ((((allT r.places).take pre.length).filter (fits r)).flatMap fun t => ints (pad9 t)) g.2
theorem flat_length {l : List (List Int)} (h : ∀ t ∈ l, t.length ≤ 9) : (l.flatMap fun t => ints (pad9 t)).length = l.length * 9 := by
  induction l with
  | nil => rfl
  | cons t l ih =>
    rw [List.flatMap_cons, List.length_append, ih (fun t ht => h t (List.mem_cons_of_mem _ ht)), List.length_cons, Fs.ints_length, pad9_length (h t List.mem_cons_self), Nat.add_mul]
    omega
theorem flat_get {l : List (List Int)} (h : ∀ t ∈ l, t.length ≤ 9) {i : Nat} {t : List Int} (hi : l[i]? = some t) : ((l.flatMap fun t => ints (pad9 t)).drop (i * 9)).take 9 = ints (pad9 t) := by
  induction l generalizing i with
  | nil => simp at hi
  | cons u l ih =>
    have hu : (ints (pad9 u)).length = 9 := by rw [Fs.ints_length, pad9_length (h u List.mem_cons_self)]
    rw [List.flatMap_cons]
    cases i with
    | zero =>
      obtain rfl : u = t := by simpa using hi
      rw [Nat.zero_mul, List.drop_zero, List.take_append_of_le_length (by omega), List.take_of_length_le (by omega)]
    | succ i =>
      rw [List.drop_append, List.drop_eq_nil_of_le (by omega), List.nil_append, hu, show (i + 1) * 9 - 9 = i * 9 by omega]
      exact ih (fun t ht => h t (List.mem_cons_of_mem _ ht)) (by simpa using hi)
theorem Froz.truths {D : Data} {v : Value} {n : Nat} {l : List (List Int)} (hF : Froz D v n (l.flatMap fun t => Fs.ints (pad9 t))) (hn : l.length = n) (hb : n ≤ 9223372036854775807) (h : ∀ t ∈ l, t.length ≤ 9) : Sl D RT 9 v l :=
  hF.sl hn hb fun i t hi => ⟨Fs.ints (pad9 t), rfl, by rw [Fs.ints_length, pad9_length (h t (List.mem_of_getElem? hi))], flat_get h hi⟩
theorem acc_one {e sz b : Nat} {cells : List Value} (h : cells.length = sz) : Acc e sz (.slice (some ⟨b, 0, none⟩) 1 1) 1 cells [(b, .cells cells.toArray e (0, 0))] :=
  Or.inr ⟨b, 1, [], rfl, Nat.le_refl _, by simp, by omega, by simp; omega⟩
theorem Froz.at {D : Data} {b n cap : Nat} {cells : List Value} (h : Froz D (.slice (some ⟨b, 0, none⟩) n cap) n cells) (hn : 0 < n) : At D b 0 cells := by
  rcases h with ⟨a, hv, h0, _⟩ | ⟨b', cap', hv, _, hA⟩
  · omega
  · cases hv; exact hA

end Go.Fs
