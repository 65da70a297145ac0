/- Layer 7, in plain Lean: what its functions compute; and how a yard reads. -/
import Derived.Test.YtjhdcelmgfajbaaTypes
import Derived.Test.YtjhdcelmgfajbaaKeys
import Derived.Test.YtjhdcelmgfajbaaBits
namespace Go.Fs

/-- The first index of an element of which p is true; -1 if there is none. -/
def idxOf {α : Type} (p : α → Bool) (xs : List α) : Int := if xs.any p then (xs.findIdx p : Int) else -1
theorem foldl_min_le (l : List Int) (a : Int) : l.foldl min a ≤ a := by
  induction l generalizing a with
  | nil => exact Int.le_refl _
  | cons x l ih => rw [List.foldl_cons]; have := ih (min a x); omega

def iV (n : Int) : Value := .int .i64 n
namespace C7

/-- Three parts. -/
structure Pt where
  a : Int
  b : Int
  c : Int
deriving DecidableEq
structure Ch where
  size : Int
  parts : Pt
structure YardD where
  chairs : List Ch
  fit : Int
  claims : List (Int × Int)

def Pt.l (p : Pt) : List Int := [p.a, p.b, p.c]
def inB (n lo hi : Int) : Bool := decide (lo ≤ n) && decide (n ≤ hi)
theorem inB_iff {n lo hi : Int} : inB n lo hi = true ↔ lo ≤ n ∧ n ≤ hi := by simp [inB]
def ptsOk (p : Pt) (m : Int) : Bool := p.l.all fun n => inB n 0 m
def chairOk (c : Ch) : Bool := inB c.size 0 9 && ptsOk c.parts 2
def claimOk (r : Int × Int) : Bool := (decide (0 ≤ r.1) && decide (r.1 ≤ r.2)) && decide (r.2 ≤ 7)
def unkP (p : Pt) : Nat := (p.l.filter fun n => decide (n = 2)).length
def unknown (l : List Ch) : Nat := (l.map fun c => unkP c.parts).sum
def yardOk (y : YardD) : Bool := (inB y.fit 0 9 && y.chairs.all chairOk) && y.claims.all claimOk
def fault (y : YardD) : Int := if 7 < y.chairs.length ∨ 5 < y.claims.length then 3 else if yardOk y = false then 1 else if 8 < unknown y.chairs then 3 else 0

/-- A part that may be so. -/
def partIs (n t : Int) : Bool := inB t 0 1 && (decide (n = 2) || decide (t = n))
def ptsIs (p t : Pt) : Bool := (p.l.zip t.l).all fun x => partIs x.1 x.2
def isTruth (y : YardD) (t : List Pt) : Bool := decide (t.length = y.chairs.length) && (y.chairs.zip t).all fun x => ptsIs x.1.parts x.2
def isWhole (p : Pt) : Bool := decide (p = ⟨1, 1, 1⟩)
def whole (t : List Pt) : Nat := (t.filter isWhole).length

end C7

open C7
def ptV (p : Pt) : Value := .agg #[.int .i64 p.a, .int .i64 p.b, .int .i64 p.c]
def chV (c : Ch) : Value := .agg #[.int .i64 c.size, .int .i64 c.parts.a, .int .i64 c.parts.b, .int .i64 c.parts.c]
def RP : Rd Pt := fun _ p cs => cs = [.int .i64 p.a, .int .i64 p.b, .int .i64 p.c]
theorem RP.up : RP.Up := fun _ _ _ h => h
def RCh : Rd Ch := fun _ c cs => cs = [.int .i64 c.size, .int .i64 c.parts.a, .int .i64 c.parts.b, .int .i64 c.parts.c]
theorem RCh.up : RCh.Up := fun _ _ _ h => h
def R2 : Rd (Int × Int) := fun _ p cs => cs = [.int .i64 p.1, .int .i64 p.2]
theorem R2.up : R2.Up := fun _ _ _ h => h

def YardIs (D : Data) (v : Value) (y : YardD) : Prop := ∃ cv rv, v = .agg #[cv, .int .i64 y.fit, rv] ∧ Sl D RCh 4 cv y.chairs ∧ Sl D R2 2 rv y.claims
theorem YardIs.up {D D' : Data} {v : Value} {y : YardD} (h : YardIs D v y) (hl : Le D D') : YardIs D' v y := by
  obtain ⟨cv, rv, hv, hc, hr⟩ := h
  exact ⟨cv, rv, hv, hc.up RCh.up hl, hr.up R2.up hl⟩

end Go.Fs
