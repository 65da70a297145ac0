/-
  No cell of these rows narrows 'for every input' (looked for: loops, veiled, ifaces, maps, wideKeys, modest, calm, conditions, laid).
  DERIVED. THE GIVEN ROWS OF THIS SEAT. 17 by the template 'for every input the law returns true; each argument reads behind the call as it read before'; 0 by the template 'total and deterministic' (their statements: YtjhdcelmgfajbaaTotals.lean).
  GIVEN WITH THE SEED: the statements are not yours to turn. If you find one false, say at which input.
  Laid BY PROGRAM, IN A SANDBOX (cutbox-rows.mjs): the forced cells as the released guide's own fill.sh prints them over the translation 73293bcf5d5e5f8e… (all of the seat's roots in one cut). By AI agents, Wed Nov 11 2026. No macro, syntax, notation, axiom, sorry.
-/
import Derived.Test.YtjhdcelmgfajbaaChecked
import GoSem.Claim
import GoSem.ClaimJoined
import GoSem.ClaimMapViews
import Derived.JoinedTies
import Derived.KernelRfl
namespace Go.Proofs.Ytjhdcelmgfajbaa
/- THE CELL 'sum', in the pinned program and in every row, IS THE sha256 OF THE DUMP (.gsa) THAT YtjhdcelmgfajbaaProg.lean LOADS. Nothing in Lean hashes anything: it is a label: what it is worth is what the hold of that sum in a sandbox is worth. -/
noncomputable def Try.pinned : Pinned := { name := "ytjhdcelmgfajbaa", sum := "73293bcf5d5e5f8e9b1c9d43388c90616a1d86b7f71d978d55ce7da9bd1c5db6", checked := Try.checked }
namespace Rows
def none {H : Type} : Left H := { results := [], args := [] }

/-- 'foreshorelaw07.MendPairs': WHATEVER THE INPUT: true; the input reads as it did. -/
def mendPairsSpec : ChangeSpec := { name := "mendPairs", fn := fun _ => fun
  | [d1, d2, d3, d4] => { results := [.lit (.bool true)], args := [d1, d2, d3, d4] }
  | _ => none }
def mendPairsRow : OpenClaim := { program := "ytjhdcelmgfajbaa", sum := "73293bcf5d5e5f8e9b1c9d43388c90616a1d86b7f71d978d55ce7da9bd1c5db6", func := "foreshore/foreshorelaw07.MendPairs", spec := "mendPairs", unfollowed := true, recurses := true, plainKeys := false, apart := false }
def MendPairsSaid : Prop := mendPairsRow.holds Try.pinned (OpenSpec.ofChange mendPairsSpec)

/-- ITS FALSE NEIGHBOUR: 'it returns false'. Refute it at one input. -/
def mendPairsWrong : ChangeSpec := { name := "mendPairs", fn := fun _ => fun
  | [d1, d2, d3, d4] => { results := [.lit (.bool false)], args := [d1, d2, d3, d4] }
  | _ => none }
def MendPairsWrongFalsely : Prop := mendPairsRow.holds Try.pinned (OpenSpec.ofChange mendPairsWrong)

/-- 'foreshorelaw07.MendBerge': WHATEVER THE INPUT: true; the input reads as it did. -/
def mendBergeSpec : ChangeSpec := { name := "mendBerge", fn := fun _ => fun
  | [d1, d2, d3, d4] => { results := [.lit (.bool true)], args := [d1, d2, d3, d4] }
  | _ => none }
def mendBergeRow : OpenClaim := { program := "ytjhdcelmgfajbaa", sum := "73293bcf5d5e5f8e9b1c9d43388c90616a1d86b7f71d978d55ce7da9bd1c5db6", func := "foreshore/foreshorelaw07.MendBerge", spec := "mendBerge", unfollowed := true, recurses := true, plainKeys := false, apart := false }
def MendBergeSaid : Prop := mendBergeRow.holds Try.pinned (OpenSpec.ofChange mendBergeSpec)

/-- ITS FALSE NEIGHBOUR: 'it returns false'. Refute it at one input. -/
def mendBergeWrong : ChangeSpec := { name := "mendBerge", fn := fun _ => fun
  | [d1, d2, d3, d4] => { results := [.lit (.bool false)], args := [d1, d2, d3, d4] }
  | _ => none }
def MendBergeWrongFalsely : Prop := mendBergeRow.holds Try.pinned (OpenSpec.ofChange mendBergeWrong)

/-- 'foreshorelaw07.MendBounds': WHATEVER THE INPUT: true; the input reads as it did. -/
def mendBoundsSpec : ChangeSpec := { name := "mendBounds", fn := fun _ => fun
  | [d] => { results := [.lit (.bool true)], args := [d] }
  | _ => none }
def mendBoundsRow : OpenClaim := { program := "ytjhdcelmgfajbaa", sum := "73293bcf5d5e5f8e9b1c9d43388c90616a1d86b7f71d978d55ce7da9bd1c5db6", func := "foreshore/foreshorelaw07.MendBounds", spec := "mendBounds", unfollowed := true, recurses := true, plainKeys := false, apart := false }
def MendBoundsSaid : Prop := mendBoundsRow.holds Try.pinned (OpenSpec.ofChange mendBoundsSpec)

/-- ITS FALSE NEIGHBOUR: 'it returns false'. Refute it at one input. -/
def mendBoundsWrong : ChangeSpec := { name := "mendBounds", fn := fun _ => fun
  | [d] => { results := [.lit (.bool false)], args := [d] }
  | _ => none }
def MendBoundsWrongFalsely : Prop := mendBoundsRow.holds Try.pinned (OpenSpec.ofChange mendBoundsWrong)

/-- 'foreshorelaw07.MendSures': WHATEVER THE INPUT: true; the input reads as it did. -/
def mendSuresSpec : ChangeSpec := { name := "mendSures", fn := fun _ => fun
  | [d1, d2, d3] => { results := [.lit (.bool true)], args := [d1, d2, d3] }
  | _ => none }
def mendSuresRow : OpenClaim := { program := "ytjhdcelmgfajbaa", sum := "73293bcf5d5e5f8e9b1c9d43388c90616a1d86b7f71d978d55ce7da9bd1c5db6", func := "foreshore/foreshorelaw07.MendSures", spec := "mendSures", unfollowed := true, recurses := true, plainKeys := false, apart := false }
def MendSuresSaid : Prop := mendSuresRow.holds Try.pinned (OpenSpec.ofChange mendSuresSpec)

/-- ITS FALSE NEIGHBOUR: 'it returns false'. Refute it at one input. -/
def mendSuresWrong : ChangeSpec := { name := "mendSures", fn := fun _ => fun
  | [d1, d2, d3] => { results := [.lit (.bool false)], args := [d1, d2, d3] }
  | _ => none }
def MendSuresWrongFalsely : Prop := mendSuresRow.holds Try.pinned (OpenSpec.ofChange mendSuresWrong)

/-- 'foreshorelaw07.MendLeaves': WHATEVER THE INPUT: true; the input reads as it did. -/
def mendLeavesSpec : ChangeSpec := { name := "mendLeaves", fn := fun _ => fun
  | [d] => { results := [.lit (.bool true)], args := [d] }
  | _ => none }
def mendLeavesRow : OpenClaim := { program := "ytjhdcelmgfajbaa", sum := "73293bcf5d5e5f8e9b1c9d43388c90616a1d86b7f71d978d55ce7da9bd1c5db6", func := "foreshore/foreshorelaw07.MendLeaves", spec := "mendLeaves", unfollowed := true, recurses := true, plainKeys := false, apart := false }
def MendLeavesSaid : Prop := mendLeavesRow.holds Try.pinned (OpenSpec.ofChange mendLeavesSpec)

/-- ITS FALSE NEIGHBOUR: 'it returns false'. Refute it at one input. -/
def mendLeavesWrong : ChangeSpec := { name := "mendLeaves", fn := fun _ => fun
  | [d] => { results := [.lit (.bool false)], args := [d] }
  | _ => none }
def MendLeavesWrongFalsely : Prop := mendLeavesRow.holds Try.pinned (OpenSpec.ofChange mendLeavesWrong)

/-- 'foreshorelaw07.MendEnds': WHATEVER THE INPUT: true; the input reads as it did. -/
def mendEndsSpec : ChangeSpec := { name := "mendEnds", fn := fun _ => fun
  | [d] => { results := [.lit (.bool true)], args := [d] }
  | _ => none }
def mendEndsRow : OpenClaim := { program := "ytjhdcelmgfajbaa", sum := "73293bcf5d5e5f8e9b1c9d43388c90616a1d86b7f71d978d55ce7da9bd1c5db6", func := "foreshore/foreshorelaw07.MendEnds", spec := "mendEnds", unfollowed := true, recurses := true, plainKeys := false, apart := false }
def MendEndsSaid : Prop := mendEndsRow.holds Try.pinned (OpenSpec.ofChange mendEndsSpec)

/-- ITS FALSE NEIGHBOUR: 'it returns false'. Refute it at one input. -/
def mendEndsWrong : ChangeSpec := { name := "mendEnds", fn := fun _ => fun
  | [d] => { results := [.lit (.bool false)], args := [d] }
  | _ => none }
def MendEndsWrongFalsely : Prop := mendEndsRow.holds Try.pinned (OpenSpec.ofChange mendEndsWrong)

/-- 'foreshorelaw07.MendNoMore': WHATEVER THE INPUT: true; the input reads as it did. -/
def mendNoMoreSpec : ChangeSpec := { name := "mendNoMore", fn := fun _ => fun
  | [d1, d2, d3, d4] => { results := [.lit (.bool true)], args := [d1, d2, d3, d4] }
  | _ => none }
def mendNoMoreRow : OpenClaim := { program := "ytjhdcelmgfajbaa", sum := "73293bcf5d5e5f8e9b1c9d43388c90616a1d86b7f71d978d55ce7da9bd1c5db6", func := "foreshore/foreshorelaw07.MendNoMore", spec := "mendNoMore", unfollowed := true, recurses := true, plainKeys := false, apart := false }
def MendNoMoreSaid : Prop := mendNoMoreRow.holds Try.pinned (OpenSpec.ofChange mendNoMoreSpec)

/-- ITS FALSE NEIGHBOUR: 'it returns false'. Refute it at one input. -/
def mendNoMoreWrong : ChangeSpec := { name := "mendNoMore", fn := fun _ => fun
  | [d1, d2, d3, d4] => { results := [.lit (.bool false)], args := [d1, d2, d3, d4] }
  | _ => none }
def MendNoMoreWrongFalsely : Prop := mendNoMoreRow.holds Try.pinned (OpenSpec.ofChange mendNoMoreWrong)

/-- 'foreshorelaw07.MendPart': WHATEVER THE INPUT: true; the input reads as it did. -/
def mendPartSpec : ChangeSpec := { name := "mendPart", fn := fun _ => fun
  | [d1, d2, d3, d4] => { results := [.lit (.bool true)], args := [d1, d2, d3, d4] }
  | _ => none }
def mendPartRow : OpenClaim := { program := "ytjhdcelmgfajbaa", sum := "73293bcf5d5e5f8e9b1c9d43388c90616a1d86b7f71d978d55ce7da9bd1c5db6", func := "foreshore/foreshorelaw07.MendPart", spec := "mendPart", unfollowed := true, recurses := true, plainKeys := false, apart := false }
def MendPartSaid : Prop := mendPartRow.holds Try.pinned (OpenSpec.ofChange mendPartSpec)

/-- ITS FALSE NEIGHBOUR: 'it returns false'. Refute it at one input. -/
def mendPartWrong : ChangeSpec := { name := "mendPart", fn := fun _ => fun
  | [d1, d2, d3, d4] => { results := [.lit (.bool false)], args := [d1, d2, d3, d4] }
  | _ => none }
def MendPartWrongFalsely : Prop := mendPartRow.holds Try.pinned (OpenSpec.ofChange mendPartWrong)

/-- 'foreshorelaw07.MendChair': WHATEVER THE INPUT: true; the input reads as it did. -/
def mendChairSpec : ChangeSpec := { name := "mendChair", fn := fun _ => fun
  | [d1, d2, d3, d4] => { results := [.lit (.bool true)], args := [d1, d2, d3, d4] }
  | _ => none }
def mendChairRow : OpenClaim := { program := "ytjhdcelmgfajbaa", sum := "73293bcf5d5e5f8e9b1c9d43388c90616a1d86b7f71d978d55ce7da9bd1c5db6", func := "foreshore/foreshorelaw07.MendChair", spec := "mendChair", unfollowed := true, recurses := true, plainKeys := false, apart := false }
def MendChairSaid : Prop := mendChairRow.holds Try.pinned (OpenSpec.ofChange mendChairSpec)

/-- ITS FALSE NEIGHBOUR: 'it returns false'. Refute it at one input. -/
def mendChairWrong : ChangeSpec := { name := "mendChair", fn := fun _ => fun
  | [d1, d2, d3, d4] => { results := [.lit (.bool false)], args := [d1, d2, d3, d4] }
  | _ => none }
def MendChairWrongFalsely : Prop := mendChairRow.holds Try.pinned (OpenSpec.ofChange mendChairWrong)

/-- 'foreshorelaw07.MendKnown': WHATEVER THE INPUT: true; the input reads as it did. -/
def mendKnownSpec : ChangeSpec := { name := "mendKnown", fn := fun _ => fun
  | [d1, d2, d3, d4] => { results := [.lit (.bool true)], args := [d1, d2, d3, d4] }
  | _ => none }
def mendKnownRow : OpenClaim := { program := "ytjhdcelmgfajbaa", sum := "73293bcf5d5e5f8e9b1c9d43388c90616a1d86b7f71d978d55ce7da9bd1c5db6", func := "foreshore/foreshorelaw07.MendKnown", spec := "mendKnown", unfollowed := true, recurses := true, plainKeys := false, apart := false }
def MendKnownSaid : Prop := mendKnownRow.holds Try.pinned (OpenSpec.ofChange mendKnownSpec)

/-- ITS FALSE NEIGHBOUR: 'it returns false'. Refute it at one input. -/
def mendKnownWrong : ChangeSpec := { name := "mendKnown", fn := fun _ => fun
  | [d1, d2, d3, d4] => { results := [.lit (.bool false)], args := [d1, d2, d3, d4] }
  | _ => none }
def MendKnownWrongFalsely : Prop := mendKnownRow.holds Try.pinned (OpenSpec.ofChange mendKnownWrong)

/-- 'foreshorelaw07.MendMore': WHATEVER THE INPUT: true; the input reads as it did. -/
def mendMoreSpec : ChangeSpec := { name := "mendMore", fn := fun _ => fun
  | [d1, d2] => { results := [.lit (.bool true)], args := [d1, d2] }
  | _ => none }
def mendMoreRow : OpenClaim := { program := "ytjhdcelmgfajbaa", sum := "73293bcf5d5e5f8e9b1c9d43388c90616a1d86b7f71d978d55ce7da9bd1c5db6", func := "foreshore/foreshorelaw07.MendMore", spec := "mendMore", unfollowed := true, recurses := true, plainKeys := false, apart := false }
def MendMoreSaid : Prop := mendMoreRow.holds Try.pinned (OpenSpec.ofChange mendMoreSpec)

/-- ITS FALSE NEIGHBOUR: 'it returns false'. Refute it at one input. -/
def mendMoreWrong : ChangeSpec := { name := "mendMore", fn := fun _ => fun
  | [d1, d2] => { results := [.lit (.bool false)], args := [d1, d2] }
  | _ => none }
def MendMoreWrongFalsely : Prop := mendMoreRow.holds Try.pinned (OpenSpec.ofChange mendMoreWrong)

/-- 'foreshorelaw07.MendOrder': WHATEVER THE INPUT: true; the input reads as it did. -/
def mendOrderSpec : ChangeSpec := { name := "mendOrder", fn := fun _ => fun
  | [d1, d2, d3] => { results := [.lit (.bool true)], args := [d1, d2, d3] }
  | _ => none }
def mendOrderRow : OpenClaim := { program := "ytjhdcelmgfajbaa", sum := "73293bcf5d5e5f8e9b1c9d43388c90616a1d86b7f71d978d55ce7da9bd1c5db6", func := "foreshore/foreshorelaw07.MendOrder", spec := "mendOrder", unfollowed := true, recurses := true, plainKeys := false, apart := false }
def MendOrderSaid : Prop := mendOrderRow.holds Try.pinned (OpenSpec.ofChange mendOrderSpec)

/-- ITS FALSE NEIGHBOUR: 'it returns false'. Refute it at one input. -/
def mendOrderWrong : ChangeSpec := { name := "mendOrder", fn := fun _ => fun
  | [d1, d2, d3] => { results := [.lit (.bool false)], args := [d1, d2, d3] }
  | _ => none }
def MendOrderWrongFalsely : Prop := mendOrderRow.holds Try.pinned (OpenSpec.ofChange mendOrderWrong)

/-- 'foreshorelaw07.MendFirst': WHATEVER THE INPUT: true; the input reads as it did. -/
def mendFirstSpec : ChangeSpec := { name := "mendFirst", fn := fun _ => fun
  | [d] => { results := [.lit (.bool true)], args := [d] }
  | _ => none }
def mendFirstRow : OpenClaim := { program := "ytjhdcelmgfajbaa", sum := "73293bcf5d5e5f8e9b1c9d43388c90616a1d86b7f71d978d55ce7da9bd1c5db6", func := "foreshore/foreshorelaw07.MendFirst", spec := "mendFirst", unfollowed := true, recurses := true, plainKeys := false, apart := false }
def MendFirstSaid : Prop := mendFirstRow.holds Try.pinned (OpenSpec.ofChange mendFirstSpec)

/-- ITS FALSE NEIGHBOUR: 'it returns false'. Refute it at one input. -/
def mendFirstWrong : ChangeSpec := { name := "mendFirst", fn := fun _ => fun
  | [d] => { results := [.lit (.bool false)], args := [d] }
  | _ => none }
def MendFirstWrongFalsely : Prop := mendFirstRow.holds Try.pinned (OpenSpec.ofChange mendFirstWrong)

/-- 'foreshorelaw07.MendLeft': WHATEVER THE INPUT: true; the input reads as it did. -/
def mendLeftSpec : ChangeSpec := { name := "mendLeft", fn := fun _ => fun
  | [d1, d2] => { results := [.lit (.bool true)], args := [d1, d2] }
  | _ => none }
def mendLeftRow : OpenClaim := { program := "ytjhdcelmgfajbaa", sum := "73293bcf5d5e5f8e9b1c9d43388c90616a1d86b7f71d978d55ce7da9bd1c5db6", func := "foreshore/foreshorelaw07.MendLeft", spec := "mendLeft", unfollowed := true, recurses := true, plainKeys := false, apart := false }
def MendLeftSaid : Prop := mendLeftRow.holds Try.pinned (OpenSpec.ofChange mendLeftSpec)

/-- ITS FALSE NEIGHBOUR: 'it returns false'. Refute it at one input. -/
def mendLeftWrong : ChangeSpec := { name := "mendLeft", fn := fun _ => fun
  | [d1, d2] => { results := [.lit (.bool false)], args := [d1, d2] }
  | _ => none }
def MendLeftWrongFalsely : Prop := mendLeftRow.holds Try.pinned (OpenSpec.ofChange mendLeftWrong)

/-- 'foreshorelaw07.MendPlays': WHATEVER THE INPUT: true; the input reads as it did. -/
def mendPlaysSpec : ChangeSpec := { name := "mendPlays", fn := fun _ => fun
  | [d1, d2] => { results := [.lit (.bool true)], args := [d1, d2] }
  | _ => none }
def mendPlaysRow : OpenClaim := { program := "ytjhdcelmgfajbaa", sum := "73293bcf5d5e5f8e9b1c9d43388c90616a1d86b7f71d978d55ce7da9bd1c5db6", func := "foreshore/foreshorelaw07.MendPlays", spec := "mendPlays", unfollowed := true, recurses := true, plainKeys := false, apart := false }
def MendPlaysSaid : Prop := mendPlaysRow.holds Try.pinned (OpenSpec.ofChange mendPlaysSpec)

/-- ITS FALSE NEIGHBOUR: 'it returns false'. Refute it at one input. -/
def mendPlaysWrong : ChangeSpec := { name := "mendPlays", fn := fun _ => fun
  | [d1, d2] => { results := [.lit (.bool false)], args := [d1, d2] }
  | _ => none }
def MendPlaysWrongFalsely : Prop := mendPlaysRow.holds Try.pinned (OpenSpec.ofChange mendPlaysWrong)

/-- 'foreshorelaw07.MendNames': WHATEVER THE INPUT: true; the input reads as it did. -/
def mendNamesSpec : ChangeSpec := { name := "mendNames", fn := fun _ => fun
  | [] => { results := [.lit (.bool true)], args := [] }
  | _ => none }
def mendNamesRow : OpenClaim := { program := "ytjhdcelmgfajbaa", sum := "73293bcf5d5e5f8e9b1c9d43388c90616a1d86b7f71d978d55ce7da9bd1c5db6", func := "foreshore/foreshorelaw07.MendNames", spec := "mendNames", unfollowed := true, recurses := true, plainKeys := false, apart := false }
def MendNamesSaid : Prop := mendNamesRow.holds Try.pinned (OpenSpec.ofChange mendNamesSpec)

/-- ITS FALSE NEIGHBOUR: 'it returns false'. Refute it at one input. -/
def mendNamesWrong : ChangeSpec := { name := "mendNames", fn := fun _ => fun
  | [] => { results := [.lit (.bool false)], args := [] }
  | _ => none }
def MendNamesWrongFalsely : Prop := mendNamesRow.holds Try.pinned (OpenSpec.ofChange mendNamesWrong)

/-- 'foreshorelaw07.MendTruth': WHATEVER THE INPUT: true; the input reads as it did. -/
def mendTruthSpec : ChangeSpec := { name := "mendTruth", fn := fun _ => fun
  | [d1, d2, d3] => { results := [.lit (.bool true)], args := [d1, d2, d3] }
  | _ => none }
def mendTruthRow : OpenClaim := { program := "ytjhdcelmgfajbaa", sum := "73293bcf5d5e5f8e9b1c9d43388c90616a1d86b7f71d978d55ce7da9bd1c5db6", func := "foreshore/foreshorelaw07.MendTruth", spec := "mendTruth", unfollowed := true, recurses := true, plainKeys := false, apart := false }
def MendTruthSaid : Prop := mendTruthRow.holds Try.pinned (OpenSpec.ofChange mendTruthSpec)

/-- ITS FALSE NEIGHBOUR: 'it returns false'. Refute it at one input. -/
def mendTruthWrong : ChangeSpec := { name := "mendTruth", fn := fun _ => fun
  | [d1, d2, d3] => { results := [.lit (.bool false)], args := [d1, d2, d3] }
  | _ => none }
def MendTruthWrongFalsely : Prop := mendTruthRow.holds Try.pinned (OpenSpec.ofChange mendTruthWrong)

/- THE SECOND FORM. 'bulk': how many values and letters a reading holds, each counted each time it is reached (what is shared counts as often as it is met; a slice's spare places count too). A statement '..UptoSaid' is the law's where the arguments, and the package variables that the reading takes, are together of bulk at most 1048576: NARROWER than '..Said'. Prove '..Said' where nothing that the law and all that it calls make is longer than what came in: it says more and counts as full. Else prove '..UptoSaid'. A law counts once. -/
mutual
def uptoBulk {H : Type} : DataW H → Nat
  | .lit (.string bytes) => bytes.length + 1
  | .lit _ => 1
  | .nil => 1
  | .ptr d => uptoBulk d + 1
  | .slice elems spare => uptoBulkAll elems + uptoBulkAll spare + 1
  | .agg parts => uptoBulkAll parts + 1
  | .iface _ d => uptoBulk d + 1
  | .map entries => uptoBulkEntries entries + 1
  | .held _ => 1
def uptoBulkAll {H : Type} : List (DataW H) → Nat
  | [] => 0
  | d :: r => uptoBulk d + uptoBulkAll r
def uptoBulkEntries {H : Type} : List (Lit × DataW H) → Nat
  | [] => 0
  | x :: r => uptoBulkEntry x + uptoBulkEntries r
def uptoBulkEntry {H : Type} : Lit × DataW H → Nat
  | (.string bytes, d) => bytes.length + uptoBulk d + 1
  | (_, d) => uptoBulk d + 1
 end
def uptoSmall : (H : Type) → List (DataW H) → Bool := fun _ ds => decide (uptoBulkAll ds ≤ 1048576)
def OpenSpec.upto (s : _root_.Go.ChangeSpec) : _root_.Go.OpenSpec := { _root_.Go.OpenSpec.ofChange s with cond := some uptoSmall }

/-- 'foreshorelaw07.MendPairs', WHERE WHAT IT READS IS OF BULK AT MOST 1048576: true; the input reads as it did. -/
def mendPairsUptoRow : OpenClaim := { program := "ytjhdcelmgfajbaa", sum := "73293bcf5d5e5f8e9b1c9d43388c90616a1d86b7f71d978d55ce7da9bd1c5db6", func := "foreshore/foreshorelaw07.MendPairs", spec := "mendPairs", unfollowed := true, recurses := true, plainKeys := false, apart := false, narrowed := true }
def MendPairsUptoSaid : Prop := mendPairsUptoRow.holds Try.pinned (OpenSpec.upto mendPairsSpec)

/-- 'foreshorelaw07.MendBerge', WHERE WHAT IT READS IS OF BULK AT MOST 1048576: true; the input reads as it did. -/
def mendBergeUptoRow : OpenClaim := { program := "ytjhdcelmgfajbaa", sum := "73293bcf5d5e5f8e9b1c9d43388c90616a1d86b7f71d978d55ce7da9bd1c5db6", func := "foreshore/foreshorelaw07.MendBerge", spec := "mendBerge", unfollowed := true, recurses := true, plainKeys := false, apart := false, narrowed := true }
def MendBergeUptoSaid : Prop := mendBergeUptoRow.holds Try.pinned (OpenSpec.upto mendBergeSpec)

/-- 'foreshorelaw07.MendBounds', WHERE WHAT IT READS IS OF BULK AT MOST 1048576: true; the input reads as it did. -/
def mendBoundsUptoRow : OpenClaim := { program := "ytjhdcelmgfajbaa", sum := "73293bcf5d5e5f8e9b1c9d43388c90616a1d86b7f71d978d55ce7da9bd1c5db6", func := "foreshore/foreshorelaw07.MendBounds", spec := "mendBounds", unfollowed := true, recurses := true, plainKeys := false, apart := false, narrowed := true }
def MendBoundsUptoSaid : Prop := mendBoundsUptoRow.holds Try.pinned (OpenSpec.upto mendBoundsSpec)

/-- 'foreshorelaw07.MendSures', WHERE WHAT IT READS IS OF BULK AT MOST 1048576: true; the input reads as it did. -/
def mendSuresUptoRow : OpenClaim := { program := "ytjhdcelmgfajbaa", sum := "73293bcf5d5e5f8e9b1c9d43388c90616a1d86b7f71d978d55ce7da9bd1c5db6", func := "foreshore/foreshorelaw07.MendSures", spec := "mendSures", unfollowed := true, recurses := true, plainKeys := false, apart := false, narrowed := true }
def MendSuresUptoSaid : Prop := mendSuresUptoRow.holds Try.pinned (OpenSpec.upto mendSuresSpec)

/-- 'foreshorelaw07.MendLeaves', WHERE WHAT IT READS IS OF BULK AT MOST 1048576: true; the input reads as it did. -/
def mendLeavesUptoRow : OpenClaim := { program := "ytjhdcelmgfajbaa", sum := "73293bcf5d5e5f8e9b1c9d43388c90616a1d86b7f71d978d55ce7da9bd1c5db6", func := "foreshore/foreshorelaw07.MendLeaves", spec := "mendLeaves", unfollowed := true, recurses := true, plainKeys := false, apart := false, narrowed := true }
def MendLeavesUptoSaid : Prop := mendLeavesUptoRow.holds Try.pinned (OpenSpec.upto mendLeavesSpec)

/-- 'foreshorelaw07.MendEnds', WHERE WHAT IT READS IS OF BULK AT MOST 1048576: true; the input reads as it did. -/
def mendEndsUptoRow : OpenClaim := { program := "ytjhdcelmgfajbaa", sum := "73293bcf5d5e5f8e9b1c9d43388c90616a1d86b7f71d978d55ce7da9bd1c5db6", func := "foreshore/foreshorelaw07.MendEnds", spec := "mendEnds", unfollowed := true, recurses := true, plainKeys := false, apart := false, narrowed := true }
def MendEndsUptoSaid : Prop := mendEndsUptoRow.holds Try.pinned (OpenSpec.upto mendEndsSpec)

/-- 'foreshorelaw07.MendNoMore', WHERE WHAT IT READS IS OF BULK AT MOST 1048576: true; the input reads as it did. -/
def mendNoMoreUptoRow : OpenClaim := { program := "ytjhdcelmgfajbaa", sum := "73293bcf5d5e5f8e9b1c9d43388c90616a1d86b7f71d978d55ce7da9bd1c5db6", func := "foreshore/foreshorelaw07.MendNoMore", spec := "mendNoMore", unfollowed := true, recurses := true, plainKeys := false, apart := false, narrowed := true }
def MendNoMoreUptoSaid : Prop := mendNoMoreUptoRow.holds Try.pinned (OpenSpec.upto mendNoMoreSpec)

/-- 'foreshorelaw07.MendPart', WHERE WHAT IT READS IS OF BULK AT MOST 1048576: true; the input reads as it did. -/
def mendPartUptoRow : OpenClaim := { program := "ytjhdcelmgfajbaa", sum := "73293bcf5d5e5f8e9b1c9d43388c90616a1d86b7f71d978d55ce7da9bd1c5db6", func := "foreshore/foreshorelaw07.MendPart", spec := "mendPart", unfollowed := true, recurses := true, plainKeys := false, apart := false, narrowed := true }
def MendPartUptoSaid : Prop := mendPartUptoRow.holds Try.pinned (OpenSpec.upto mendPartSpec)

/-- 'foreshorelaw07.MendChair', WHERE WHAT IT READS IS OF BULK AT MOST 1048576: true; the input reads as it did. -/
def mendChairUptoRow : OpenClaim := { program := "ytjhdcelmgfajbaa", sum := "73293bcf5d5e5f8e9b1c9d43388c90616a1d86b7f71d978d55ce7da9bd1c5db6", func := "foreshore/foreshorelaw07.MendChair", spec := "mendChair", unfollowed := true, recurses := true, plainKeys := false, apart := false, narrowed := true }
def MendChairUptoSaid : Prop := mendChairUptoRow.holds Try.pinned (OpenSpec.upto mendChairSpec)

/-- 'foreshorelaw07.MendKnown', WHERE WHAT IT READS IS OF BULK AT MOST 1048576: true; the input reads as it did. -/
def mendKnownUptoRow : OpenClaim := { program := "ytjhdcelmgfajbaa", sum := "73293bcf5d5e5f8e9b1c9d43388c90616a1d86b7f71d978d55ce7da9bd1c5db6", func := "foreshore/foreshorelaw07.MendKnown", spec := "mendKnown", unfollowed := true, recurses := true, plainKeys := false, apart := false, narrowed := true }
def MendKnownUptoSaid : Prop := mendKnownUptoRow.holds Try.pinned (OpenSpec.upto mendKnownSpec)

/-- 'foreshorelaw07.MendMore', WHERE WHAT IT READS IS OF BULK AT MOST 1048576: true; the input reads as it did. -/
def mendMoreUptoRow : OpenClaim := { program := "ytjhdcelmgfajbaa", sum := "73293bcf5d5e5f8e9b1c9d43388c90616a1d86b7f71d978d55ce7da9bd1c5db6", func := "foreshore/foreshorelaw07.MendMore", spec := "mendMore", unfollowed := true, recurses := true, plainKeys := false, apart := false, narrowed := true }
def MendMoreUptoSaid : Prop := mendMoreUptoRow.holds Try.pinned (OpenSpec.upto mendMoreSpec)

/-- 'foreshorelaw07.MendOrder', WHERE WHAT IT READS IS OF BULK AT MOST 1048576: true; the input reads as it did. -/
def mendOrderUptoRow : OpenClaim := { program := "ytjhdcelmgfajbaa", sum := "73293bcf5d5e5f8e9b1c9d43388c90616a1d86b7f71d978d55ce7da9bd1c5db6", func := "foreshore/foreshorelaw07.MendOrder", spec := "mendOrder", unfollowed := true, recurses := true, plainKeys := false, apart := false, narrowed := true }
def MendOrderUptoSaid : Prop := mendOrderUptoRow.holds Try.pinned (OpenSpec.upto mendOrderSpec)

/-- 'foreshorelaw07.MendFirst', WHERE WHAT IT READS IS OF BULK AT MOST 1048576: true; the input reads as it did. -/
def mendFirstUptoRow : OpenClaim := { program := "ytjhdcelmgfajbaa", sum := "73293bcf5d5e5f8e9b1c9d43388c90616a1d86b7f71d978d55ce7da9bd1c5db6", func := "foreshore/foreshorelaw07.MendFirst", spec := "mendFirst", unfollowed := true, recurses := true, plainKeys := false, apart := false, narrowed := true }
def MendFirstUptoSaid : Prop := mendFirstUptoRow.holds Try.pinned (OpenSpec.upto mendFirstSpec)

/-- 'foreshorelaw07.MendLeft', WHERE WHAT IT READS IS OF BULK AT MOST 1048576: true; the input reads as it did. -/
def mendLeftUptoRow : OpenClaim := { program := "ytjhdcelmgfajbaa", sum := "73293bcf5d5e5f8e9b1c9d43388c90616a1d86b7f71d978d55ce7da9bd1c5db6", func := "foreshore/foreshorelaw07.MendLeft", spec := "mendLeft", unfollowed := true, recurses := true, plainKeys := false, apart := false, narrowed := true }
def MendLeftUptoSaid : Prop := mendLeftUptoRow.holds Try.pinned (OpenSpec.upto mendLeftSpec)

/-- 'foreshorelaw07.MendPlays', WHERE WHAT IT READS IS OF BULK AT MOST 1048576: true; the input reads as it did. -/
def mendPlaysUptoRow : OpenClaim := { program := "ytjhdcelmgfajbaa", sum := "73293bcf5d5e5f8e9b1c9d43388c90616a1d86b7f71d978d55ce7da9bd1c5db6", func := "foreshore/foreshorelaw07.MendPlays", spec := "mendPlays", unfollowed := true, recurses := true, plainKeys := false, apart := false, narrowed := true }
def MendPlaysUptoSaid : Prop := mendPlaysUptoRow.holds Try.pinned (OpenSpec.upto mendPlaysSpec)

/-- 'foreshorelaw07.MendNames', WHERE WHAT IT READS IS OF BULK AT MOST 1048576: true; the input reads as it did. -/
def mendNamesUptoRow : OpenClaim := { program := "ytjhdcelmgfajbaa", sum := "73293bcf5d5e5f8e9b1c9d43388c90616a1d86b7f71d978d55ce7da9bd1c5db6", func := "foreshore/foreshorelaw07.MendNames", spec := "mendNames", unfollowed := true, recurses := true, plainKeys := false, apart := false, narrowed := true }
def MendNamesUptoSaid : Prop := mendNamesUptoRow.holds Try.pinned (OpenSpec.upto mendNamesSpec)

/-- 'foreshorelaw07.MendTruth', WHERE WHAT IT READS IS OF BULK AT MOST 1048576: true; the input reads as it did. -/
def mendTruthUptoRow : OpenClaim := { program := "ytjhdcelmgfajbaa", sum := "73293bcf5d5e5f8e9b1c9d43388c90616a1d86b7f71d978d55ce7da9bd1c5db6", func := "foreshore/foreshorelaw07.MendTruth", spec := "mendTruth", unfollowed := true, recurses := true, plainKeys := false, apart := false, narrowed := true }
def MendTruthUptoSaid : Prop := mendTruthUptoRow.holds Try.pinned (OpenSpec.upto mendTruthSpec)

end Rows
end Go.Proofs.Ytjhdcelmgfajbaa
