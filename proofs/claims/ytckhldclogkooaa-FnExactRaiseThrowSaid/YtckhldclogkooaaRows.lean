/-
  No cell of these rows narrows 'for every input' (looked for: loops, veiled, ifaces, maps, wideKeys, modest, calm, conditions, laid).
  DERIVED. THE GIVEN ROWS OF THIS SEAT. 12 by the template 'for every input the law returns true; each argument reads behind the call as it read before'; 0 by the template 'total and deterministic' (their statements: YtckhldclogkooaaTotals.lean).
  GIVEN WITH THE SEED: the statements are not yours to turn. If you find one false, say at which input.
  Laid BY PROGRAM, IN A SANDBOX (cutbox-rows.mjs): the forced cells as the released guide's own fill.sh prints them over the translation 649d0bc4aa13f44e… (all of the seat's roots in one cut). By AI agents, Wed Nov 11 2026. No macro, syntax, notation, axiom, sorry.
-/
import Derived.Test.YtckhldclogkooaaChecked
import GoSem.Claim
import GoSem.ClaimJoined
import GoSem.ClaimMapViews
import Derived.JoinedTies
import Derived.KernelRfl
namespace Go.Proofs.Ytckhldclogkooaa
/- THE CELL 'sum', in the pinned program and in every row, IS THE sha256 OF THE DUMP (.gsa) THAT YtckhldclogkooaaProg.lean LOADS. Nothing in Lean hashes anything: it is a label: what it is worth is what the hold of that sum in a sandbox is worth. -/
noncomputable def Try.pinned : Pinned := { name := "ytckhldclogkooaa", sum := "649d0bc4aa13f44e1eb2f81026b52fa07934f28c40d5fc200521bba340cdbae6", checked := Try.checked }
namespace Rows
def none {H : Type} : Left H := { results := [], args := [] }

/-- 'laws.FnExactCollisionOf': WHATEVER THE INPUT: true; the input reads as it did. -/
def fnExactCollisionOfSpec : ChangeSpec := { name := "fnExactCollisionOf", fn := fun _ => fun
  | [d] => { results := [.lit (.bool true)], args := [d] }
  | _ => none }
def fnExactCollisionOfRow : OpenClaim := { program := "ytckhldclogkooaa", sum := "649d0bc4aa13f44e1eb2f81026b52fa07934f28c40d5fc200521bba340cdbae6", func := "loop.example/g00927/laws.FnExactCollisionOf", spec := "fnExactCollisionOf", apart := false }
def FnExactCollisionOfSaid : Prop := fnExactCollisionOfRow.holds Try.pinned (OpenSpec.ofChange fnExactCollisionOfSpec)

/-- ITS FALSE NEIGHBOUR: 'it returns false'. Refute it at one input. -/
def fnExactCollisionOfWrong : ChangeSpec := { name := "fnExactCollisionOf", fn := fun _ => fun
  | [d] => { results := [.lit (.bool false)], args := [d] }
  | _ => none }
def FnExactCollisionOfWrongFalsely : Prop := fnExactCollisionOfRow.holds Try.pinned (OpenSpec.ofChange fnExactCollisionOfWrong)

/-- 'laws.FnExactValidPattern': WHATEVER THE INPUT: true; the input reads as it did. -/
def fnExactValidPatternSpec : ChangeSpec := { name := "fnExactValidPattern", fn := fun _ => fun
  | [d] => { results := [.lit (.bool true)], args := [d] }
  | _ => none }
def fnExactValidPatternRow : OpenClaim := { program := "ytckhldclogkooaa", sum := "649d0bc4aa13f44e1eb2f81026b52fa07934f28c40d5fc200521bba340cdbae6", func := "loop.example/g00927/laws.FnExactValidPattern", spec := "fnExactValidPattern", apart := false }
def FnExactValidPatternSaid : Prop := fnExactValidPatternRow.holds Try.pinned (OpenSpec.ofChange fnExactValidPatternSpec)

/-- ITS FALSE NEIGHBOUR: 'it returns false'. Refute it at one input. -/
def fnExactValidPatternWrong : ChangeSpec := { name := "fnExactValidPattern", fn := fun _ => fun
  | [d] => { results := [.lit (.bool false)], args := [d] }
  | _ => none }
def FnExactValidPatternWrongFalsely : Prop := fnExactValidPatternRow.holds Try.pinned (OpenSpec.ofChange fnExactValidPatternWrong)

/-- 'laws.FnExactPatternText': WHATEVER THE INPUT: true; the input reads as it did. -/
def fnExactPatternTextSpec : ChangeSpec := { name := "fnExactPatternText", fn := fun _ => fun
  | [d] => { results := [.lit (.bool true)], args := [d] }
  | _ => none }
def fnExactPatternTextRow : OpenClaim := { program := "ytckhldclogkooaa", sum := "649d0bc4aa13f44e1eb2f81026b52fa07934f28c40d5fc200521bba340cdbae6", func := "loop.example/g00927/laws.FnExactPatternText", spec := "fnExactPatternText", apart := false }
def FnExactPatternTextSaid : Prop := fnExactPatternTextRow.holds Try.pinned (OpenSpec.ofChange fnExactPatternTextSpec)

/-- ITS FALSE NEIGHBOUR: 'it returns false'. Refute it at one input. -/
def fnExactPatternTextWrong : ChangeSpec := { name := "fnExactPatternText", fn := fun _ => fun
  | [d] => { results := [.lit (.bool false)], args := [d] }
  | _ => none }
def FnExactPatternTextWrongFalsely : Prop := fnExactPatternTextRow.holds Try.pinned (OpenSpec.ofChange fnExactPatternTextWrong)

/-- 'laws.FnExactPropsOf': WHATEVER THE INPUT: true; the input reads as it did. -/
def fnExactPropsOfSpec : ChangeSpec := { name := "fnExactPropsOf", fn := fun _ => fun
  | [d] => { results := [.lit (.bool true)], args := [d] }
  | _ => none }
def fnExactPropsOfRow : OpenClaim := { program := "ytckhldclogkooaa", sum := "649d0bc4aa13f44e1eb2f81026b52fa07934f28c40d5fc200521bba340cdbae6", func := "loop.example/g00927/laws.FnExactPropsOf", spec := "fnExactPropsOf", apart := false }
def FnExactPropsOfSaid : Prop := fnExactPropsOfRow.holds Try.pinned (OpenSpec.ofChange fnExactPropsOfSpec)

/-- ITS FALSE NEIGHBOUR: 'it returns false'. Refute it at one input. -/
def fnExactPropsOfWrong : ChangeSpec := { name := "fnExactPropsOf", fn := fun _ => fun
  | [d] => { results := [.lit (.bool false)], args := [d] }
  | _ => none }
def FnExactPropsOfWrongFalsely : Prop := fnExactPropsOfRow.holds Try.pinned (OpenSpec.ofChange fnExactPropsOfWrong)

/-- 'laws.FnExactHighestOf': WHATEVER THE INPUT: true; the input reads as it did. -/
def fnExactHighestOfSpec : ChangeSpec := { name := "fnExactHighestOf", fn := fun _ => fun
  | [d] => { results := [.lit (.bool true)], args := [d] }
  | _ => none }
def fnExactHighestOfRow : OpenClaim := { program := "ytckhldclogkooaa", sum := "649d0bc4aa13f44e1eb2f81026b52fa07934f28c40d5fc200521bba340cdbae6", func := "loop.example/g00927/laws.FnExactHighestOf", spec := "fnExactHighestOf", apart := false }
def FnExactHighestOfSaid : Prop := fnExactHighestOfRow.holds Try.pinned (OpenSpec.ofChange fnExactHighestOfSpec)

/-- ITS FALSE NEIGHBOUR: 'it returns false'. Refute it at one input. -/
def fnExactHighestOfWrong : ChangeSpec := { name := "fnExactHighestOf", fn := fun _ => fun
  | [d] => { results := [.lit (.bool false)], args := [d] }
  | _ => none }
def FnExactHighestOfWrongFalsely : Prop := fnExactHighestOfRow.holds Try.pinned (OpenSpec.ofChange fnExactHighestOfWrong)

/-- 'laws.FnExactLandingBeats': WHATEVER THE INPUT: true; the input reads as it did. -/
def fnExactLandingBeatsSpec : ChangeSpec := { name := "fnExactLandingBeats", fn := fun _ => fun
  | [d] => { results := [.lit (.bool true)], args := [d] }
  | _ => none }
def fnExactLandingBeatsRow : OpenClaim := { program := "ytckhldclogkooaa", sum := "649d0bc4aa13f44e1eb2f81026b52fa07934f28c40d5fc200521bba340cdbae6", func := "loop.example/g00927/laws.FnExactLandingBeats", spec := "fnExactLandingBeats", apart := false }
def FnExactLandingBeatsSaid : Prop := fnExactLandingBeatsRow.holds Try.pinned (OpenSpec.ofChange fnExactLandingBeatsSpec)

/-- ITS FALSE NEIGHBOUR: 'it returns false'. Refute it at one input. -/
def fnExactLandingBeatsWrong : ChangeSpec := { name := "fnExactLandingBeats", fn := fun _ => fun
  | [d] => { results := [.lit (.bool false)], args := [d] }
  | _ => none }
def FnExactLandingBeatsWrongFalsely : Prop := fnExactLandingBeatsRow.holds Try.pinned (OpenSpec.ofChange fnExactLandingBeatsWrong)

/-- 'laws.FnExactThrowAt': WHATEVER THE INPUT: true; the input reads as it did. -/
def fnExactThrowAtSpec : ChangeSpec := { name := "fnExactThrowAt", fn := fun _ => fun
  | [d1, d2] => { results := [.lit (.bool true)], args := [d1, d2] }
  | _ => none }
def fnExactThrowAtRow : OpenClaim := { program := "ytckhldclogkooaa", sum := "649d0bc4aa13f44e1eb2f81026b52fa07934f28c40d5fc200521bba340cdbae6", func := "loop.example/g00927/laws.FnExactThrowAt", spec := "fnExactThrowAt", apart := false }
def FnExactThrowAtSaid : Prop := fnExactThrowAtRow.holds Try.pinned (OpenSpec.ofChange fnExactThrowAtSpec)

/-- ITS FALSE NEIGHBOUR: 'it returns false'. Refute it at one input. -/
def fnExactThrowAtWrong : ChangeSpec := { name := "fnExactThrowAt", fn := fun _ => fun
  | [d1, d2] => { results := [.lit (.bool false)], args := [d1, d2] }
  | _ => none }
def FnExactThrowAtWrongFalsely : Prop := fnExactThrowAtRow.holds Try.pinned (OpenSpec.ofChange fnExactThrowAtWrong)

/-- 'laws.FnExactLandsFrom': WHATEVER THE INPUT: true; the input reads as it did. -/
def fnExactLandsFromSpec : ChangeSpec := { name := "fnExactLandsFrom", fn := fun _ => fun
  | [d1, d2] => { results := [.lit (.bool true)], args := [d1, d2] }
  | _ => none }
def fnExactLandsFromRow : OpenClaim := { program := "ytckhldclogkooaa", sum := "649d0bc4aa13f44e1eb2f81026b52fa07934f28c40d5fc200521bba340cdbae6", func := "loop.example/g00927/laws.FnExactLandsFrom", spec := "fnExactLandsFrom", apart := false }
def FnExactLandsFromSaid : Prop := fnExactLandsFromRow.holds Try.pinned (OpenSpec.ofChange fnExactLandsFromSpec)

/-- ITS FALSE NEIGHBOUR: 'it returns false'. Refute it at one input. -/
def fnExactLandsFromWrong : ChangeSpec := { name := "fnExactLandsFrom", fn := fun _ => fun
  | [d1, d2] => { results := [.lit (.bool false)], args := [d1, d2] }
  | _ => none }
def FnExactLandsFromWrongFalsely : Prop := fnExactLandsFromRow.holds Try.pinned (OpenSpec.ofChange fnExactLandsFromWrong)

/-- 'laws.FnExactReadPattern': WHATEVER THE INPUT: true; the input reads as it did. -/
def fnExactReadPatternSpec : ChangeSpec := { name := "fnExactReadPattern", fn := fun _ => fun
  | [d] => { results := [.lit (.bool true)], args := [d] }
  | _ => none }
def fnExactReadPatternRow : OpenClaim := { program := "ytckhldclogkooaa", sum := "649d0bc4aa13f44e1eb2f81026b52fa07934f28c40d5fc200521bba340cdbae6", func := "loop.example/g00927/laws.FnExactReadPattern", spec := "fnExactReadPattern", apart := false }
def FnExactReadPatternSaid : Prop := fnExactReadPatternRow.holds Try.pinned (OpenSpec.ofChange fnExactReadPatternSpec)

/-- ITS FALSE NEIGHBOUR: 'it returns false'. Refute it at one input. -/
def fnExactReadPatternWrong : ChangeSpec := { name := "fnExactReadPattern", fn := fun _ => fun
  | [d] => { results := [.lit (.bool false)], args := [d] }
  | _ => none }
def FnExactReadPatternWrongFalsely : Prop := fnExactReadPatternRow.holds Try.pinned (OpenSpec.ofChange fnExactReadPatternWrong)

/-- 'laws.FnExactRepeatPattern': WHATEVER THE INPUT: true; the input reads as it did. -/
def fnExactRepeatPatternSpec : ChangeSpec := { name := "fnExactRepeatPattern", fn := fun _ => fun
  | [d1, d2] => { results := [.lit (.bool true)], args := [d1, d2] }
  | _ => none }
def fnExactRepeatPatternRow : OpenClaim := { program := "ytckhldclogkooaa", sum := "649d0bc4aa13f44e1eb2f81026b52fa07934f28c40d5fc200521bba340cdbae6", func := "loop.example/g00927/laws.FnExactRepeatPattern", spec := "fnExactRepeatPattern", apart := false }
def FnExactRepeatPatternSaid : Prop := fnExactRepeatPatternRow.holds Try.pinned (OpenSpec.ofChange fnExactRepeatPatternSpec)

/-- ITS FALSE NEIGHBOUR: 'it returns false'. Refute it at one input. -/
def fnExactRepeatPatternWrong : ChangeSpec := { name := "fnExactRepeatPattern", fn := fun _ => fun
  | [d1, d2] => { results := [.lit (.bool false)], args := [d1, d2] }
  | _ => none }
def FnExactRepeatPatternWrongFalsely : Prop := fnExactRepeatPatternRow.holds Try.pinned (OpenSpec.ofChange fnExactRepeatPatternWrong)

/-- 'laws.FnExactRaiseThrow': WHATEVER THE INPUT: true; the input reads as it did. -/
def fnExactRaiseThrowSpec : ChangeSpec := { name := "fnExactRaiseThrow", fn := fun _ => fun
  | [d1, d2] => { results := [.lit (.bool true)], args := [d1, d2] }
  | _ => none }
def fnExactRaiseThrowRow : OpenClaim := { program := "ytckhldclogkooaa", sum := "649d0bc4aa13f44e1eb2f81026b52fa07934f28c40d5fc200521bba340cdbae6", func := "loop.example/g00927/laws.FnExactRaiseThrow", spec := "fnExactRaiseThrow", apart := false }
def FnExactRaiseThrowSaid : Prop := fnExactRaiseThrowRow.holds Try.pinned (OpenSpec.ofChange fnExactRaiseThrowSpec)

/-- ITS FALSE NEIGHBOUR: 'it returns false'. Refute it at one input. -/
def fnExactRaiseThrowWrong : ChangeSpec := { name := "fnExactRaiseThrow", fn := fun _ => fun
  | [d1, d2] => { results := [.lit (.bool false)], args := [d1, d2] }
  | _ => none }
def FnExactRaiseThrowWrongFalsely : Prop := fnExactRaiseThrowRow.holds Try.pinned (OpenSpec.ofChange fnExactRaiseThrowWrong)

/-- 'laws.FnExactShiftThrows': WHATEVER THE INPUT: true; the input reads as it did. -/
def fnExactShiftThrowsSpec : ChangeSpec := { name := "fnExactShiftThrows", fn := fun _ => fun
  | [d1, d2] => { results := [.lit (.bool true)], args := [d1, d2] }
  | _ => none }
def fnExactShiftThrowsRow : OpenClaim := { program := "ytckhldclogkooaa", sum := "649d0bc4aa13f44e1eb2f81026b52fa07934f28c40d5fc200521bba340cdbae6", func := "loop.example/g00927/laws.FnExactShiftThrows", spec := "fnExactShiftThrows", apart := false }
def FnExactShiftThrowsSaid : Prop := fnExactShiftThrowsRow.holds Try.pinned (OpenSpec.ofChange fnExactShiftThrowsSpec)

/-- ITS FALSE NEIGHBOUR: 'it returns false'. Refute it at one input. -/
def fnExactShiftThrowsWrong : ChangeSpec := { name := "fnExactShiftThrows", fn := fun _ => fun
  | [d1, d2] => { results := [.lit (.bool false)], args := [d1, d2] }
  | _ => none }
def FnExactShiftThrowsWrongFalsely : Prop := fnExactShiftThrowsRow.holds Try.pinned (OpenSpec.ofChange fnExactShiftThrowsWrong)

/- THE SECOND FORM. 'bulk': how many values and letters a reading holds, each counted each time it is reached (what is shared counts as often as it is met; a slice's spare places count too). A statement '..UptoSaid' is the law's where the arguments, and the package variables that the reading takes, are together of bulk at most 1048576: NARROWER than '..Said'. Prove '..Said' where nothing that the law and all that it calls make is longer than what came in: it says more and counts as full. Else prove '..UptoSaid'. A law counts once. -/
mutual
def uptoBulk {H : Type} : DataW H → Nat
  | .lit (.string bytes) => bytes.length + 1
  | .lit _ => 1
  | .nil => 1
  | .ptr d => uptoBulk d + 1
  | .slice elems spare => uptoBulkAll elems + uptoBulkAll spare + 1
  | .agg parts => uptoBulkAll parts + 1
  | .iface _ d => uptoBulk d + 1
  | .map entries => uptoBulkEntries entries + 1
  | .held _ => 1
def uptoBulkAll {H : Type} : List (DataW H) → Nat
  | [] => 0
  | d :: r => uptoBulk d + uptoBulkAll r
def uptoBulkEntries {H : Type} : List (Lit × DataW H) → Nat
  | [] => 0
  | x :: r => uptoBulkEntry x + uptoBulkEntries r
def uptoBulkEntry {H : Type} : Lit × DataW H → Nat
  | (.string bytes, d) => bytes.length + uptoBulk d + 1
  | (_, d) => uptoBulk d + 1
 end
def uptoSmall : (H : Type) → List (DataW H) → Bool := fun _ ds => decide (uptoBulkAll ds ≤ 1048576)
def OpenSpec.upto (s : _root_.Go.ChangeSpec) : _root_.Go.OpenSpec := { _root_.Go.OpenSpec.ofChange s with cond := some uptoSmall }

/-- 'laws.FnExactCollisionOf', WHERE WHAT IT READS IS OF BULK AT MOST 1048576: true; the input reads as it did. -/
def fnExactCollisionOfUptoRow : OpenClaim := { program := "ytckhldclogkooaa", sum := "649d0bc4aa13f44e1eb2f81026b52fa07934f28c40d5fc200521bba340cdbae6", func := "loop.example/g00927/laws.FnExactCollisionOf", spec := "fnExactCollisionOf", apart := false, narrowed := true }
def FnExactCollisionOfUptoSaid : Prop := fnExactCollisionOfUptoRow.holds Try.pinned (OpenSpec.upto fnExactCollisionOfSpec)

/-- 'laws.FnExactValidPattern', WHERE WHAT IT READS IS OF BULK AT MOST 1048576: true; the input reads as it did. -/
def fnExactValidPatternUptoRow : OpenClaim := { program := "ytckhldclogkooaa", sum := "649d0bc4aa13f44e1eb2f81026b52fa07934f28c40d5fc200521bba340cdbae6", func := "loop.example/g00927/laws.FnExactValidPattern", spec := "fnExactValidPattern", apart := false, narrowed := true }
def FnExactValidPatternUptoSaid : Prop := fnExactValidPatternUptoRow.holds Try.pinned (OpenSpec.upto fnExactValidPatternSpec)

/-- 'laws.FnExactPatternText', WHERE WHAT IT READS IS OF BULK AT MOST 1048576: true; the input reads as it did. -/
def fnExactPatternTextUptoRow : OpenClaim := { program := "ytckhldclogkooaa", sum := "649d0bc4aa13f44e1eb2f81026b52fa07934f28c40d5fc200521bba340cdbae6", func := "loop.example/g00927/laws.FnExactPatternText", spec := "fnExactPatternText", apart := false, narrowed := true }
def FnExactPatternTextUptoSaid : Prop := fnExactPatternTextUptoRow.holds Try.pinned (OpenSpec.upto fnExactPatternTextSpec)

/-- 'laws.FnExactPropsOf', WHERE WHAT IT READS IS OF BULK AT MOST 1048576: true; the input reads as it did. -/
def fnExactPropsOfUptoRow : OpenClaim := { program := "ytckhldclogkooaa", sum := "649d0bc4aa13f44e1eb2f81026b52fa07934f28c40d5fc200521bba340cdbae6", func := "loop.example/g00927/laws.FnExactPropsOf", spec := "fnExactPropsOf", apart := false, narrowed := true }
def FnExactPropsOfUptoSaid : Prop := fnExactPropsOfUptoRow.holds Try.pinned (OpenSpec.upto fnExactPropsOfSpec)

/-- 'laws.FnExactHighestOf', WHERE WHAT IT READS IS OF BULK AT MOST 1048576: true; the input reads as it did. -/
def fnExactHighestOfUptoRow : OpenClaim := { program := "ytckhldclogkooaa", sum := "649d0bc4aa13f44e1eb2f81026b52fa07934f28c40d5fc200521bba340cdbae6", func := "loop.example/g00927/laws.FnExactHighestOf", spec := "fnExactHighestOf", apart := false, narrowed := true }
def FnExactHighestOfUptoSaid : Prop := fnExactHighestOfUptoRow.holds Try.pinned (OpenSpec.upto fnExactHighestOfSpec)

/-- 'laws.FnExactLandingBeats', WHERE WHAT IT READS IS OF BULK AT MOST 1048576: true; the input reads as it did. -/
def fnExactLandingBeatsUptoRow : OpenClaim := { program := "ytckhldclogkooaa", sum := "649d0bc4aa13f44e1eb2f81026b52fa07934f28c40d5fc200521bba340cdbae6", func := "loop.example/g00927/laws.FnExactLandingBeats", spec := "fnExactLandingBeats", apart := false, narrowed := true }
def FnExactLandingBeatsUptoSaid : Prop := fnExactLandingBeatsUptoRow.holds Try.pinned (OpenSpec.upto fnExactLandingBeatsSpec)

/-- 'laws.FnExactThrowAt', WHERE WHAT IT READS IS OF BULK AT MOST 1048576: true; the input reads as it did. -/
def fnExactThrowAtUptoRow : OpenClaim := { program := "ytckhldclogkooaa", sum := "649d0bc4aa13f44e1eb2f81026b52fa07934f28c40d5fc200521bba340cdbae6", func := "loop.example/g00927/laws.FnExactThrowAt", spec := "fnExactThrowAt", apart := false, narrowed := true }
def FnExactThrowAtUptoSaid : Prop := fnExactThrowAtUptoRow.holds Try.pinned (OpenSpec.upto fnExactThrowAtSpec)

/-- 'laws.FnExactLandsFrom', WHERE WHAT IT READS IS OF BULK AT MOST 1048576: true; the input reads as it did. -/
def fnExactLandsFromUptoRow : OpenClaim := { program := "ytckhldclogkooaa", sum := "649d0bc4aa13f44e1eb2f81026b52fa07934f28c40d5fc200521bba340cdbae6", func := "loop.example/g00927/laws.FnExactLandsFrom", spec := "fnExactLandsFrom", apart := false, narrowed := true }
def FnExactLandsFromUptoSaid : Prop := fnExactLandsFromUptoRow.holds Try.pinned (OpenSpec.upto fnExactLandsFromSpec)

/-- 'laws.FnExactReadPattern', WHERE WHAT IT READS IS OF BULK AT MOST 1048576: true; the input reads as it did. -/
def fnExactReadPatternUptoRow : OpenClaim := { program := "ytckhldclogkooaa", sum := "649d0bc4aa13f44e1eb2f81026b52fa07934f28c40d5fc200521bba340cdbae6", func := "loop.example/g00927/laws.FnExactReadPattern", spec := "fnExactReadPattern", apart := false, narrowed := true }
def FnExactReadPatternUptoSaid : Prop := fnExactReadPatternUptoRow.holds Try.pinned (OpenSpec.upto fnExactReadPatternSpec)

/-- 'laws.FnExactRepeatPattern', WHERE WHAT IT READS IS OF BULK AT MOST 1048576: true; the input reads as it did. -/
def fnExactRepeatPatternUptoRow : OpenClaim := { program := "ytckhldclogkooaa", sum := "649d0bc4aa13f44e1eb2f81026b52fa07934f28c40d5fc200521bba340cdbae6", func := "loop.example/g00927/laws.FnExactRepeatPattern", spec := "fnExactRepeatPattern", apart := false, narrowed := true }
def FnExactRepeatPatternUptoSaid : Prop := fnExactRepeatPatternUptoRow.holds Try.pinned (OpenSpec.upto fnExactRepeatPatternSpec)

/-- 'laws.FnExactRaiseThrow', WHERE WHAT IT READS IS OF BULK AT MOST 1048576: true; the input reads as it did. -/
def fnExactRaiseThrowUptoRow : OpenClaim := { program := "ytckhldclogkooaa", sum := "649d0bc4aa13f44e1eb2f81026b52fa07934f28c40d5fc200521bba340cdbae6", func := "loop.example/g00927/laws.FnExactRaiseThrow", spec := "fnExactRaiseThrow", apart := false, narrowed := true }
def FnExactRaiseThrowUptoSaid : Prop := fnExactRaiseThrowUptoRow.holds Try.pinned (OpenSpec.upto fnExactRaiseThrowSpec)

/-- 'laws.FnExactShiftThrows', WHERE WHAT IT READS IS OF BULK AT MOST 1048576: true; the input reads as it did. -/
def fnExactShiftThrowsUptoRow : OpenClaim := { program := "ytckhldclogkooaa", sum := "649d0bc4aa13f44e1eb2f81026b52fa07934f28c40d5fc200521bba340cdbae6", func := "loop.example/g00927/laws.FnExactShiftThrows", spec := "fnExactShiftThrows", apart := false, narrowed := true }
def FnExactShiftThrowsUptoSaid : Prop := fnExactShiftThrowsUptoRow.holds Try.pinned (OpenSpec.upto fnExactShiftThrowsSpec)

end Rows
end Go.Proofs.Ytckhldclogkooaa
