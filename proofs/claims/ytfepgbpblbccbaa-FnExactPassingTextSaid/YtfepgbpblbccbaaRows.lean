/-
  No cell of these rows narrows 'for every input' (looked for: loops, veiled, ifaces, maps, wideKeys, modest, calm, conditions, laid).
  DERIVED. THE GIVEN ROWS OF THIS SEAT. 10 by the template 'for every input the law returns true; each argument reads behind the call as it read before'; 0 by the template 'total and deterministic' (their statements: YtfepgbpblbccbaaTotals.lean).
  GIVEN WITH THE SEED: the statements are not yours to turn. If you find one false, say at which input.
  Laid BY PROGRAM, IN A SANDBOX (cutbox-rows.mjs): the forced cells as the released guide's own fill.sh prints them over the translation 6820f51109694e4a… (all of the seat's roots in one cut). By AI agents, Wed Nov 11 2026. No macro, syntax, notation, axiom, sorry.
-/
import Derived.Test.YtfepgbpblbccbaaChecked
import GoSem.Claim
import GoSem.ClaimJoined
import GoSem.ClaimMapViews
import Derived.JoinedTies
import Derived.KernelRfl
namespace Go.Proofs.Ytfepgbpblbccbaa
/- THE CELL 'sum', in the pinned program and in every row, IS THE sha256 OF THE DUMP (.gsa) THAT YtfepgbpblbccbaaProg.lean LOADS. Nothing in Lean hashes anything: it is a label: what it is worth is what the hold of that sum in a sandbox is worth. -/
noncomputable def Try.pinned : Pinned := { name := "ytfepgbpblbccbaa", sum := "6820f51109694e4accc7fe20c4c6f69c994c03a4a137a99a9c001982a6490c89", checked := Try.checked }
namespace Rows
def none {H : Type} : Left H := { results := [], args := [] }

/-- 'laws.FnExactSamePassing': WHATEVER THE INPUT: true; the input reads as it did. -/
def fnExactSamePassingSpec : ChangeSpec := { name := "fnExactSamePassing", fn := fun _ => fun
  | [d1, d2] => { results := [.lit (.bool true)], args := [d1, d2] }
  | _ => none }
def fnExactSamePassingRow : OpenClaim := { program := "ytfepgbpblbccbaa", sum := "6820f51109694e4accc7fe20c4c6f69c994c03a4a137a99a9c001982a6490c89", func := "loop.example/g00927/laws.FnExactSamePassing", spec := "fnExactSamePassing", apart := false }
def FnExactSamePassingSaid : Prop := fnExactSamePassingRow.holds Try.pinned (OpenSpec.ofChange fnExactSamePassingSpec)

/-- ITS FALSE NEIGHBOUR: 'it returns false'. Refute it at one input. -/
def fnExactSamePassingWrong : ChangeSpec := { name := "fnExactSamePassing", fn := fun _ => fun
  | [d1, d2] => { results := [.lit (.bool false)], args := [d1, d2] }
  | _ => none }
def FnExactSamePassingWrongFalsely : Prop := fnExactSamePassingRow.holds Try.pinned (OpenSpec.ofChange fnExactSamePassingWrong)

/-- 'laws.FnExactValidPassing': WHATEVER THE INPUT: true; the input reads as it did. -/
def fnExactValidPassingSpec : ChangeSpec := { name := "fnExactValidPassing", fn := fun _ => fun
  | [d] => { results := [.lit (.bool true)], args := [d] }
  | _ => none }
def fnExactValidPassingRow : OpenClaim := { program := "ytfepgbpblbccbaa", sum := "6820f51109694e4accc7fe20c4c6f69c994c03a4a137a99a9c001982a6490c89", func := "loop.example/g00927/laws.FnExactValidPassing", spec := "fnExactValidPassing", apart := false }
def FnExactValidPassingSaid : Prop := fnExactValidPassingRow.holds Try.pinned (OpenSpec.ofChange fnExactValidPassingSpec)

/-- ITS FALSE NEIGHBOUR: 'it returns false'. Refute it at one input. -/
def fnExactValidPassingWrong : ChangeSpec := { name := "fnExactValidPassing", fn := fun _ => fun
  | [d] => { results := [.lit (.bool false)], args := [d] }
  | _ => none }
def FnExactValidPassingWrongFalsely : Prop := fnExactValidPassingRow.holds Try.pinned (OpenSpec.ofChange fnExactValidPassingWrong)

/-- 'laws.FnExactPassingProps': WHATEVER THE INPUT: true; the input reads as it did. -/
def fnExactPassingPropsSpec : ChangeSpec := { name := "fnExactPassingProps", fn := fun _ => fun
  | [d] => { results := [.lit (.bool true)], args := [d] }
  | _ => none }
def fnExactPassingPropsRow : OpenClaim := { program := "ytfepgbpblbccbaa", sum := "6820f51109694e4accc7fe20c4c6f69c994c03a4a137a99a9c001982a6490c89", func := "loop.example/g00927/laws.FnExactPassingProps", spec := "fnExactPassingProps", apart := false }
def FnExactPassingPropsSaid : Prop := fnExactPassingPropsRow.holds Try.pinned (OpenSpec.ofChange fnExactPassingPropsSpec)

/-- ITS FALSE NEIGHBOUR: 'it returns false'. Refute it at one input. -/
def fnExactPassingPropsWrong : ChangeSpec := { name := "fnExactPassingProps", fn := fun _ => fun
  | [d] => { results := [.lit (.bool false)], args := [d] }
  | _ => none }
def FnExactPassingPropsWrongFalsely : Prop := fnExactPassingPropsRow.holds Try.pinned (OpenSpec.ofChange fnExactPassingPropsWrong)

/-- 'laws.FnExactPassingText': WHATEVER THE INPUT: true; the input reads as it did. -/
def fnExactPassingTextSpec : ChangeSpec := { name := "fnExactPassingText", fn := fun _ => fun
  | [d] => { results := [.lit (.bool true)], args := [d] }
  | _ => none }
def fnExactPassingTextRow : OpenClaim := { program := "ytfepgbpblbccbaa", sum := "6820f51109694e4accc7fe20c4c6f69c994c03a4a137a99a9c001982a6490c89", func := "loop.example/g00927/laws.FnExactPassingText", spec := "fnExactPassingText", apart := false }
def FnExactPassingTextSaid : Prop := fnExactPassingTextRow.holds Try.pinned (OpenSpec.ofChange fnExactPassingTextSpec)

/-- ITS FALSE NEIGHBOUR: 'it returns false'. Refute it at one input. -/
def fnExactPassingTextWrong : ChangeSpec := { name := "fnExactPassingText", fn := fun _ => fun
  | [d] => { results := [.lit (.bool false)], args := [d] }
  | _ => none }
def FnExactPassingTextWrongFalsely : Prop := fnExactPassingTextRow.holds Try.pinned (OpenSpec.ofChange fnExactPassingTextWrong)

/-- 'laws.FnExactTogetherOf': WHATEVER THE INPUT: true; the input reads as it did. -/
def fnExactTogetherOfSpec : ChangeSpec := { name := "fnExactTogetherOf", fn := fun _ => fun
  | [d1, d2] => { results := [.lit (.bool true)], args := [d1, d2] }
  | _ => none }
def fnExactTogetherOfRow : OpenClaim := { program := "ytfepgbpblbccbaa", sum := "6820f51109694e4accc7fe20c4c6f69c994c03a4a137a99a9c001982a6490c89", func := "loop.example/g00927/laws.FnExactTogetherOf", spec := "fnExactTogetherOf", apart := false }
def FnExactTogetherOfSaid : Prop := fnExactTogetherOfRow.holds Try.pinned (OpenSpec.ofChange fnExactTogetherOfSpec)

/-- ITS FALSE NEIGHBOUR: 'it returns false'. Refute it at one input. -/
def fnExactTogetherOfWrong : ChangeSpec := { name := "fnExactTogetherOf", fn := fun _ => fun
  | [d1, d2] => { results := [.lit (.bool false)], args := [d1, d2] }
  | _ => none }
def FnExactTogetherOfWrongFalsely : Prop := fnExactTogetherOfRow.holds Try.pinned (OpenSpec.ofChange fnExactTogetherOfWrong)

/-- 'laws.FnExactApartOf': WHATEVER THE INPUT: true; the input reads as it did. -/
def fnExactApartOfSpec : ChangeSpec := { name := "fnExactApartOf", fn := fun _ => fun
  | [d] => { results := [.lit (.bool true)], args := [d] }
  | _ => none }
def fnExactApartOfRow : OpenClaim := { program := "ytfepgbpblbccbaa", sum := "6820f51109694e4accc7fe20c4c6f69c994c03a4a137a99a9c001982a6490c89", func := "loop.example/g00927/laws.FnExactApartOf", spec := "fnExactApartOf", apart := false }
def FnExactApartOfSaid : Prop := fnExactApartOfRow.holds Try.pinned (OpenSpec.ofChange fnExactApartOfSpec)

/-- ITS FALSE NEIGHBOUR: 'it returns false'. Refute it at one input. -/
def fnExactApartOfWrong : ChangeSpec := { name := "fnExactApartOf", fn := fun _ => fun
  | [d] => { results := [.lit (.bool false)], args := [d] }
  | _ => none }
def FnExactApartOfWrongFalsely : Prop := fnExactApartOfRow.holds Try.pinned (OpenSpec.ofChange fnExactApartOfWrong)

/-- 'laws.FnExactPassesOf': WHATEVER THE INPUT: true; the input reads as it did. -/
def fnExactPassesOfSpec : ChangeSpec := { name := "fnExactPassesOf", fn := fun _ => fun
  | [d] => { results := [.lit (.bool true)], args := [d] }
  | _ => none }
def fnExactPassesOfRow : OpenClaim := { program := "ytfepgbpblbccbaa", sum := "6820f51109694e4accc7fe20c4c6f69c994c03a4a137a99a9c001982a6490c89", func := "loop.example/g00927/laws.FnExactPassesOf", spec := "fnExactPassesOf", apart := false }
def FnExactPassesOfSaid : Prop := fnExactPassesOfRow.holds Try.pinned (OpenSpec.ofChange fnExactPassesOfSpec)

/-- ITS FALSE NEIGHBOUR: 'it returns false'. Refute it at one input. -/
def fnExactPassesOfWrong : ChangeSpec := { name := "fnExactPassesOf", fn := fun _ => fun
  | [d] => { results := [.lit (.bool false)], args := [d] }
  | _ => none }
def FnExactPassesOfWrongFalsely : Prop := fnExactPassesOfRow.holds Try.pinned (OpenSpec.ofChange fnExactPassesOfWrong)

/-- 'laws.FnExactRotatePassing': WHATEVER THE INPUT: true; the input reads as it did. -/
def fnExactRotatePassingSpec : ChangeSpec := { name := "fnExactRotatePassing", fn := fun _ => fun
  | [d1, d2] => { results := [.lit (.bool true)], args := [d1, d2] }
  | _ => none }
def fnExactRotatePassingRow : OpenClaim := { program := "ytfepgbpblbccbaa", sum := "6820f51109694e4accc7fe20c4c6f69c994c03a4a137a99a9c001982a6490c89", func := "loop.example/g00927/laws.FnExactRotatePassing", spec := "fnExactRotatePassing", apart := false }
def FnExactRotatePassingSaid : Prop := fnExactRotatePassingRow.holds Try.pinned (OpenSpec.ofChange fnExactRotatePassingSpec)

/-- ITS FALSE NEIGHBOUR: 'it returns false'. Refute it at one input. -/
def fnExactRotatePassingWrong : ChangeSpec := { name := "fnExactRotatePassing", fn := fun _ => fun
  | [d1, d2] => { results := [.lit (.bool false)], args := [d1, d2] }
  | _ => none }
def FnExactRotatePassingWrongFalsely : Prop := fnExactRotatePassingRow.holds Try.pinned (OpenSpec.ofChange fnExactRotatePassingWrong)

/-- 'laws.FnExactReadPassing': WHATEVER THE INPUT: true; the input reads as it did. -/
def fnExactReadPassingSpec : ChangeSpec := { name := "fnExactReadPassing", fn := fun _ => fun
  | [d] => { results := [.lit (.bool true)], args := [d] }
  | _ => none }
def fnExactReadPassingRow : OpenClaim := { program := "ytfepgbpblbccbaa", sum := "6820f51109694e4accc7fe20c4c6f69c994c03a4a137a99a9c001982a6490c89", func := "loop.example/g00927/laws.FnExactReadPassing", spec := "fnExactReadPassing", apart := false }
def FnExactReadPassingSaid : Prop := fnExactReadPassingRow.holds Try.pinned (OpenSpec.ofChange fnExactReadPassingSpec)

/-- ITS FALSE NEIGHBOUR: 'it returns false'. Refute it at one input. -/
def fnExactReadPassingWrong : ChangeSpec := { name := "fnExactReadPassing", fn := fun _ => fun
  | [d] => { results := [.lit (.bool false)], args := [d] }
  | _ => none }
def FnExactReadPassingWrongFalsely : Prop := fnExactReadPassingRow.holds Try.pinned (OpenSpec.ofChange fnExactReadPassingWrong)

/-- 'laws.FnExactSplitWords': WHATEVER THE INPUT: true; the input reads as it did. -/
def fnExactSplitWordsSpec : ChangeSpec := { name := "fnExactSplitWords", fn := fun _ => fun
  | [d] => { results := [.lit (.bool true)], args := [d] }
  | _ => none }
def fnExactSplitWordsRow : OpenClaim := { program := "ytfepgbpblbccbaa", sum := "6820f51109694e4accc7fe20c4c6f69c994c03a4a137a99a9c001982a6490c89", func := "loop.example/g00927/laws.FnExactSplitWords", spec := "fnExactSplitWords", apart := false }
def FnExactSplitWordsSaid : Prop := fnExactSplitWordsRow.holds Try.pinned (OpenSpec.ofChange fnExactSplitWordsSpec)

/-- ITS FALSE NEIGHBOUR: 'it returns false'. Refute it at one input. -/
def fnExactSplitWordsWrong : ChangeSpec := { name := "fnExactSplitWords", fn := fun _ => fun
  | [d] => { results := [.lit (.bool false)], args := [d] }
  | _ => none }
def FnExactSplitWordsWrongFalsely : Prop := fnExactSplitWordsRow.holds Try.pinned (OpenSpec.ofChange fnExactSplitWordsWrong)

/- THE SECOND FORM. 'bulk': how many values and letters a reading holds, each counted each time it is reached (what is shared counts as often as it is met; a slice's spare places count too). A statement '..UptoSaid' is the law's where the arguments, and the package variables that the reading takes, are together of bulk at most 1048576: NARROWER than '..Said'. Prove '..Said' where nothing that the law and all that it calls make is longer than what came in: it says more and counts as full. Else prove '..UptoSaid'. A law counts once. -/
mutual
def uptoBulk {H : Type} : DataW H → Nat
  | .lit (.string bytes) => bytes.length + 1
  | .lit _ => 1
  | .nil => 1
  | .ptr d => uptoBulk d + 1
  | .slice elems spare => uptoBulkAll elems + uptoBulkAll spare + 1
  | .agg parts => uptoBulkAll parts + 1
  | .iface _ d => uptoBulk d + 1
  | .map entries => uptoBulkEntries entries + 1
  | .held _ => 1
def uptoBulkAll {H : Type} : List (DataW H) → Nat
  | [] => 0
  | d :: r => uptoBulk d + uptoBulkAll r
def uptoBulkEntries {H : Type} : List (Lit × DataW H) → Nat
  | [] => 0
  | x :: r => uptoBulkEntry x + uptoBulkEntries r
def uptoBulkEntry {H : Type} : Lit × DataW H → Nat
  | (.string bytes, d) => bytes.length + uptoBulk d + 1
  | (_, d) => uptoBulk d + 1
 end
def uptoSmall : (H : Type) → List (DataW H) → Bool := fun _ ds => decide (uptoBulkAll ds ≤ 1048576)
def OpenSpec.upto (s : _root_.Go.ChangeSpec) : _root_.Go.OpenSpec := { _root_.Go.OpenSpec.ofChange s with cond := some uptoSmall }

/-- 'laws.FnExactSamePassing', WHERE WHAT IT READS IS OF BULK AT MOST 1048576: true; the input reads as it did. -/
def fnExactSamePassingUptoRow : OpenClaim := { program := "ytfepgbpblbccbaa", sum := "6820f51109694e4accc7fe20c4c6f69c994c03a4a137a99a9c001982a6490c89", func := "loop.example/g00927/laws.FnExactSamePassing", spec := "fnExactSamePassing", apart := false, narrowed := true }
def FnExactSamePassingUptoSaid : Prop := fnExactSamePassingUptoRow.holds Try.pinned (OpenSpec.upto fnExactSamePassingSpec)

/-- 'laws.FnExactValidPassing', WHERE WHAT IT READS IS OF BULK AT MOST 1048576: true; the input reads as it did. -/
def fnExactValidPassingUptoRow : OpenClaim := { program := "ytfepgbpblbccbaa", sum := "6820f51109694e4accc7fe20c4c6f69c994c03a4a137a99a9c001982a6490c89", func := "loop.example/g00927/laws.FnExactValidPassing", spec := "fnExactValidPassing", apart := false, narrowed := true }
def FnExactValidPassingUptoSaid : Prop := fnExactValidPassingUptoRow.holds Try.pinned (OpenSpec.upto fnExactValidPassingSpec)

/-- 'laws.FnExactPassingProps', WHERE WHAT IT READS IS OF BULK AT MOST 1048576: true; the input reads as it did. -/
def fnExactPassingPropsUptoRow : OpenClaim := { program := "ytfepgbpblbccbaa", sum := "6820f51109694e4accc7fe20c4c6f69c994c03a4a137a99a9c001982a6490c89", func := "loop.example/g00927/laws.FnExactPassingProps", spec := "fnExactPassingProps", apart := false, narrowed := true }
def FnExactPassingPropsUptoSaid : Prop := fnExactPassingPropsUptoRow.holds Try.pinned (OpenSpec.upto fnExactPassingPropsSpec)

/-- 'laws.FnExactPassingText', WHERE WHAT IT READS IS OF BULK AT MOST 1048576: true; the input reads as it did. -/
def fnExactPassingTextUptoRow : OpenClaim := { program := "ytfepgbpblbccbaa", sum := "6820f51109694e4accc7fe20c4c6f69c994c03a4a137a99a9c001982a6490c89", func := "loop.example/g00927/laws.FnExactPassingText", spec := "fnExactPassingText", apart := false, narrowed := true }
def FnExactPassingTextUptoSaid : Prop := fnExactPassingTextUptoRow.holds Try.pinned (OpenSpec.upto fnExactPassingTextSpec)

/-- 'laws.FnExactTogetherOf', WHERE WHAT IT READS IS OF BULK AT MOST 1048576: true; the input reads as it did. -/
def fnExactTogetherOfUptoRow : OpenClaim := { program := "ytfepgbpblbccbaa", sum := "6820f51109694e4accc7fe20c4c6f69c994c03a4a137a99a9c001982a6490c89", func := "loop.example/g00927/laws.FnExactTogetherOf", spec := "fnExactTogetherOf", apart := false, narrowed := true }
def FnExactTogetherOfUptoSaid : Prop := fnExactTogetherOfUptoRow.holds Try.pinned (OpenSpec.upto fnExactTogetherOfSpec)

/-- 'laws.FnExactApartOf', WHERE WHAT IT READS IS OF BULK AT MOST 1048576: true; the input reads as it did. -/
def fnExactApartOfUptoRow : OpenClaim := { program := "ytfepgbpblbccbaa", sum := "6820f51109694e4accc7fe20c4c6f69c994c03a4a137a99a9c001982a6490c89", func := "loop.example/g00927/laws.FnExactApartOf", spec := "fnExactApartOf", apart := false, narrowed := true }
def FnExactApartOfUptoSaid : Prop := fnExactApartOfUptoRow.holds Try.pinned (OpenSpec.upto fnExactApartOfSpec)

/-- 'laws.FnExactPassesOf', WHERE WHAT IT READS IS OF BULK AT MOST 1048576: true; the input reads as it did. -/
def fnExactPassesOfUptoRow : OpenClaim := { program := "ytfepgbpblbccbaa", sum := "6820f51109694e4accc7fe20c4c6f69c994c03a4a137a99a9c001982a6490c89", func := "loop.example/g00927/laws.FnExactPassesOf", spec := "fnExactPassesOf", apart := false, narrowed := true }
def FnExactPassesOfUptoSaid : Prop := fnExactPassesOfUptoRow.holds Try.pinned (OpenSpec.upto fnExactPassesOfSpec)

/-- 'laws.FnExactRotatePassing', WHERE WHAT IT READS IS OF BULK AT MOST 1048576: true; the input reads as it did. -/
def fnExactRotatePassingUptoRow : OpenClaim := { program := "ytfepgbpblbccbaa", sum := "6820f51109694e4accc7fe20c4c6f69c994c03a4a137a99a9c001982a6490c89", func := "loop.example/g00927/laws.FnExactRotatePassing", spec := "fnExactRotatePassing", apart := false, narrowed := true }
def FnExactRotatePassingUptoSaid : Prop := fnExactRotatePassingUptoRow.holds Try.pinned (OpenSpec.upto fnExactRotatePassingSpec)

/-- 'laws.FnExactReadPassing', WHERE WHAT IT READS IS OF BULK AT MOST 1048576: true; the input reads as it did. -/
def fnExactReadPassingUptoRow : OpenClaim := { program := "ytfepgbpblbccbaa", sum := "6820f51109694e4accc7fe20c4c6f69c994c03a4a137a99a9c001982a6490c89", func := "loop.example/g00927/laws.FnExactReadPassing", spec := "fnExactReadPassing", apart := false, narrowed := true }
def FnExactReadPassingUptoSaid : Prop := fnExactReadPassingUptoRow.holds Try.pinned (OpenSpec.upto fnExactReadPassingSpec)

/-- 'laws.FnExactSplitWords', WHERE WHAT IT READS IS OF BULK AT MOST 1048576: true; the input reads as it did. -/
def fnExactSplitWordsUptoRow : OpenClaim := { program := "ytfepgbpblbccbaa", sum := "6820f51109694e4accc7fe20c4c6f69c994c03a4a137a99a9c001982a6490c89", func := "loop.example/g00927/laws.FnExactSplitWords", spec := "fnExactSplitWords", apart := false, narrowed := true }
def FnExactSplitWordsUptoSaid : Prop := fnExactSplitWordsUptoRow.holds Try.pinned (OpenSpec.upto fnExactSplitWordsSpec)

end Rows
end Go.Proofs.Ytfepgbpblbccbaa
