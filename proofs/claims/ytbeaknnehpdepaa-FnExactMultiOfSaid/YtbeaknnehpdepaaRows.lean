/-
  No cell of these rows narrows 'for every input' (looked for: loops, veiled, ifaces, maps, wideKeys, modest, calm, conditions, laid).
  DERIVED. THE GIVEN ROWS OF THIS SEAT. 10 by the template 'for every input the law returns true; each argument reads behind the call as it read before'; 0 by the template 'total and deterministic' (their statements: YtbeaknnehpdepaaTotals.lean).
  GIVEN WITH THE SEED: the statements are not yours to turn. If you find one false, say at which input.
  Laid BY PROGRAM, IN A SANDBOX (cutbox-rows.mjs): the forced cells as the released guide's own fill.sh prints them over the translation e32b73a4acc57270… (all of the seat's roots in one cut). By AI agents, Wed Nov 11 2026. No macro, syntax, notation, axiom, sorry.
-/
import Derived.Test.YtbeaknnehpdepaaChecked
import GoSem.Claim
import GoSem.ClaimJoined
import GoSem.ClaimMapViews
import Derived.JoinedTies
import Derived.KernelRfl
namespace Go.Proofs.Ytbeaknnehpdepaa
/- THE CELL 'sum', in the pinned program and in every row, IS THE sha256 OF THE DUMP (.gsa) THAT YtbeaknnehpdepaaProg.lean LOADS. Nothing in Lean hashes anything: it is a label: what it is worth is what the hold of that sum in a sandbox is worth. -/
noncomputable def Try.pinned : Pinned := { name := "ytbeaknnehpdepaa", sum := "e32b73a4acc572701a826acfeec31a2538fb89e29e7643968ca93d300aed7208", checked := Try.checked }
namespace Rows
def none {H : Type} : Left H := { results := [], args := [] }

/-- 'laws.FnExactSwapLandings': WHATEVER THE INPUT: true; the input reads as it did. -/
def fnExactSwapLandingsSpec : ChangeSpec := { name := "fnExactSwapLandings", fn := fun _ => fun
  | [d1, d2, d3] => { results := [.lit (.bool true)], args := [d1, d2, d3] }
  | _ => none }
def fnExactSwapLandingsRow : OpenClaim := { program := "ytbeaknnehpdepaa", sum := "e32b73a4acc572701a826acfeec31a2538fb89e29e7643968ca93d300aed7208", func := "loop.example/g00927/laws.FnExactSwapLandings", spec := "fnExactSwapLandings", apart := false }
def FnExactSwapLandingsSaid : Prop := fnExactSwapLandingsRow.holds Try.pinned (OpenSpec.ofChange fnExactSwapLandingsSpec)

/-- ITS FALSE NEIGHBOUR: 'it returns false'. Refute it at one input. -/
def fnExactSwapLandingsWrong : ChangeSpec := { name := "fnExactSwapLandings", fn := fun _ => fun
  | [d1, d2, d3] => { results := [.lit (.bool false)], args := [d1, d2, d3] }
  | _ => none }
def FnExactSwapLandingsWrongFalsely : Prop := fnExactSwapLandingsRow.holds Try.pinned (OpenSpec.ofChange fnExactSwapLandingsWrong)

/-- 'laws.FnExactDualPattern': WHATEVER THE INPUT: true; the input reads as it did. -/
def fnExactDualPatternSpec : ChangeSpec := { name := "fnExactDualPattern", fn := fun _ => fun
  | [d1, d2] => { results := [.lit (.bool true)], args := [d1, d2] }
  | _ => none }
def fnExactDualPatternRow : OpenClaim := { program := "ytbeaknnehpdepaa", sum := "e32b73a4acc572701a826acfeec31a2538fb89e29e7643968ca93d300aed7208", func := "loop.example/g00927/laws.FnExactDualPattern", spec := "fnExactDualPattern", apart := false }
def FnExactDualPatternSaid : Prop := fnExactDualPatternRow.holds Try.pinned (OpenSpec.ofChange fnExactDualPatternSpec)

/-- ITS FALSE NEIGHBOUR: 'it returns false'. Refute it at one input. -/
def fnExactDualPatternWrong : ChangeSpec := { name := "fnExactDualPattern", fn := fun _ => fun
  | [d1, d2] => { results := [.lit (.bool false)], args := [d1, d2] }
  | _ => none }
def FnExactDualPatternWrongFalsely : Prop := fnExactDualPatternRow.holds Try.pinned (OpenSpec.ofChange fnExactDualPatternWrong)

/-- 'laws.FnExactReversePattern': WHATEVER THE INPUT: true; the input reads as it did. -/
def fnExactReversePatternSpec : ChangeSpec := { name := "fnExactReversePattern", fn := fun _ => fun
  | [d] => { results := [.lit (.bool true)], args := [d] }
  | _ => none }
def fnExactReversePatternRow : OpenClaim := { program := "ytbeaknnehpdepaa", sum := "e32b73a4acc572701a826acfeec31a2538fb89e29e7643968ca93d300aed7208", func := "loop.example/g00927/laws.FnExactReversePattern", spec := "fnExactReversePattern", apart := false }
def FnExactReversePatternSaid : Prop := fnExactReversePatternRow.holds Try.pinned (OpenSpec.ofChange fnExactReversePatternSpec)

/-- ITS FALSE NEIGHBOUR: 'it returns false'. Refute it at one input. -/
def fnExactReversePatternWrong : ChangeSpec := { name := "fnExactReversePattern", fn := fun _ => fun
  | [d] => { results := [.lit (.bool false)], args := [d] }
  | _ => none }
def FnExactReversePatternWrongFalsely : Prop := fnExactReversePatternRow.holds Try.pinned (OpenSpec.ofChange fnExactReversePatternWrong)

/-- 'laws.FnExactRotatePattern': WHATEVER THE INPUT: true; the input reads as it did. -/
def fnExactRotatePatternSpec : ChangeSpec := { name := "fnExactRotatePattern", fn := fun _ => fun
  | [d1, d2] => { results := [.lit (.bool true)], args := [d1, d2] }
  | _ => none }
def fnExactRotatePatternRow : OpenClaim := { program := "ytbeaknnehpdepaa", sum := "e32b73a4acc572701a826acfeec31a2538fb89e29e7643968ca93d300aed7208", func := "loop.example/g00927/laws.FnExactRotatePattern", spec := "fnExactRotatePattern", apart := false }
def FnExactRotatePatternSaid : Prop := fnExactRotatePatternRow.holds Try.pinned (OpenSpec.ofChange fnExactRotatePatternSpec)

/-- ITS FALSE NEIGHBOUR: 'it returns false'. Refute it at one input. -/
def fnExactRotatePatternWrong : ChangeSpec := { name := "fnExactRotatePattern", fn := fun _ => fun
  | [d1, d2] => { results := [.lit (.bool false)], args := [d1, d2] }
  | _ => none }
def FnExactRotatePatternWrongFalsely : Prop := fnExactRotatePatternRow.holds Try.pinned (OpenSpec.ofChange fnExactRotatePatternWrong)

/-- 'laws.FnExactRootPattern': WHATEVER THE INPUT: true; the input reads as it did. -/
def fnExactRootPatternSpec : ChangeSpec := { name := "fnExactRootPattern", fn := fun _ => fun
  | [d] => { results := [.lit (.bool true)], args := [d] }
  | _ => none }
def fnExactRootPatternRow : OpenClaim := { program := "ytbeaknnehpdepaa", sum := "e32b73a4acc572701a826acfeec31a2538fb89e29e7643968ca93d300aed7208", func := "loop.example/g00927/laws.FnExactRootPattern", spec := "fnExactRootPattern", apart := false }
def FnExactRootPatternSaid : Prop := fnExactRootPatternRow.holds Try.pinned (OpenSpec.ofChange fnExactRootPatternSpec)

/-- ITS FALSE NEIGHBOUR: 'it returns false'. Refute it at one input. -/
def fnExactRootPatternWrong : ChangeSpec := { name := "fnExactRootPattern", fn := fun _ => fun
  | [d] => { results := [.lit (.bool false)], args := [d] }
  | _ => none }
def FnExactRootPatternWrongFalsely : Prop := fnExactRootPatternRow.holds Try.pinned (OpenSpec.ofChange fnExactRootPatternWrong)

/-- 'laws.FnExactAlikePatterns': WHATEVER THE INPUT: true; the input reads as it did. -/
def fnExactAlikePatternsSpec : ChangeSpec := { name := "fnExactAlikePatterns", fn := fun _ => fun
  | [d1, d2] => { results := [.lit (.bool true)], args := [d1, d2] }
  | _ => none }
def fnExactAlikePatternsRow : OpenClaim := { program := "ytbeaknnehpdepaa", sum := "e32b73a4acc572701a826acfeec31a2538fb89e29e7643968ca93d300aed7208", func := "loop.example/g00927/laws.FnExactAlikePatterns", spec := "fnExactAlikePatterns", apart := false }
def FnExactAlikePatternsSaid : Prop := fnExactAlikePatternsRow.holds Try.pinned (OpenSpec.ofChange fnExactAlikePatternsSpec)

/-- ITS FALSE NEIGHBOUR: 'it returns false'. Refute it at one input. -/
def fnExactAlikePatternsWrong : ChangeSpec := { name := "fnExactAlikePatterns", fn := fun _ => fun
  | [d1, d2] => { results := [.lit (.bool false)], args := [d1, d2] }
  | _ => none }
def FnExactAlikePatternsWrongFalsely : Prop := fnExactAlikePatternsRow.holds Try.pinned (OpenSpec.ofChange fnExactAlikePatternsWrong)

/-- 'laws.FnExactCanonicalPattern': WHATEVER THE INPUT: true; the input reads as it did. -/
def fnExactCanonicalPatternSpec : ChangeSpec := { name := "fnExactCanonicalPattern", fn := fun _ => fun
  | [d] => { results := [.lit (.bool true)], args := [d] }
  | _ => none }
def fnExactCanonicalPatternRow : OpenClaim := { program := "ytbeaknnehpdepaa", sum := "e32b73a4acc572701a826acfeec31a2538fb89e29e7643968ca93d300aed7208", func := "loop.example/g00927/laws.FnExactCanonicalPattern", spec := "fnExactCanonicalPattern", apart := false }
def FnExactCanonicalPatternSaid : Prop := fnExactCanonicalPatternRow.holds Try.pinned (OpenSpec.ofChange fnExactCanonicalPatternSpec)

/-- ITS FALSE NEIGHBOUR: 'it returns false'. Refute it at one input. -/
def fnExactCanonicalPatternWrong : ChangeSpec := { name := "fnExactCanonicalPattern", fn := fun _ => fun
  | [d] => { results := [.lit (.bool false)], args := [d] }
  | _ => none }
def FnExactCanonicalPatternWrongFalsely : Prop := fnExactCanonicalPatternRow.holds Try.pinned (OpenSpec.ofChange fnExactCanonicalPatternWrong)

/-- 'laws.FnExactMultiOf': WHATEVER THE INPUT: true; the input reads as it did. -/
def fnExactMultiOfSpec : ChangeSpec := { name := "fnExactMultiOf", fn := fun _ => fun
  | [d] => { results := [.lit (.bool true)], args := [d] }
  | _ => none }
def fnExactMultiOfRow : OpenClaim := { program := "ytbeaknnehpdepaa", sum := "e32b73a4acc572701a826acfeec31a2538fb89e29e7643968ca93d300aed7208", func := "loop.example/g00927/laws.FnExactMultiOf", spec := "fnExactMultiOf", apart := false }
def FnExactMultiOfSaid : Prop := fnExactMultiOfRow.holds Try.pinned (OpenSpec.ofChange fnExactMultiOfSpec)

/-- ITS FALSE NEIGHBOUR: 'it returns false'. Refute it at one input. -/
def fnExactMultiOfWrong : ChangeSpec := { name := "fnExactMultiOf", fn := fun _ => fun
  | [d] => { results := [.lit (.bool false)], args := [d] }
  | _ => none }
def FnExactMultiOfWrongFalsely : Prop := fnExactMultiOfRow.holds Try.pinned (OpenSpec.ofChange fnExactMultiOfWrong)

/-- 'laws.FnExactSingleOf': WHATEVER THE INPUT: true; the input reads as it did. -/
def fnExactSingleOfSpec : ChangeSpec := { name := "fnExactSingleOf", fn := fun _ => fun
  | [d] => { results := [.lit (.bool true)], args := [d] }
  | _ => none }
def fnExactSingleOfRow : OpenClaim := { program := "ytbeaknnehpdepaa", sum := "e32b73a4acc572701a826acfeec31a2538fb89e29e7643968ca93d300aed7208", func := "loop.example/g00927/laws.FnExactSingleOf", spec := "fnExactSingleOf", apart := false }
def FnExactSingleOfSaid : Prop := fnExactSingleOfRow.holds Try.pinned (OpenSpec.ofChange fnExactSingleOfSpec)

/-- ITS FALSE NEIGHBOUR: 'it returns false'. Refute it at one input. -/
def fnExactSingleOfWrong : ChangeSpec := { name := "fnExactSingleOf", fn := fun _ => fun
  | [d] => { results := [.lit (.bool false)], args := [d] }
  | _ => none }
def FnExactSingleOfWrongFalsely : Prop := fnExactSingleOfRow.holds Try.pinned (OpenSpec.ofChange fnExactSingleOfWrong)

/-- 'laws.FnExactPairUp': WHATEVER THE INPUT: true; the input reads as it did. -/
def fnExactPairUpSpec : ChangeSpec := { name := "fnExactPairUp", fn := fun _ => fun
  | [d] => { results := [.lit (.bool true)], args := [d] }
  | _ => none }
def fnExactPairUpRow : OpenClaim := { program := "ytbeaknnehpdepaa", sum := "e32b73a4acc572701a826acfeec31a2538fb89e29e7643968ca93d300aed7208", func := "loop.example/g00927/laws.FnExactPairUp", spec := "fnExactPairUp", apart := false }
def FnExactPairUpSaid : Prop := fnExactPairUpRow.holds Try.pinned (OpenSpec.ofChange fnExactPairUpSpec)

/-- ITS FALSE NEIGHBOUR: 'it returns false'. Refute it at one input. -/
def fnExactPairUpWrong : ChangeSpec := { name := "fnExactPairUp", fn := fun _ => fun
  | [d] => { results := [.lit (.bool false)], args := [d] }
  | _ => none }
def FnExactPairUpWrongFalsely : Prop := fnExactPairUpRow.holds Try.pinned (OpenSpec.ofChange fnExactPairUpWrong)

/- THE SECOND FORM. 'bulk': how many values and letters a reading holds, each counted each time it is reached (what is shared counts as often as it is met; a slice's spare places count too). A statement '..UptoSaid' is the law's where the arguments, and the package variables that the reading takes, are together of bulk at most 1048576: NARROWER than '..Said'. Prove '..Said' where nothing that the law and all that it calls make is longer than what came in: it says more and counts as full. Else prove '..UptoSaid'. A law counts once. -/
mutual
def uptoBulk {H : Type} : DataW H → Nat
  | .lit (.string bytes) => bytes.length + 1
  | .lit _ => 1
  | .nil => 1
  | .ptr d => uptoBulk d + 1
  | .slice elems spare => uptoBulkAll elems + uptoBulkAll spare + 1
  | .agg parts => uptoBulkAll parts + 1
  | .iface _ d => uptoBulk d + 1
  | .map entries => uptoBulkEntries entries + 1
  | .held _ => 1
def uptoBulkAll {H : Type} : List (DataW H) → Nat
  | [] => 0
  | d :: r => uptoBulk d + uptoBulkAll r
def uptoBulkEntries {H : Type} : List (Lit × DataW H) → Nat
  | [] => 0
  | x :: r => uptoBulkEntry x + uptoBulkEntries r
def uptoBulkEntry {H : Type} : Lit × DataW H → Nat
  | (.string bytes, d) => bytes.length + uptoBulk d + 1
  | (_, d) => uptoBulk d + 1
 end
def uptoSmall : (H : Type) → List (DataW H) → Bool := fun _ ds => decide (uptoBulkAll ds ≤ 1048576)
def OpenSpec.upto (s : _root_.Go.ChangeSpec) : _root_.Go.OpenSpec := { _root_.Go.OpenSpec.ofChange s with cond := some uptoSmall }

/-- 'laws.FnExactSwapLandings', WHERE WHAT IT READS IS OF BULK AT MOST 1048576: true; the input reads as it did. -/
def fnExactSwapLandingsUptoRow : OpenClaim := { program := "ytbeaknnehpdepaa", sum := "e32b73a4acc572701a826acfeec31a2538fb89e29e7643968ca93d300aed7208", func := "loop.example/g00927/laws.FnExactSwapLandings", spec := "fnExactSwapLandings", apart := false, narrowed := true }
def FnExactSwapLandingsUptoSaid : Prop := fnExactSwapLandingsUptoRow.holds Try.pinned (OpenSpec.upto fnExactSwapLandingsSpec)

/-- 'laws.FnExactDualPattern', WHERE WHAT IT READS IS OF BULK AT MOST 1048576: true; the input reads as it did. -/
def fnExactDualPatternUptoRow : OpenClaim := { program := "ytbeaknnehpdepaa", sum := "e32b73a4acc572701a826acfeec31a2538fb89e29e7643968ca93d300aed7208", func := "loop.example/g00927/laws.FnExactDualPattern", spec := "fnExactDualPattern", apart := false, narrowed := true }
def FnExactDualPatternUptoSaid : Prop := fnExactDualPatternUptoRow.holds Try.pinned (OpenSpec.upto fnExactDualPatternSpec)

/-- 'laws.FnExactReversePattern', WHERE WHAT IT READS IS OF BULK AT MOST 1048576: true; the input reads as it did. -/
def fnExactReversePatternUptoRow : OpenClaim := { program := "ytbeaknnehpdepaa", sum := "e32b73a4acc572701a826acfeec31a2538fb89e29e7643968ca93d300aed7208", func := "loop.example/g00927/laws.FnExactReversePattern", spec := "fnExactReversePattern", apart := false, narrowed := true }
def FnExactReversePatternUptoSaid : Prop := fnExactReversePatternUptoRow.holds Try.pinned (OpenSpec.upto fnExactReversePatternSpec)

/-- 'laws.FnExactRotatePattern', WHERE WHAT IT READS IS OF BULK AT MOST 1048576: true; the input reads as it did. -/
def fnExactRotatePatternUptoRow : OpenClaim := { program := "ytbeaknnehpdepaa", sum := "e32b73a4acc572701a826acfeec31a2538fb89e29e7643968ca93d300aed7208", func := "loop.example/g00927/laws.FnExactRotatePattern", spec := "fnExactRotatePattern", apart := false, narrowed := true }
def FnExactRotatePatternUptoSaid : Prop := fnExactRotatePatternUptoRow.holds Try.pinned (OpenSpec.upto fnExactRotatePatternSpec)

/-- 'laws.FnExactRootPattern', WHERE WHAT IT READS IS OF BULK AT MOST 1048576: true; the input reads as it did. -/
def fnExactRootPatternUptoRow : OpenClaim := { program := "ytbeaknnehpdepaa", sum := "e32b73a4acc572701a826acfeec31a2538fb89e29e7643968ca93d300aed7208", func := "loop.example/g00927/laws.FnExactRootPattern", spec := "fnExactRootPattern", apart := false, narrowed := true }
def FnExactRootPatternUptoSaid : Prop := fnExactRootPatternUptoRow.holds Try.pinned (OpenSpec.upto fnExactRootPatternSpec)

/-- 'laws.FnExactAlikePatterns', WHERE WHAT IT READS IS OF BULK AT MOST 1048576: true; the input reads as it did. -/
def fnExactAlikePatternsUptoRow : OpenClaim := { program := "ytbeaknnehpdepaa", sum := "e32b73a4acc572701a826acfeec31a2538fb89e29e7643968ca93d300aed7208", func := "loop.example/g00927/laws.FnExactAlikePatterns", spec := "fnExactAlikePatterns", apart := false, narrowed := true }
def FnExactAlikePatternsUptoSaid : Prop := fnExactAlikePatternsUptoRow.holds Try.pinned (OpenSpec.upto fnExactAlikePatternsSpec)

/-- 'laws.FnExactCanonicalPattern', WHERE WHAT IT READS IS OF BULK AT MOST 1048576: true; the input reads as it did. -/
def fnExactCanonicalPatternUptoRow : OpenClaim := { program := "ytbeaknnehpdepaa", sum := "e32b73a4acc572701a826acfeec31a2538fb89e29e7643968ca93d300aed7208", func := "loop.example/g00927/laws.FnExactCanonicalPattern", spec := "fnExactCanonicalPattern", apart := false, narrowed := true }
def FnExactCanonicalPatternUptoSaid : Prop := fnExactCanonicalPatternUptoRow.holds Try.pinned (OpenSpec.upto fnExactCanonicalPatternSpec)

/-- 'laws.FnExactMultiOf', WHERE WHAT IT READS IS OF BULK AT MOST 1048576: true; the input reads as it did. -/
def fnExactMultiOfUptoRow : OpenClaim := { program := "ytbeaknnehpdepaa", sum := "e32b73a4acc572701a826acfeec31a2538fb89e29e7643968ca93d300aed7208", func := "loop.example/g00927/laws.FnExactMultiOf", spec := "fnExactMultiOf", apart := false, narrowed := true }
def FnExactMultiOfUptoSaid : Prop := fnExactMultiOfUptoRow.holds Try.pinned (OpenSpec.upto fnExactMultiOfSpec)

/-- 'laws.FnExactSingleOf', WHERE WHAT IT READS IS OF BULK AT MOST 1048576: true; the input reads as it did. -/
def fnExactSingleOfUptoRow : OpenClaim := { program := "ytbeaknnehpdepaa", sum := "e32b73a4acc572701a826acfeec31a2538fb89e29e7643968ca93d300aed7208", func := "loop.example/g00927/laws.FnExactSingleOf", spec := "fnExactSingleOf", apart := false, narrowed := true }
def FnExactSingleOfUptoSaid : Prop := fnExactSingleOfUptoRow.holds Try.pinned (OpenSpec.upto fnExactSingleOfSpec)

/-- 'laws.FnExactPairUp', WHERE WHAT IT READS IS OF BULK AT MOST 1048576: true; the input reads as it did. -/
def fnExactPairUpUptoRow : OpenClaim := { program := "ytbeaknnehpdepaa", sum := "e32b73a4acc572701a826acfeec31a2538fb89e29e7643968ca93d300aed7208", func := "loop.example/g00927/laws.FnExactPairUp", spec := "fnExactPairUp", apart := false, narrowed := true }
def FnExactPairUpUptoSaid : Prop := fnExactPairUpUptoRow.holds Try.pinned (OpenSpec.upto fnExactPairUpSpec)

end Rows
end Go.Proofs.Ytbeaknnehpdepaa
