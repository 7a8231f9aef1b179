/-
  No cell of these rows narrows 'for every input' (looked for: loops, veiled, ifaces, maps, wideKeys, modest, calm, conditions, laid).
  DERIVED. THE GIVEN ROWS OF THIS SEAT. 7 by the template 'for every input the law returns true; each argument reads behind the call as it read before'; 0 by the template 'total and deterministic' (their statements: YtndeapaibhnkpaaTotals.lean).
  GIVEN WITH THE SEED: the statements are not yours to turn. If you find one false, say at which input.
  Laid BY PROGRAM, IN A SANDBOX (cutbox-rows.mjs): the forced cells as the released guide's own fill.sh prints them over the translation 75bd1ddc591aa6a9… (all of the seat's roots in one cut). By AI agents, Wed Nov 11 2026. No macro, syntax, notation, axiom, sorry.
-/
import Derived.Test.YtndeapaibhnkpaaChecked
import GoSem.Claim
import GoSem.ClaimJoined
import GoSem.ClaimMapViews
import Derived.JoinedTies
import Derived.KernelRfl
namespace Go.Proofs.Ytndeapaibhnkpaa
/- THE CELL 'sum', in the pinned program and in every row, IS THE sha256 OF THE DUMP (.gsa) THAT YtndeapaibhnkpaaProg.lean LOADS. Nothing in Lean hashes anything: it is a label: what it is worth is what the hold of that sum in a sandbox is worth. -/
noncomputable def Try.pinned : Pinned := { name := "ytndeapaibhnkpaa", sum := "75bd1ddc591aa6a9f1bb12f612489e1be0fb62d5a779890c93208480f6272ef1", checked := Try.checked }
namespace Rows
def none {H : Type} : Left H := { results := [], args := [] }

/-- 'laws.FnExactConstants': WHATEVER THE INPUT: true; the input reads as it did. -/
def fnExactConstantsSpec : ChangeSpec := { name := "fnExactConstants", fn := fun _ => fun
  | [] => { results := [.lit (.bool true)], args := [] }
  | _ => none }
def fnExactConstantsRow : OpenClaim := { program := "ytndeapaibhnkpaa", sum := "75bd1ddc591aa6a9f1bb12f612489e1be0fb62d5a779890c93208480f6272ef1", func := "loop.example/g00927/laws.FnExactConstants", spec := "fnExactConstants", apart := false }
def FnExactConstantsSaid : Prop := fnExactConstantsRow.holds Try.pinned (OpenSpec.ofChange fnExactConstantsSpec)

/-- ITS FALSE NEIGHBOUR: 'it returns false'. Refute it at one input. -/
def fnExactConstantsWrong : ChangeSpec := { name := "fnExactConstants", fn := fun _ => fun
  | [] => { results := [.lit (.bool false)], args := [] }
  | _ => none }
def FnExactConstantsWrongFalsely : Prop := fnExactConstantsRow.holds Try.pinned (OpenSpec.ofChange fnExactConstantsWrong)

/-- 'laws.FnExactCodeName': WHATEVER THE INPUT: true; the input reads as it did. -/
def fnExactCodeNameSpec : ChangeSpec := { name := "fnExactCodeName", fn := fun _ => fun
  | [d] => { results := [.lit (.bool true)], args := [d] }
  | _ => none }
def fnExactCodeNameRow : OpenClaim := { program := "ytndeapaibhnkpaa", sum := "75bd1ddc591aa6a9f1bb12f612489e1be0fb62d5a779890c93208480f6272ef1", func := "loop.example/g00927/laws.FnExactCodeName", spec := "fnExactCodeName", apart := false }
def FnExactCodeNameSaid : Prop := fnExactCodeNameRow.holds Try.pinned (OpenSpec.ofChange fnExactCodeNameSpec)

/-- ITS FALSE NEIGHBOUR: 'it returns false'. Refute it at one input. -/
def fnExactCodeNameWrong : ChangeSpec := { name := "fnExactCodeName", fn := fun _ => fun
  | [d] => { results := [.lit (.bool false)], args := [d] }
  | _ => none }
def FnExactCodeNameWrongFalsely : Prop := fnExactCodeNameRow.holds Try.pinned (OpenSpec.ofChange fnExactCodeNameWrong)

/-- 'laws.FnExactFaultName': WHATEVER THE INPUT: true; the input reads as it did. -/
def fnExactFaultNameSpec : ChangeSpec := { name := "fnExactFaultName", fn := fun _ => fun
  | [d] => { results := [.lit (.bool true)], args := [d] }
  | _ => none }
def fnExactFaultNameRow : OpenClaim := { program := "ytndeapaibhnkpaa", sum := "75bd1ddc591aa6a9f1bb12f612489e1be0fb62d5a779890c93208480f6272ef1", func := "loop.example/g00927/laws.FnExactFaultName", spec := "fnExactFaultName", apart := false }
def FnExactFaultNameSaid : Prop := fnExactFaultNameRow.holds Try.pinned (OpenSpec.ofChange fnExactFaultNameSpec)

/-- ITS FALSE NEIGHBOUR: 'it returns false'. Refute it at one input. -/
def fnExactFaultNameWrong : ChangeSpec := { name := "fnExactFaultName", fn := fun _ => fun
  | [d] => { results := [.lit (.bool false)], args := [d] }
  | _ => none }
def FnExactFaultNameWrongFalsely : Prop := fnExactFaultNameRow.holds Try.pinned (OpenSpec.ofChange fnExactFaultNameWrong)

/-- 'laws.FnExactNoteName': WHATEVER THE INPUT: true; the input reads as it did. -/
def fnExactNoteNameSpec : ChangeSpec := { name := "fnExactNoteName", fn := fun _ => fun
  | [d] => { results := [.lit (.bool true)], args := [d] }
  | _ => none }
def fnExactNoteNameRow : OpenClaim := { program := "ytndeapaibhnkpaa", sum := "75bd1ddc591aa6a9f1bb12f612489e1be0fb62d5a779890c93208480f6272ef1", func := "loop.example/g00927/laws.FnExactNoteName", spec := "fnExactNoteName", apart := false }
def FnExactNoteNameSaid : Prop := fnExactNoteNameRow.holds Try.pinned (OpenSpec.ofChange fnExactNoteNameSpec)

/-- ITS FALSE NEIGHBOUR: 'it returns false'. Refute it at one input. -/
def fnExactNoteNameWrong : ChangeSpec := { name := "fnExactNoteName", fn := fun _ => fun
  | [d] => { results := [.lit (.bool false)], args := [d] }
  | _ => none }
def FnExactNoteNameWrongFalsely : Prop := fnExactNoteNameRow.holds Try.pinned (OpenSpec.ofChange fnExactNoteNameWrong)

/-- 'laws.FnExactIsName': WHATEVER THE INPUT: true; the input reads as it did. -/
def fnExactIsNameSpec : ChangeSpec := { name := "fnExactIsName", fn := fun _ => fun
  | [d] => { results := [.lit (.bool true)], args := [d] }
  | _ => none }
def fnExactIsNameRow : OpenClaim := { program := "ytndeapaibhnkpaa", sum := "75bd1ddc591aa6a9f1bb12f612489e1be0fb62d5a779890c93208480f6272ef1", func := "loop.example/g00927/laws.FnExactIsName", spec := "fnExactIsName", apart := false }
def FnExactIsNameSaid : Prop := fnExactIsNameRow.holds Try.pinned (OpenSpec.ofChange fnExactIsNameSpec)

/-- ITS FALSE NEIGHBOUR: 'it returns false'. Refute it at one input. -/
def fnExactIsNameWrong : ChangeSpec := { name := "fnExactIsName", fn := fun _ => fun
  | [d] => { results := [.lit (.bool false)], args := [d] }
  | _ => none }
def FnExactIsNameWrongFalsely : Prop := fnExactIsNameRow.holds Try.pinned (OpenSpec.ofChange fnExactIsNameWrong)

/-- 'laws.FnExactKindOfText': WHATEVER THE INPUT: true; the input reads as it did. -/
def fnExactKindOfTextSpec : ChangeSpec := { name := "fnExactKindOfText", fn := fun _ => fun
  | [d] => { results := [.lit (.bool true)], args := [d] }
  | _ => none }
def fnExactKindOfTextRow : OpenClaim := { program := "ytndeapaibhnkpaa", sum := "75bd1ddc591aa6a9f1bb12f612489e1be0fb62d5a779890c93208480f6272ef1", func := "loop.example/g00927/laws.FnExactKindOfText", spec := "fnExactKindOfText", apart := false }
def FnExactKindOfTextSaid : Prop := fnExactKindOfTextRow.holds Try.pinned (OpenSpec.ofChange fnExactKindOfTextSpec)

/-- ITS FALSE NEIGHBOUR: 'it returns false'. Refute it at one input. -/
def fnExactKindOfTextWrong : ChangeSpec := { name := "fnExactKindOfText", fn := fun _ => fun
  | [d] => { results := [.lit (.bool false)], args := [d] }
  | _ => none }
def FnExactKindOfTextWrongFalsely : Prop := fnExactKindOfTextRow.holds Try.pinned (OpenSpec.ofChange fnExactKindOfTextWrong)

/-- 'laws.FnExactComparePatterns': WHATEVER THE INPUT: true; the input reads as it did. -/
def fnExactComparePatternsSpec : ChangeSpec := { name := "fnExactComparePatterns", fn := fun _ => fun
  | [d1, d2] => { results := [.lit (.bool true)], args := [d1, d2] }
  | _ => none }
def fnExactComparePatternsRow : OpenClaim := { program := "ytndeapaibhnkpaa", sum := "75bd1ddc591aa6a9f1bb12f612489e1be0fb62d5a779890c93208480f6272ef1", func := "loop.example/g00927/laws.FnExactComparePatterns", spec := "fnExactComparePatterns", apart := false }
def FnExactComparePatternsSaid : Prop := fnExactComparePatternsRow.holds Try.pinned (OpenSpec.ofChange fnExactComparePatternsSpec)

/-- ITS FALSE NEIGHBOUR: 'it returns false'. Refute it at one input. -/
def fnExactComparePatternsWrong : ChangeSpec := { name := "fnExactComparePatterns", fn := fun _ => fun
  | [d1, d2] => { results := [.lit (.bool false)], args := [d1, d2] }
  | _ => none }
def FnExactComparePatternsWrongFalsely : Prop := fnExactComparePatternsRow.holds Try.pinned (OpenSpec.ofChange fnExactComparePatternsWrong)

/- THE SECOND FORM. 'bulk': how many values and letters a reading holds, each counted each time it is reached (what is shared counts as often as it is met; a slice's spare places count too). A statement '..UptoSaid' is the law's where the arguments, and the package variables that the reading takes, are together of bulk at most 1048576: NARROWER than '..Said'. Prove '..Said' where nothing that the law and all that it calls make is longer than what came in: it says more and counts as full. Else prove '..UptoSaid'. A law counts once. -/
mutual
def uptoBulk {H : Type} : DataW H → Nat
  | .lit (.string bytes) => bytes.length + 1
  | .lit _ => 1
  | .nil => 1
  | .ptr d => uptoBulk d + 1
  | .slice elems spare => uptoBulkAll elems + uptoBulkAll spare + 1
  | .agg parts => uptoBulkAll parts + 1
  | .iface _ d => uptoBulk d + 1
  | .map entries => uptoBulkEntries entries + 1
  | .held _ => 1
def uptoBulkAll {H : Type} : List (DataW H) → Nat
  | [] => 0
  | d :: r => uptoBulk d + uptoBulkAll r
def uptoBulkEntries {H : Type} : List (Lit × DataW H) → Nat
  | [] => 0
  | x :: r => uptoBulkEntry x + uptoBulkEntries r
def uptoBulkEntry {H : Type} : Lit × DataW H → Nat
  | (.string bytes, d) => bytes.length + uptoBulk d + 1
  | (_, d) => uptoBulk d + 1
 end
def uptoSmall : (H : Type) → List (DataW H) → Bool := fun _ ds => decide (uptoBulkAll ds ≤ 1048576)
def OpenSpec.upto (s : _root_.Go.ChangeSpec) : _root_.Go.OpenSpec := { _root_.Go.OpenSpec.ofChange s with cond := some uptoSmall }

/-- 'laws.FnExactConstants', WHERE WHAT IT READS IS OF BULK AT MOST 1048576: true; the input reads as it did. -/
def fnExactConstantsUptoRow : OpenClaim := { program := "ytndeapaibhnkpaa", sum := "75bd1ddc591aa6a9f1bb12f612489e1be0fb62d5a779890c93208480f6272ef1", func := "loop.example/g00927/laws.FnExactConstants", spec := "fnExactConstants", apart := false, narrowed := true }
def FnExactConstantsUptoSaid : Prop := fnExactConstantsUptoRow.holds Try.pinned (OpenSpec.upto fnExactConstantsSpec)

/-- 'laws.FnExactCodeName', WHERE WHAT IT READS IS OF BULK AT MOST 1048576: true; the input reads as it did. -/
def fnExactCodeNameUptoRow : OpenClaim := { program := "ytndeapaibhnkpaa", sum := "75bd1ddc591aa6a9f1bb12f612489e1be0fb62d5a779890c93208480f6272ef1", func := "loop.example/g00927/laws.FnExactCodeName", spec := "fnExactCodeName", apart := false, narrowed := true }
def FnExactCodeNameUptoSaid : Prop := fnExactCodeNameUptoRow.holds Try.pinned (OpenSpec.upto fnExactCodeNameSpec)

/-- 'laws.FnExactFaultName', WHERE WHAT IT READS IS OF BULK AT MOST 1048576: true; the input reads as it did. -/
def fnExactFaultNameUptoRow : OpenClaim := { program := "ytndeapaibhnkpaa", sum := "75bd1ddc591aa6a9f1bb12f612489e1be0fb62d5a779890c93208480f6272ef1", func := "loop.example/g00927/laws.FnExactFaultName", spec := "fnExactFaultName", apart := false, narrowed := true }
def FnExactFaultNameUptoSaid : Prop := fnExactFaultNameUptoRow.holds Try.pinned (OpenSpec.upto fnExactFaultNameSpec)

/-- 'laws.FnExactNoteName', WHERE WHAT IT READS IS OF BULK AT MOST 1048576: true; the input reads as it did. -/
def fnExactNoteNameUptoRow : OpenClaim := { program := "ytndeapaibhnkpaa", sum := "75bd1ddc591aa6a9f1bb12f612489e1be0fb62d5a779890c93208480f6272ef1", func := "loop.example/g00927/laws.FnExactNoteName", spec := "fnExactNoteName", apart := false, narrowed := true }
def FnExactNoteNameUptoSaid : Prop := fnExactNoteNameUptoRow.holds Try.pinned (OpenSpec.upto fnExactNoteNameSpec)

/-- 'laws.FnExactIsName', WHERE WHAT IT READS IS OF BULK AT MOST 1048576: true; the input reads as it did. -/
def fnExactIsNameUptoRow : OpenClaim := { program := "ytndeapaibhnkpaa", sum := "75bd1ddc591aa6a9f1bb12f612489e1be0fb62d5a779890c93208480f6272ef1", func := "loop.example/g00927/laws.FnExactIsName", spec := "fnExactIsName", apart := false, narrowed := true }
def FnExactIsNameUptoSaid : Prop := fnExactIsNameUptoRow.holds Try.pinned (OpenSpec.upto fnExactIsNameSpec)

/-- 'laws.FnExactKindOfText', WHERE WHAT IT READS IS OF BULK AT MOST 1048576: true; the input reads as it did. -/
def fnExactKindOfTextUptoRow : OpenClaim := { program := "ytndeapaibhnkpaa", sum := "75bd1ddc591aa6a9f1bb12f612489e1be0fb62d5a779890c93208480f6272ef1", func := "loop.example/g00927/laws.FnExactKindOfText", spec := "fnExactKindOfText", apart := false, narrowed := true }
def FnExactKindOfTextUptoSaid : Prop := fnExactKindOfTextUptoRow.holds Try.pinned (OpenSpec.upto fnExactKindOfTextSpec)

/-- 'laws.FnExactComparePatterns', WHERE WHAT IT READS IS OF BULK AT MOST 1048576: true; the input reads as it did. -/
def fnExactComparePatternsUptoRow : OpenClaim := { program := "ytndeapaibhnkpaa", sum := "75bd1ddc591aa6a9f1bb12f612489e1be0fb62d5a779890c93208480f6272ef1", func := "loop.example/g00927/laws.FnExactComparePatterns", spec := "fnExactComparePatterns", apart := false, narrowed := true }
def FnExactComparePatternsUptoSaid : Prop := fnExactComparePatternsUptoRow.holds Try.pinned (OpenSpec.upto fnExactComparePatternsSpec)

end Rows
end Go.Proofs.Ytndeapaibhnkpaa
