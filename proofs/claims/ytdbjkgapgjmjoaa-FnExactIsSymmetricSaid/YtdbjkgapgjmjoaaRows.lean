/-
  No cell of these rows narrows 'for every input' (looked for: loops, veiled, ifaces, maps, wideKeys, modest, calm, conditions, laid).
  DERIVED. THE GIVEN ROWS OF THIS SEAT. 11 by the template 'for every input the law returns true; each argument reads behind the call as it read before'; 0 by the template 'total and deterministic' (their statements: YtdbjkgapgjmjoaaTotals.lean).
  GIVEN WITH THE SEED: the statements are not yours to turn. If you find one false, say at which input.
  Laid BY PROGRAM, IN A SANDBOX (cutbox-rows.mjs): the forced cells as the released guide's own fill.sh prints them over the translation c169200eb573a26d… (all of the seat's roots in one cut). By AI agents, Wed Nov 11 2026. No macro, syntax, notation, axiom, sorry.
-/
import Derived.Test.YtdbjkgapgjmjoaaChecked
import GoSem.Claim
import GoSem.ClaimJoined
import GoSem.ClaimMapViews
import Derived.JoinedTies
import Derived.KernelRfl
namespace Go.Proofs.Ytdbjkgapgjmjoaa
/- THE CELL 'sum', in the pinned program and in every row, IS THE sha256 OF THE DUMP (.gsa) THAT YtdbjkgapgjmjoaaProg.lean LOADS. Nothing in Lean hashes anything: it is a label: what it is worth is what the hold of that sum in a sandbox is worth. -/
noncomputable def Try.pinned : Pinned := { name := "ytdbjkgapgjmjoaa", sum := "c169200eb573a26d28a78ea4bfb1d0bf0b95c566a524d1d42cae8ad1a2e6207d", checked := Try.checked }
namespace Rows
def none {H : Type} : Left H := { results := [], args := [] }

/-- 'laws.FnExactSameSync': WHATEVER THE INPUT: true; the input reads as it did. -/
def fnExactSameSyncSpec : ChangeSpec := { name := "fnExactSameSync", fn := fun _ => fun
  | [d1, d2] => { results := [.lit (.bool true)], args := [d1, d2] }
  | _ => none }
def fnExactSameSyncRow : OpenClaim := { program := "ytdbjkgapgjmjoaa", sum := "c169200eb573a26d28a78ea4bfb1d0bf0b95c566a524d1d42cae8ad1a2e6207d", func := "loop.example/g00927/laws.FnExactSameSync", spec := "fnExactSameSync", apart := false }
def FnExactSameSyncSaid : Prop := fnExactSameSyncRow.holds Try.pinned (OpenSpec.ofChange fnExactSameSyncSpec)

/-- ITS FALSE NEIGHBOUR: 'it returns false'. Refute it at one input. -/
def fnExactSameSyncWrong : ChangeSpec := { name := "fnExactSameSync", fn := fun _ => fun
  | [d1, d2] => { results := [.lit (.bool false)], args := [d1, d2] }
  | _ => none }
def FnExactSameSyncWrongFalsely : Prop := fnExactSameSyncRow.holds Try.pinned (OpenSpec.ofChange fnExactSameSyncWrong)

/-- 'laws.FnExactSyncClash': WHATEVER THE INPUT: true; the input reads as it did. -/
def fnExactSyncClashSpec : ChangeSpec := { name := "fnExactSyncClash", fn := fun _ => fun
  | [d] => { results := [.lit (.bool true)], args := [d] }
  | _ => none }
def fnExactSyncClashRow : OpenClaim := { program := "ytdbjkgapgjmjoaa", sum := "c169200eb573a26d28a78ea4bfb1d0bf0b95c566a524d1d42cae8ad1a2e6207d", func := "loop.example/g00927/laws.FnExactSyncClash", spec := "fnExactSyncClash", apart := false }
def FnExactSyncClashSaid : Prop := fnExactSyncClashRow.holds Try.pinned (OpenSpec.ofChange fnExactSyncClashSpec)

/-- ITS FALSE NEIGHBOUR: 'it returns false'. Refute it at one input. -/
def fnExactSyncClashWrong : ChangeSpec := { name := "fnExactSyncClash", fn := fun _ => fun
  | [d] => { results := [.lit (.bool false)], args := [d] }
  | _ => none }
def FnExactSyncClashWrongFalsely : Prop := fnExactSyncClashRow.holds Try.pinned (OpenSpec.ofChange fnExactSyncClashWrong)

/-- 'laws.FnExactValidSync': WHATEVER THE INPUT: true; the input reads as it did. -/
def fnExactValidSyncSpec : ChangeSpec := { name := "fnExactValidSync", fn := fun _ => fun
  | [d] => { results := [.lit (.bool true)], args := [d] }
  | _ => none }
def fnExactValidSyncRow : OpenClaim := { program := "ytdbjkgapgjmjoaa", sum := "c169200eb573a26d28a78ea4bfb1d0bf0b95c566a524d1d42cae8ad1a2e6207d", func := "loop.example/g00927/laws.FnExactValidSync", spec := "fnExactValidSync", apart := false }
def FnExactValidSyncSaid : Prop := fnExactValidSyncRow.holds Try.pinned (OpenSpec.ofChange fnExactValidSyncSpec)

/-- ITS FALSE NEIGHBOUR: 'it returns false'. Refute it at one input. -/
def fnExactValidSyncWrong : ChangeSpec := { name := "fnExactValidSync", fn := fun _ => fun
  | [d] => { results := [.lit (.bool false)], args := [d] }
  | _ => none }
def FnExactValidSyncWrongFalsely : Prop := fnExactValidSyncRow.holds Try.pinned (OpenSpec.ofChange fnExactValidSyncWrong)

/-- 'laws.FnExactSyncProps': WHATEVER THE INPUT: true; the input reads as it did. -/
def fnExactSyncPropsSpec : ChangeSpec := { name := "fnExactSyncProps", fn := fun _ => fun
  | [d] => { results := [.lit (.bool true)], args := [d] }
  | _ => none }
def fnExactSyncPropsRow : OpenClaim := { program := "ytdbjkgapgjmjoaa", sum := "c169200eb573a26d28a78ea4bfb1d0bf0b95c566a524d1d42cae8ad1a2e6207d", func := "loop.example/g00927/laws.FnExactSyncProps", spec := "fnExactSyncProps", apart := false }
def FnExactSyncPropsSaid : Prop := fnExactSyncPropsRow.holds Try.pinned (OpenSpec.ofChange fnExactSyncPropsSpec)

/-- ITS FALSE NEIGHBOUR: 'it returns false'. Refute it at one input. -/
def fnExactSyncPropsWrong : ChangeSpec := { name := "fnExactSyncProps", fn := fun _ => fun
  | [d] => { results := [.lit (.bool false)], args := [d] }
  | _ => none }
def FnExactSyncPropsWrongFalsely : Prop := fnExactSyncPropsRow.holds Try.pinned (OpenSpec.ofChange fnExactSyncPropsWrong)

/-- 'laws.FnExactCrossCount': WHATEVER THE INPUT: true; the input reads as it did. -/
def fnExactCrossCountSpec : ChangeSpec := { name := "fnExactCrossCount", fn := fun _ => fun
  | [d] => { results := [.lit (.bool true)], args := [d] }
  | _ => none }
def fnExactCrossCountRow : OpenClaim := { program := "ytdbjkgapgjmjoaa", sum := "c169200eb573a26d28a78ea4bfb1d0bf0b95c566a524d1d42cae8ad1a2e6207d", func := "loop.example/g00927/laws.FnExactCrossCount", spec := "fnExactCrossCount", apart := false }
def FnExactCrossCountSaid : Prop := fnExactCrossCountRow.holds Try.pinned (OpenSpec.ofChange fnExactCrossCountSpec)

/-- ITS FALSE NEIGHBOUR: 'it returns false'. Refute it at one input. -/
def fnExactCrossCountWrong : ChangeSpec := { name := "fnExactCrossCount", fn := fun _ => fun
  | [d] => { results := [.lit (.bool false)], args := [d] }
  | _ => none }
def FnExactCrossCountWrongFalsely : Prop := fnExactCrossCountRow.holds Try.pinned (OpenSpec.ofChange fnExactCrossCountWrong)

/-- 'laws.FnExactSyncText': WHATEVER THE INPUT: true; the input reads as it did. -/
def fnExactSyncTextSpec : ChangeSpec := { name := "fnExactSyncText", fn := fun _ => fun
  | [d] => { results := [.lit (.bool true)], args := [d] }
  | _ => none }
def fnExactSyncTextRow : OpenClaim := { program := "ytdbjkgapgjmjoaa", sum := "c169200eb573a26d28a78ea4bfb1d0bf0b95c566a524d1d42cae8ad1a2e6207d", func := "loop.example/g00927/laws.FnExactSyncText", spec := "fnExactSyncText", apart := false }
def FnExactSyncTextSaid : Prop := fnExactSyncTextRow.holds Try.pinned (OpenSpec.ofChange fnExactSyncTextSpec)

/-- ITS FALSE NEIGHBOUR: 'it returns false'. Refute it at one input. -/
def fnExactSyncTextWrong : ChangeSpec := { name := "fnExactSyncText", fn := fun _ => fun
  | [d] => { results := [.lit (.bool false)], args := [d] }
  | _ => none }
def FnExactSyncTextWrongFalsely : Prop := fnExactSyncTextRow.holds Try.pinned (OpenSpec.ofChange fnExactSyncTextWrong)

/-- 'laws.FnExactMirrorSync': WHATEVER THE INPUT: true; the input reads as it did. -/
def fnExactMirrorSyncSpec : ChangeSpec := { name := "fnExactMirrorSync", fn := fun _ => fun
  | [d] => { results := [.lit (.bool true)], args := [d] }
  | _ => none }
def fnExactMirrorSyncRow : OpenClaim := { program := "ytdbjkgapgjmjoaa", sum := "c169200eb573a26d28a78ea4bfb1d0bf0b95c566a524d1d42cae8ad1a2e6207d", func := "loop.example/g00927/laws.FnExactMirrorSync", spec := "fnExactMirrorSync", apart := false }
def FnExactMirrorSyncSaid : Prop := fnExactMirrorSyncRow.holds Try.pinned (OpenSpec.ofChange fnExactMirrorSyncSpec)

/-- ITS FALSE NEIGHBOUR: 'it returns false'. Refute it at one input. -/
def fnExactMirrorSyncWrong : ChangeSpec := { name := "fnExactMirrorSync", fn := fun _ => fun
  | [d] => { results := [.lit (.bool false)], args := [d] }
  | _ => none }
def FnExactMirrorSyncWrongFalsely : Prop := fnExactMirrorSyncRow.holds Try.pinned (OpenSpec.ofChange fnExactMirrorSyncWrong)

/-- 'laws.FnExactStarSync': WHATEVER THE INPUT: true; the input reads as it did. -/
def fnExactStarSyncSpec : ChangeSpec := { name := "fnExactStarSync", fn := fun _ => fun
  | [d] => { results := [.lit (.bool true)], args := [d] }
  | _ => none }
def fnExactStarSyncRow : OpenClaim := { program := "ytdbjkgapgjmjoaa", sum := "c169200eb573a26d28a78ea4bfb1d0bf0b95c566a524d1d42cae8ad1a2e6207d", func := "loop.example/g00927/laws.FnExactStarSync", spec := "fnExactStarSync", apart := false }
def FnExactStarSyncSaid : Prop := fnExactStarSyncRow.holds Try.pinned (OpenSpec.ofChange fnExactStarSyncSpec)

/-- ITS FALSE NEIGHBOUR: 'it returns false'. Refute it at one input. -/
def fnExactStarSyncWrong : ChangeSpec := { name := "fnExactStarSync", fn := fun _ => fun
  | [d] => { results := [.lit (.bool false)], args := [d] }
  | _ => none }
def FnExactStarSyncWrongFalsely : Prop := fnExactStarSyncRow.holds Try.pinned (OpenSpec.ofChange fnExactStarSyncWrong)

/-- 'laws.FnExactSlideSync': WHATEVER THE INPUT: true; the input reads as it did. -/
def fnExactSlideSyncSpec : ChangeSpec := { name := "fnExactSlideSync", fn := fun _ => fun
  | [d] => { results := [.lit (.bool true)], args := [d] }
  | _ => none }
def fnExactSlideSyncRow : OpenClaim := { program := "ytdbjkgapgjmjoaa", sum := "c169200eb573a26d28a78ea4bfb1d0bf0b95c566a524d1d42cae8ad1a2e6207d", func := "loop.example/g00927/laws.FnExactSlideSync", spec := "fnExactSlideSync", apart := false }
def FnExactSlideSyncSaid : Prop := fnExactSlideSyncRow.holds Try.pinned (OpenSpec.ofChange fnExactSlideSyncSpec)

/-- ITS FALSE NEIGHBOUR: 'it returns false'. Refute it at one input. -/
def fnExactSlideSyncWrong : ChangeSpec := { name := "fnExactSlideSync", fn := fun _ => fun
  | [d] => { results := [.lit (.bool false)], args := [d] }
  | _ => none }
def FnExactSlideSyncWrongFalsely : Prop := fnExactSlideSyncRow.holds Try.pinned (OpenSpec.ofChange fnExactSlideSyncWrong)

/-- 'laws.FnExactIsSymmetric': WHATEVER THE INPUT: true; the input reads as it did. -/
def fnExactIsSymmetricSpec : ChangeSpec := { name := "fnExactIsSymmetric", fn := fun _ => fun
  | [d] => { results := [.lit (.bool true)], args := [d] }
  | _ => none }
def fnExactIsSymmetricRow : OpenClaim := { program := "ytdbjkgapgjmjoaa", sum := "c169200eb573a26d28a78ea4bfb1d0bf0b95c566a524d1d42cae8ad1a2e6207d", func := "loop.example/g00927/laws.FnExactIsSymmetric", spec := "fnExactIsSymmetric", apart := false }
def FnExactIsSymmetricSaid : Prop := fnExactIsSymmetricRow.holds Try.pinned (OpenSpec.ofChange fnExactIsSymmetricSpec)

/-- ITS FALSE NEIGHBOUR: 'it returns false'. Refute it at one input. -/
def fnExactIsSymmetricWrong : ChangeSpec := { name := "fnExactIsSymmetric", fn := fun _ => fun
  | [d] => { results := [.lit (.bool false)], args := [d] }
  | _ => none }
def FnExactIsSymmetricWrongFalsely : Prop := fnExactIsSymmetricRow.holds Try.pinned (OpenSpec.ofChange fnExactIsSymmetricWrong)

/-- 'laws.FnExactReadSync': WHATEVER THE INPUT: true; the input reads as it did. -/
def fnExactReadSyncSpec : ChangeSpec := { name := "fnExactReadSync", fn := fun _ => fun
  | [d] => { results := [.lit (.bool true)], args := [d] }
  | _ => none }
def fnExactReadSyncRow : OpenClaim := { program := "ytdbjkgapgjmjoaa", sum := "c169200eb573a26d28a78ea4bfb1d0bf0b95c566a524d1d42cae8ad1a2e6207d", func := "loop.example/g00927/laws.FnExactReadSync", spec := "fnExactReadSync", apart := false }
def FnExactReadSyncSaid : Prop := fnExactReadSyncRow.holds Try.pinned (OpenSpec.ofChange fnExactReadSyncSpec)

/-- ITS FALSE NEIGHBOUR: 'it returns false'. Refute it at one input. -/
def fnExactReadSyncWrong : ChangeSpec := { name := "fnExactReadSync", fn := fun _ => fun
  | [d] => { results := [.lit (.bool false)], args := [d] }
  | _ => none }
def FnExactReadSyncWrongFalsely : Prop := fnExactReadSyncRow.holds Try.pinned (OpenSpec.ofChange fnExactReadSyncWrong)

/- THE SECOND FORM. 'bulk': how many values and letters a reading holds, each counted each time it is reached (what is shared counts as often as it is met; a slice's spare places count too). A statement '..UptoSaid' is the law's where the arguments, and the package variables that the reading takes, are together of bulk at most 1048576: NARROWER than '..Said'. Prove '..Said' where nothing that the law and all that it calls make is longer than what came in: it says more and counts as full. Else prove '..UptoSaid'. A law counts once. -/
mutual
def uptoBulk {H : Type} : DataW H → Nat
  | .lit (.string bytes) => bytes.length + 1
  | .lit _ => 1
  | .nil => 1
  | .ptr d => uptoBulk d + 1
  | .slice elems spare => uptoBulkAll elems + uptoBulkAll spare + 1
  | .agg parts => uptoBulkAll parts + 1
  | .iface _ d => uptoBulk d + 1
  | .map entries => uptoBulkEntries entries + 1
  | .held _ => 1
def uptoBulkAll {H : Type} : List (DataW H) → Nat
  | [] => 0
  | d :: r => uptoBulk d + uptoBulkAll r
def uptoBulkEntries {H : Type} : List (Lit × DataW H) → Nat
  | [] => 0
  | x :: r => uptoBulkEntry x + uptoBulkEntries r
def uptoBulkEntry {H : Type} : Lit × DataW H → Nat
  | (.string bytes, d) => bytes.length + uptoBulk d + 1
  | (_, d) => uptoBulk d + 1
 end
def uptoSmall : (H : Type) → List (DataW H) → Bool := fun _ ds => decide (uptoBulkAll ds ≤ 1048576)
def OpenSpec.upto (s : _root_.Go.ChangeSpec) : _root_.Go.OpenSpec := { _root_.Go.OpenSpec.ofChange s with cond := some uptoSmall }

/-- 'laws.FnExactSameSync', WHERE WHAT IT READS IS OF BULK AT MOST 1048576: true; the input reads as it did. -/
def fnExactSameSyncUptoRow : OpenClaim := { program := "ytdbjkgapgjmjoaa", sum := "c169200eb573a26d28a78ea4bfb1d0bf0b95c566a524d1d42cae8ad1a2e6207d", func := "loop.example/g00927/laws.FnExactSameSync", spec := "fnExactSameSync", apart := false, narrowed := true }
def FnExactSameSyncUptoSaid : Prop := fnExactSameSyncUptoRow.holds Try.pinned (OpenSpec.upto fnExactSameSyncSpec)

/-- 'laws.FnExactSyncClash', WHERE WHAT IT READS IS OF BULK AT MOST 1048576: true; the input reads as it did. -/
def fnExactSyncClashUptoRow : OpenClaim := { program := "ytdbjkgapgjmjoaa", sum := "c169200eb573a26d28a78ea4bfb1d0bf0b95c566a524d1d42cae8ad1a2e6207d", func := "loop.example/g00927/laws.FnExactSyncClash", spec := "fnExactSyncClash", apart := false, narrowed := true }
def FnExactSyncClashUptoSaid : Prop := fnExactSyncClashUptoRow.holds Try.pinned (OpenSpec.upto fnExactSyncClashSpec)

/-- 'laws.FnExactValidSync', WHERE WHAT IT READS IS OF BULK AT MOST 1048576: true; the input reads as it did. -/
def fnExactValidSyncUptoRow : OpenClaim := { program := "ytdbjkgapgjmjoaa", sum := "c169200eb573a26d28a78ea4bfb1d0bf0b95c566a524d1d42cae8ad1a2e6207d", func := "loop.example/g00927/laws.FnExactValidSync", spec := "fnExactValidSync", apart := false, narrowed := true }
def FnExactValidSyncUptoSaid : Prop := fnExactValidSyncUptoRow.holds Try.pinned (OpenSpec.upto fnExactValidSyncSpec)

/-- 'laws.FnExactSyncProps', WHERE WHAT IT READS IS OF BULK AT MOST 1048576: true; the input reads as it did. -/
def fnExactSyncPropsUptoRow : OpenClaim := { program := "ytdbjkgapgjmjoaa", sum := "c169200eb573a26d28a78ea4bfb1d0bf0b95c566a524d1d42cae8ad1a2e6207d", func := "loop.example/g00927/laws.FnExactSyncProps", spec := "fnExactSyncProps", apart := false, narrowed := true }
def FnExactSyncPropsUptoSaid : Prop := fnExactSyncPropsUptoRow.holds Try.pinned (OpenSpec.upto fnExactSyncPropsSpec)

/-- 'laws.FnExactCrossCount', WHERE WHAT IT READS IS OF BULK AT MOST 1048576: true; the input reads as it did. -/
def fnExactCrossCountUptoRow : OpenClaim := { program := "ytdbjkgapgjmjoaa", sum := "c169200eb573a26d28a78ea4bfb1d0bf0b95c566a524d1d42cae8ad1a2e6207d", func := "loop.example/g00927/laws.FnExactCrossCount", spec := "fnExactCrossCount", apart := false, narrowed := true }
def FnExactCrossCountUptoSaid : Prop := fnExactCrossCountUptoRow.holds Try.pinned (OpenSpec.upto fnExactCrossCountSpec)

/-- 'laws.FnExactSyncText', WHERE WHAT IT READS IS OF BULK AT MOST 1048576: true; the input reads as it did. -/
def fnExactSyncTextUptoRow : OpenClaim := { program := "ytdbjkgapgjmjoaa", sum := "c169200eb573a26d28a78ea4bfb1d0bf0b95c566a524d1d42cae8ad1a2e6207d", func := "loop.example/g00927/laws.FnExactSyncText", spec := "fnExactSyncText", apart := false, narrowed := true }
def FnExactSyncTextUptoSaid : Prop := fnExactSyncTextUptoRow.holds Try.pinned (OpenSpec.upto fnExactSyncTextSpec)

/-- 'laws.FnExactMirrorSync', WHERE WHAT IT READS IS OF BULK AT MOST 1048576: true; the input reads as it did. -/
def fnExactMirrorSyncUptoRow : OpenClaim := { program := "ytdbjkgapgjmjoaa", sum := "c169200eb573a26d28a78ea4bfb1d0bf0b95c566a524d1d42cae8ad1a2e6207d", func := "loop.example/g00927/laws.FnExactMirrorSync", spec := "fnExactMirrorSync", apart := false, narrowed := true }
def FnExactMirrorSyncUptoSaid : Prop := fnExactMirrorSyncUptoRow.holds Try.pinned (OpenSpec.upto fnExactMirrorSyncSpec)

/-- 'laws.FnExactStarSync', WHERE WHAT IT READS IS OF BULK AT MOST 1048576: true; the input reads as it did. -/
def fnExactStarSyncUptoRow : OpenClaim := { program := "ytdbjkgapgjmjoaa", sum := "c169200eb573a26d28a78ea4bfb1d0bf0b95c566a524d1d42cae8ad1a2e6207d", func := "loop.example/g00927/laws.FnExactStarSync", spec := "fnExactStarSync", apart := false, narrowed := true }
def FnExactStarSyncUptoSaid : Prop := fnExactStarSyncUptoRow.holds Try.pinned (OpenSpec.upto fnExactStarSyncSpec)

/-- 'laws.FnExactSlideSync', WHERE WHAT IT READS IS OF BULK AT MOST 1048576: true; the input reads as it did. -/
def fnExactSlideSyncUptoRow : OpenClaim := { program := "ytdbjkgapgjmjoaa", sum := "c169200eb573a26d28a78ea4bfb1d0bf0b95c566a524d1d42cae8ad1a2e6207d", func := "loop.example/g00927/laws.FnExactSlideSync", spec := "fnExactSlideSync", apart := false, narrowed := true }
def FnExactSlideSyncUptoSaid : Prop := fnExactSlideSyncUptoRow.holds Try.pinned (OpenSpec.upto fnExactSlideSyncSpec)

/-- 'laws.FnExactIsSymmetric', WHERE WHAT IT READS IS OF BULK AT MOST 1048576: true; the input reads as it did. -/
def fnExactIsSymmetricUptoRow : OpenClaim := { program := "ytdbjkgapgjmjoaa", sum := "c169200eb573a26d28a78ea4bfb1d0bf0b95c566a524d1d42cae8ad1a2e6207d", func := "loop.example/g00927/laws.FnExactIsSymmetric", spec := "fnExactIsSymmetric", apart := false, narrowed := true }
def FnExactIsSymmetricUptoSaid : Prop := fnExactIsSymmetricUptoRow.holds Try.pinned (OpenSpec.upto fnExactIsSymmetricSpec)

/-- 'laws.FnExactReadSync', WHERE WHAT IT READS IS OF BULK AT MOST 1048576: true; the input reads as it did. -/
def fnExactReadSyncUptoRow : OpenClaim := { program := "ytdbjkgapgjmjoaa", sum := "c169200eb573a26d28a78ea4bfb1d0bf0b95c566a524d1d42cae8ad1a2e6207d", func := "loop.example/g00927/laws.FnExactReadSync", spec := "fnExactReadSync", apart := false, narrowed := true }
def FnExactReadSyncUptoSaid : Prop := fnExactReadSyncUptoRow.holds Try.pinned (OpenSpec.upto fnExactReadSyncSpec)

end Rows
end Go.Proofs.Ytdbjkgapgjmjoaa
