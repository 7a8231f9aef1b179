/-
  No cell of these rows narrows 'for every input' (looked for: loops, veiled, ifaces, maps, wideKeys, modest, calm, conditions, laid).
  DERIVED. THE GIVEN ROWS OF THIS SEAT. 3 by the template 'for every input the law returns true; each argument reads behind the call as it read before'; 0 by the template 'total and deterministic' (their statements: YtloebbeaccjgjaaTotals.lean).
  GIVEN WITH THE SEED: the statements are not yours to turn. If you find one false, say at which input.
  Laid BY PROGRAM, IN A SANDBOX (cutbox-rows.mjs): the forced cells as the released guide's own fill.sh prints them over the translation d2d870a8a27fd0e4… (all of the seat's roots in one cut). By AI agents, Wed Nov 11 2026. No macro, syntax, notation, axiom, sorry.
-/
import Derived.Test.YtloebbeaccjgjaaChecked
import GoSem.Claim
import GoSem.ClaimJoined
import GoSem.ClaimMapViews
import Derived.JoinedTies
import Derived.KernelRfl
namespace Go.Proofs.Ytloebbeaccjgjaa
/- THE CELL 'sum', in the pinned program and in every row, IS THE sha256 OF THE DUMP (.gsa) THAT YtloebbeaccjgjaaProg.lean LOADS. Nothing in Lean hashes anything: it is a label: what it is worth is what the hold of that sum in a sandbox is worth. -/
noncomputable def Try.pinned : Pinned := { name := "ytloebbeaccjgjaa", sum := "d2d870a8a27fd0e44d360c75173bb4e645ab5d1231978a4d7b86a47b7054d7e3", checked := Try.checked }
namespace Rows
def none {H : Type} : Left H := { results := [], args := [] }

/-- 'laws.FnExactSortBeat': WHATEVER THE INPUT: true; the input reads as it did. -/
def fnExactSortBeatSpec : ChangeSpec := { name := "fnExactSortBeat", fn := fun _ => fun
  | [d] => { results := [.lit (.bool true)], args := [d] }
  | _ => none }
def fnExactSortBeatRow : OpenClaim := { program := "ytloebbeaccjgjaa", sum := "d2d870a8a27fd0e44d360c75173bb4e645ab5d1231978a4d7b86a47b7054d7e3", func := "loop.example/g00927/laws.FnExactSortBeat", spec := "fnExactSortBeat", inPlace := ["internal/reflectlite.ValueOf", "internal/reflectlite.Swapper", "(internal/reflectlite.Value).Len"], unfollowed := true, recurses := true, apart := false }
def FnExactSortBeatSaid : Prop := fnExactSortBeatRow.holds Try.pinned (OpenSpec.ofChange fnExactSortBeatSpec)

/-- ITS FALSE NEIGHBOUR: 'it returns false'. Refute it at one input. -/
def fnExactSortBeatWrong : ChangeSpec := { name := "fnExactSortBeat", fn := fun _ => fun
  | [d] => { results := [.lit (.bool false)], args := [d] }
  | _ => none }
def FnExactSortBeatWrongFalsely : Prop := fnExactSortBeatRow.holds Try.pinned (OpenSpec.ofChange fnExactSortBeatWrong)

/-- 'laws.FnExactAddMulti': WHATEVER THE INPUT: true; the input reads as it did. -/
def fnExactAddMultiSpec : ChangeSpec := { name := "fnExactAddMulti", fn := fun _ => fun
  | [d1, d2] => { results := [.lit (.bool true)], args := [d1, d2] }
  | _ => none }
def fnExactAddMultiRow : OpenClaim := { program := "ytloebbeaccjgjaa", sum := "d2d870a8a27fd0e44d360c75173bb4e645ab5d1231978a4d7b86a47b7054d7e3", func := "loop.example/g00927/laws.FnExactAddMulti", spec := "fnExactAddMulti", inPlace := ["internal/reflectlite.ValueOf", "internal/reflectlite.Swapper", "(internal/reflectlite.Value).Len"], unfollowed := true, recurses := true, apart := false }
def FnExactAddMultiSaid : Prop := fnExactAddMultiRow.holds Try.pinned (OpenSpec.ofChange fnExactAddMultiSpec)

/-- ITS FALSE NEIGHBOUR: 'it returns false'. Refute it at one input. -/
def fnExactAddMultiWrong : ChangeSpec := { name := "fnExactAddMulti", fn := fun _ => fun
  | [d1, d2] => { results := [.lit (.bool false)], args := [d1, d2] }
  | _ => none }
def FnExactAddMultiWrongFalsely : Prop := fnExactAddMultiRow.holds Try.pinned (OpenSpec.ofChange fnExactAddMultiWrong)

/-- 'laws.FnExactReadMulti': WHATEVER THE INPUT: true; the input reads as it did. -/
def fnExactReadMultiSpec : ChangeSpec := { name := "fnExactReadMulti", fn := fun _ => fun
  | [d] => { results := [.lit (.bool true)], args := [d] }
  | _ => none }
def fnExactReadMultiRow : OpenClaim := { program := "ytloebbeaccjgjaa", sum := "d2d870a8a27fd0e44d360c75173bb4e645ab5d1231978a4d7b86a47b7054d7e3", func := "loop.example/g00927/laws.FnExactReadMulti", spec := "fnExactReadMulti", apart := false }
def FnExactReadMultiSaid : Prop := fnExactReadMultiRow.holds Try.pinned (OpenSpec.ofChange fnExactReadMultiSpec)

/-- ITS FALSE NEIGHBOUR: 'it returns false'. Refute it at one input. -/
def fnExactReadMultiWrong : ChangeSpec := { name := "fnExactReadMulti", fn := fun _ => fun
  | [d] => { results := [.lit (.bool false)], args := [d] }
  | _ => none }
def FnExactReadMultiWrongFalsely : Prop := fnExactReadMultiRow.holds Try.pinned (OpenSpec.ofChange fnExactReadMultiWrong)

/- THE SECOND FORM. 'bulk': how many values and letters a reading holds, each counted each time it is reached (what is shared counts as often as it is met; a slice's spare places count too). A statement '..UptoSaid' is the law's where the arguments, and the package variables that the reading takes, are together of bulk at most 1048576: NARROWER than '..Said'. Prove '..Said' where nothing that the law and all that it calls make is longer than what came in: it says more and counts as full. Else prove '..UptoSaid'. A law counts once. -/
mutual
def uptoBulk {H : Type} : DataW H → Nat
  | .lit (.string bytes) => bytes.length + 1
  | .lit _ => 1
  | .nil => 1
  | .ptr d => uptoBulk d + 1
  | .slice elems spare => uptoBulkAll elems + uptoBulkAll spare + 1
  | .agg parts => uptoBulkAll parts + 1
  | .iface _ d => uptoBulk d + 1
  | .map entries => uptoBulkEntries entries + 1
  | .held _ => 1
def uptoBulkAll {H : Type} : List (DataW H) → Nat
  | [] => 0
  | d :: r => uptoBulk d + uptoBulkAll r
def uptoBulkEntries {H : Type} : List (Lit × DataW H) → Nat
  | [] => 0
  | x :: r => uptoBulkEntry x + uptoBulkEntries r
def uptoBulkEntry {H : Type} : Lit × DataW H → Nat
  | (.string bytes, d) => bytes.length + uptoBulk d + 1
  | (_, d) => uptoBulk d + 1
 end
def uptoSmall : (H : Type) → List (DataW H) → Bool := fun _ ds => decide (uptoBulkAll ds ≤ 1048576)
def OpenSpec.upto (s : _root_.Go.ChangeSpec) : _root_.Go.OpenSpec := { _root_.Go.OpenSpec.ofChange s with cond := some uptoSmall }

/-- 'laws.FnExactSortBeat', WHERE WHAT IT READS IS OF BULK AT MOST 1048576: true; the input reads as it did. -/
def fnExactSortBeatUptoRow : OpenClaim := { program := "ytloebbeaccjgjaa", sum := "d2d870a8a27fd0e44d360c75173bb4e645ab5d1231978a4d7b86a47b7054d7e3", func := "loop.example/g00927/laws.FnExactSortBeat", spec := "fnExactSortBeat", inPlace := ["internal/reflectlite.ValueOf", "internal/reflectlite.Swapper", "(internal/reflectlite.Value).Len"], unfollowed := true, recurses := true, apart := false, narrowed := true }
def FnExactSortBeatUptoSaid : Prop := fnExactSortBeatUptoRow.holds Try.pinned (OpenSpec.upto fnExactSortBeatSpec)

/-- 'laws.FnExactAddMulti', WHERE WHAT IT READS IS OF BULK AT MOST 1048576: true; the input reads as it did. -/
def fnExactAddMultiUptoRow : OpenClaim := { program := "ytloebbeaccjgjaa", sum := "d2d870a8a27fd0e44d360c75173bb4e645ab5d1231978a4d7b86a47b7054d7e3", func := "loop.example/g00927/laws.FnExactAddMulti", spec := "fnExactAddMulti", inPlace := ["internal/reflectlite.ValueOf", "internal/reflectlite.Swapper", "(internal/reflectlite.Value).Len"], unfollowed := true, recurses := true, apart := false, narrowed := true }
def FnExactAddMultiUptoSaid : Prop := fnExactAddMultiUptoRow.holds Try.pinned (OpenSpec.upto fnExactAddMultiSpec)

/-- 'laws.FnExactReadMulti', WHERE WHAT IT READS IS OF BULK AT MOST 1048576: true; the input reads as it did. -/
def fnExactReadMultiUptoRow : OpenClaim := { program := "ytloebbeaccjgjaa", sum := "d2d870a8a27fd0e44d360c75173bb4e645ab5d1231978a4d7b86a47b7054d7e3", func := "loop.example/g00927/laws.FnExactReadMulti", spec := "fnExactReadMulti", apart := false, narrowed := true }
def FnExactReadMultiUptoSaid : Prop := fnExactReadMultiUptoRow.holds Try.pinned (OpenSpec.upto fnExactReadMultiSpec)

end Rows
end Go.Proofs.Ytloebbeaccjgjaa
