/-
  Contracts of the functions on synchronous patterns (chapter 5), third part: equality, crossing throws. No condition beyond each contract's own.
-/
import Derived.Test.YtfeihkpaigadkaaY2
namespace Go.Proofs.Ytfeihkpaigadkaa
open Go.ChangeShapes Go.WideShapes Go.ChangeAt Go.RowKit


theorem field_cross (w : World) (a : Int) (b : Bool) : (Instr.field 33 (.agg #[.int .i64 a, .bool b]) 1).run Try.prog w = .ok (.bool b) w := by kernel_rfl
/-- Equal lists of beats. -/
def sameT (n : Nat) (A : List Th) (m : Nat) (B : List Th) : Bool := decide (n = m ∧ A = B)
end Go.Proofs.Ytfeihkpaigadkaa
