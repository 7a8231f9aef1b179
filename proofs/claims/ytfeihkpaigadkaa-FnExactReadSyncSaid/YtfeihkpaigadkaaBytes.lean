/-
  Slices of bytes of the call's own, and the strings made of them. No condition.
-/
import Derived.Test.YtfeihkpaigadkaaInts
namespace Go.Proofs.Ytfeihkpaigadkaa
open Go.ChangeShapes Go.WideShapes Go.ChangeAt Go.RowKit
end Go.Proofs.Ytfeihkpaigadkaa
