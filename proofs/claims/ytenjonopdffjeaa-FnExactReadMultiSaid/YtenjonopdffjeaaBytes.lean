/-
  Slices of bytes of the call's own, and the strings made of them. No condition.
-/
import Derived.Test.YtenjonopdffjeaaInts
namespace Go.Proofs.Ytenjonopdffjeaa
open Go.ChangeShapes Go.WideShapes Go.ChangeAt Go.RowKit
end Go.Proofs.Ytenjonopdffjeaa
