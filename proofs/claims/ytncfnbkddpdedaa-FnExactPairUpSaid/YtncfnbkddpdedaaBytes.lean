/-
  Slices of bytes of the call's own, and the strings made of them. No condition.
-/
import Derived.Test.YtncfnbkddpdedaaInts
namespace Go.Proofs.Ytncfnbkddpdedaa
open Go.ChangeShapes Go.WideShapes Go.ChangeAt Go.RowKit
end Go.Proofs.Ytncfnbkddpdedaa
