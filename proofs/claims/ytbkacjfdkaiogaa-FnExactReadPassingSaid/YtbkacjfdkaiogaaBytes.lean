/-
  Slices of bytes of the call's own, and the strings made of them. No condition.
-/
import Derived.Test.YtbkacjfdkaiogaaInts
namespace Go.Proofs.Ytbkacjfdkaiogaa
open Go.ChangeShapes Go.WideShapes Go.ChangeAt Go.RowKit
end Go.Proofs.Ytbkacjfdkaiogaa
