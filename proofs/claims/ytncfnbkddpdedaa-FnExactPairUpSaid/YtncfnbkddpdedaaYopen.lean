/-
  An argument of type []SyncBeat, opened; the laws' own helpers on such slices. No condition.
-/
import Derived.Test.YtncfnbkddpdedaaThrows
namespace Go.Proofs.Ytncfnbkddpdedaa
open Go.ChangeShapes Go.WideShapes Go.ChangeAt Go.RowKit
end Go.Proofs.Ytncfnbkddpdedaa
