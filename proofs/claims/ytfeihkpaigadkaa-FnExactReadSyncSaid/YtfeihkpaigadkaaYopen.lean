/-
  An argument of type []SyncBeat, opened; the laws' own helpers on such slices. No condition.
-/
import Derived.Test.YtfeihkpaigadkaaThrows
namespace Go.Proofs.Ytfeihkpaigadkaa
open Go.ChangeShapes Go.WideShapes Go.ChangeAt Go.RowKit
end Go.Proofs.Ytfeihkpaigadkaa
