/-
  Contracts of the functions on siteswaps (chapter 2), second part: landings. No condition beyond each contract's own.
-/
import Derived.Test.YtfeihkpaigadkaaL02
namespace Go.Proofs.Ytfeihkpaigadkaa
open Go.ChangeShapes Go.WideShapes Go.ChangeAt Go.RowKit
end Go.Proofs.Ytfeihkpaigadkaa
