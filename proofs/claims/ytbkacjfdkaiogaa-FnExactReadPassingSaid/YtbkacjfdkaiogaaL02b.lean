/-
  Contracts of the functions on siteswaps (chapter 2), second part: landings. No condition beyond each contract's own.
-/
import Derived.Test.YtbkacjfdkaiogaaL02
namespace Go.Proofs.Ytbkacjfdkaiogaa
open Go.ChangeShapes Go.WideShapes Go.ChangeAt Go.RowKit
end Go.Proofs.Ytbkacjfdkaiogaa
