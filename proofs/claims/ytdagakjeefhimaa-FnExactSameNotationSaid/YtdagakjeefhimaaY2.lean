/-
  Contracts of the functions on synchronous patterns (chapter 5), second part: equality, clashes, validity. No condition beyond each contract's own.
-/
import Derived.Test.YtdagakjeefhimaaY1
namespace Go.Proofs.Ytdagakjeefhimaa
open Go.ChangeShapes Go.WideShapes Go.ChangeAt Go.RowKit
end Go.Proofs.Ytdagakjeefhimaa
