/-
  Contracts of the functions on synchronous patterns (chapter 5), first part: throws, lists of beats, landings. No condition beyond each contract's own.
-/
import Derived.Test.YtdagakjeefhimaaYplain
import Derived.Test.YtdagakjeefhimaaYhelp2
namespace Go.Proofs.Ytdagakjeefhimaa
open Go.ChangeShapes Go.WideShapes Go.ChangeAt Go.RowKit
end Go.Proofs.Ytdagakjeefhimaa
