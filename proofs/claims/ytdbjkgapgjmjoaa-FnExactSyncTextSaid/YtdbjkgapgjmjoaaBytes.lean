/-
  Slices of bytes of the call's own, and the strings made of them. No condition.
-/
import Derived.Test.YtdbjkgapgjmjoaaInts
namespace Go.Proofs.Ytdbjkgapgjmjoaa
open Go.ChangeShapes Go.WideShapes Go.ChangeAt Go.RowKit
end Go.Proofs.Ytdbjkgapgjmjoaa
