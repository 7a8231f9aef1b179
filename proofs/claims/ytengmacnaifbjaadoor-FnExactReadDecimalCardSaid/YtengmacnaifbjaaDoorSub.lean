/-
  Parts of a string, as plain Lean. No condition.
-/
import Derived.Test.YtengmacnaifbjaaDoorRows
import Derived.ProofKit
import Derived.WalkKit
import Derived.WalkSpells
import Derived.WalkLawsBesides
import Derived.WalkSmall
import Derived.Deep.QuietTactic
import Derived.BigQuiet
import Derived.Lib.Hide
import Derived.PlainAid
namespace Go.Proofs.YtengmacnaifbjaaDoor
open Go.ChangeShapes Go.WideShapes Go.ChangeAt Go.RowKit

open Go.PlainAid

/-- The bytes of a text from i on and below k. -/
def sub (s : ByteArray) (i k : Nat) : ByteArray := s.extract i k
/-- The size of a value that is a string. -/
def lenOf (v : Value) : Nat := match v with | .string b => b.size | _ => 0
theorem sub_size {s : ByteArray} {i k : Nat} (h : k ≤ s.size) : (sub s i k).size = k - i := by
  simp [sub, ByteArray.size_extract]; omega
theorem sub_bt {s : ByteArray} {i k j : Nat} (h : k ≤ s.size) (hj : j < k - i) : bt (sub s i k) j = bt s (i + j) := by
  have h1 : j < (sub s i k).size := by rw [sub_size h]; exact hj
  have h2 : i + j < s.size := by omega
  unfold bt
  rw [dif_pos h1, dif_pos h2]
  simp only [sub]
  rw [ByteArray.getElem_extract]
theorem sub_sub {s : ByteArray} {i k a b : Nat} (hb : b ≤ k - i) (h : i ≤ k) : sub (sub s i k) a b = sub s (i + a) (i + b) := by
  unfold sub
  rw [ByteArray.extract_extract, Nat.min_eq_left (by omega)]
theorem sub_all (s : ByteArray) : sub s 0 s.size = s := by
  unfold sub
  exact ByteArray.extract_zero_size
end Go.Proofs.YtengmacnaifbjaaDoor
