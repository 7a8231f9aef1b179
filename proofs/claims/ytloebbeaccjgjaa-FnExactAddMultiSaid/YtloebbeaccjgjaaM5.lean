/-
  Contracts of the functions on patterns with several throws at a beat (chapter 4), fifth part: landings and props. No condition beyond each contract's own.
-/
import Derived.Test.YtloebbeaccjgjaaM4
import Derived.Test.YtloebbeaccjgjaaL02c
import Derived.Deep.RegionHeld3
namespace Go.Proofs.Ytloebbeaccjgjaa
open Go.ChangeShapes Go.WideShapes Go.ChangeAt Go.RowKit


def vmC (R : List (List Int)) : Int := if vmB R then 0 else 1
def mlL (R : List (List Int)) : List Int := if vmB R then allC R R.length R.length else []
/-- The sum of the throws of the first k beats. -/
def sumM (R : List (List Int)) : Nat → Int
  | 0 => 0
  | k + 1 => sumM R k + sumTo (gr R k) (gr R k).length
theorem sumTo_b {L : List Int} (h : ∀ j, j < L.length → 0 ≤ gi L j ∧ gi L j ≤ 15) : ∀ k, k ≤ L.length → 0 ≤ sumTo L k ∧ sumTo L k ≤ 15 * k
  | 0, _ => by simp [sumTo]
  | k + 1, hk => by
    have h1 := sumTo_b h k (by omega)
    have h2 := h k (by omega)
    simp only [sumTo]
    omega
theorem sumM_bd {R : List (List Int)} (h : ∀ j, j < R.length → stB (gr R j) = true) : ∀ k, k ≤ R.length → 0 ≤ sumM R k ∧ sumM R k ≤ 60 * k
  | 0, _ => by simp [sumM]
  | k + 1, hk => by
    have h1 := sumM_bd h k (by omega)
    obtain ⟨_, h4, hb, _⟩ := stB_true (h k (by omega))
    have h2 := sumTo_b hb (gr R k).length (Nat.le_refl _)
    simp only [sumM]
    omega
def mpA (R : List (List Int)) : Int := if vmB R then sumM R R.length / (R.length : Int) else 0
end Go.Proofs.Ytloebbeaccjgjaa
