/-
  Contracts of the functions on siteswaps (chapter 2), third part: sums, highest throw, throws at a beat. No condition beyond each contract's own.
-/
import Derived.Test.YtloebbeaccjgjaaL02b
namespace Go.Proofs.Ytloebbeaccjgjaa
open Go.ChangeShapes Go.WideShapes Go.ChangeAt Go.RowKit


def sumTo (p : List Int) : Nat → Int
  | 0 => 0
  | k + 1 => sumTo p k + gi p k
theorem sumTo_bd {p : List Int} (h : ∀ j, j < p.length → 0 ≤ gi p j ∧ gi p j ≤ 15) : ∀ k, k ≤ p.length → 0 ≤ sumTo p k ∧ sumTo p k ≤ 15 * k
  | 0, _ => by simp [sumTo]
  | k + 1, hk => by
    have h1 := sumTo_bd h k (by omega)
    have h2 := h k (by omega)
    simp only [sumTo]
    omega
/-- The number of props: the mean throw. -/
def prV (p : List Int) : Int := sumTo p p.length / (p.length : Int)
def maxTo (p : List Int) : Nat → Int
  | 0 => 0
  | k + 1 => if maxTo p k < gi p k then gi p k else maxTo p k

def prA (p : List Int) : Int := if validB p then prV p else 0
def prC (p : List Int) : Int := if validB p then 0 else 1
def hiA (p : List Int) : Int := if validB p then maxTo p p.length else 0

/-- LandingBeats: the landings of a pattern; none of what is no pattern. -/
def laL (p : List Int) : List Int := if validB p then landL p p.length else []
end Go.Proofs.Ytloebbeaccjgjaa
