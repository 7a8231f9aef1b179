/-
  Contracts of the operations on patterns (chapter 3): copies, repetitions, rotations. No condition beyond each contract's own.
-/
import Derived.Test.YtenjonopdffjeaaL02d
namespace Go.Proofs.Ytenjonopdffjeaa
open Go.ChangeShapes Go.WideShapes Go.ChangeAt Go.RowKit


/-- A list, t times one after the other. -/
def repL (p : List Int) : Nat → List Int
  | 0 => []
  | t + 1 => repL p t ++ p
theorem repL_length (p : List Int) : ∀ t, (repL p t).length = t * p.length
  | 0 => by simp [repL]
  | t + 1 => by rw [repL, List.length_append, repL_length p t, Nat.succ_mul]
theorem rep_room {p : List Int} {k t : Nat} (h : k < t) (hb : t * p.length ≤ 1000) : (repL p k).length + p.length ≤ 1000 := by
  rw [repL_length, ← Nat.succ_mul]
  exact Nat.le_trans (Nat.mul_le_mul_right _ h) hb

/-- RepeatPattern: the code, the list. -/
def rpC (p : List Int) (t : Int) : Int := if validB p then (if btw t 1 (12 / (p.length : Int)) then 0 else 2) else 1
def rpL (p : List Int) (t : Int) : List Int := if rpC p t = 0 then repL p t.toNat else []
theorem rp_ok {p : List Int} {t : Int} (hv : validB p = true) (h : btw t 1 (12 / (p.length : Int)) = true) : rpC p t = 0 := by simp [rpC, hv, h]
theorem rp_bd {p : List Int} {t : Int} (hn : 1 ≤ p.length) (h : btw t 1 (12 / (p.length : Int)) = true) : 1 ≤ t ∧ t ≤ 12 ∧ t.toNat * p.length ≤ 1000 := by
  obtain ⟨h1, h2⟩ := btw_iff.1 h
  have h3 : (12 : Int) / (p.length : Int) * (p.length : Int) ≤ 12 := Int.ediv_mul_le 12 (by omega)
  have h4 : t * (p.length : Int) ≤ 12 := Int.le_trans (Int.mul_le_mul_of_nonneg_right h2 (by omega)) h3
  have h5 : t * 1 ≤ t * (p.length : Int) := Int.mul_le_mul_of_nonneg_left (by omega) (by omega)
  have h6 : ((t.toNat * p.length : Nat) : Int) = t * (p.length : Int) := by rw [Int.natCast_mul, Int.toNat_of_nonneg (by omega)]
  omega
end Go.Proofs.Ytenjonopdffjeaa
