/-
  Contracts of the functions on siteswaps (chapter 2), of the program and of the reference. No condition beyond each contract's own.
-/
import Derived.Test.YtfeihkpaigadkaaInts
namespace Go.Proofs.Ytfeihkpaigadkaa
open Go.ChangeShapes Go.WideShapes Go.ChangeAt Go.RowKit


def btw (n lo hi : Int) : Bool := decide (lo ≤ n) && decide (n ≤ hi)
theorem btw_true {n lo hi : Int} (h1 : lo ≤ n) (h2 : n ≤ hi) : btw n lo hi = true := by simp [btw, h1, h2]
theorem btw_iff {n lo hi : Int} : btw n lo hi = true ↔ lo ≤ n ∧ n ≤ hi := by simp [btw]
theorem btw_false_iff {n lo hi : Int} : btw n lo hi = false ↔ ¬ (lo ≤ n ∧ n ≤ hi) := by rw [← btw_iff]; simp

theorem between_any (n lo hi : Int) (w : World) : Calls Try.prog 33 #[.int .i64 n, .int .i64 lo, .int .i64 hi] w fun e w' => e = .returned (.bool (btw n lo hi)) ∧ w = w' := by
  cases h1 : decide (lo ≤ n) <;> cases h2 : decide (n ≤ hi)
  all_goals
    go_enter Try.func33, Try.ntmps33
    go_wp2
    go_ret
    exact ⟨ret_bool (by simp only [btw, h1, h2]; rfl), rfl⟩

theorem l00In_any (n lo hi : Int) (w : World) : Calls Try.prog 29 #[.int .i64 n, .int .i64 lo, .int .i64 hi] w fun e w' => e = .returned (.bool (btw n lo hi)) ∧ w = w' := by
  cases h1 : decide (lo ≤ n) <;> cases h2 : decide (n ≤ hi)
  all_goals
    go_enter Try.func29, Try.ntmps29
    go_wp2
    go_ret
    exact ⟨ret_bool (by simp only [btw, h1, h2]; rfl), rfl⟩

/-- A list of throws: one to twelve numbers from 0 to 15. -/
def okT (p : List Int) : Bool := decide (1 ≤ p.length ∧ p.length ≤ 12 ∧ ∀ j, j < p.length → 0 ≤ gi p j ∧ gi p j ≤ 15)
theorem okT_bad {p : List Int} {k : Nat} (hk : k < p.length) (h : btw (gi p k) 0 15 = false) : okT p = false := by
  simp only [okT, decide_eq_false_iff_not]
  intro hh
  exact btw_false_iff.1 h (hh.2.2 k hk)
theorem okT_end {p : List Int} (h : ∀ j, j < p.length → btw (gi p j) 0 15 = true) : okT p = btw (p.length : Int) 1 12 := by
  rw [Bool.eq_iff_iff, btw_iff]
  simp only [okT, decide_eq_true_eq]
  constructor
  · intro hh; omega
  · intro hh; exact ⟨by omega, by omega, fun j hj => btw_iff.1 (h j hj)⟩
theorem okT_true {p : List Int} (h : okT p = true) : 1 ≤ p.length ∧ p.length ≤ 12 ∧ ∀ j, j < p.length → 0 ≤ gi p j ∧ gi p j ≤ 15 := by simpa [okT] using h

/-- The beat, by the period, at which throw j lands. -/
def landI (p : List Int) (j : Nat) : Int := ((j : Int) + gi p j) % (p.length : Int)
def landL (p : List Int) (k : Nat) : List Int := (List.range k).map (landI p)
theorem landL_succ (p : List Int) (k : Nat) : landL p (k + 1) = landL p k ++ [landI p k] := by simp [landL, List.range_succ]
theorem landL_length (p : List Int) (k : Nat) : (landL p k).length = k := by simp [landL]
theorem landL_gi (p : List Int) {k n : Nat} (h : k < n) : gi (landL p n) k = landI p k := by
  rw [gi_eq (by rw [landL_length]; exact h)]
  simp [landL]

def clashAt (p : List Int) (k : Nat) : Option Nat := findI (fun i => decide (landI p i = landI p k)) k
def clash (p : List Int) : Option (Nat × Nat) := (findI (fun k => (clashAt p k).isSome) p.length).bind fun k => (clashAt p k).map fun i => (i, k)
theorem clashAt_none {p : List Int} {k : Nat} (h : ∀ i, i < k → landI p i ≠ landI p k) : clashAt p k = none := findI_none (fun j hj => by simp [h j hj])
theorem clash_some {p : List Int} {i k : Nat} (hk : k < p.length) (hi : i < k) (h : landI p i = landI p k) (h1 : ∀ j, j < i → landI p j ≠ landI p k) (h2 : ∀ j, j < k → clashAt p j = none) : clash p = some (i, k) := by
  have e1 : clashAt p k = some i := findI_some (by simp [h]) (fun j hj => by simp [h1 j hj]) hi
  have e2 : findI (fun k => (clashAt p k).isSome) p.length = some k := findI_some (by simp [e1]) (fun j hj => by simp [h2 j hj]) hk
  simp [clash, e2, e1]
theorem clash_none {p : List Int} (h : ∀ j, j < p.length → clashAt p j = none) : clash p = none := by
  have e : findI (fun k => (clashAt p k).isSome) p.length = none := findI_none (fun j hj => by simp [h j hj])
  simp [clash, e]
/-- The indices of the first clash; -1 twice if there is none. -/
def clA (p : List Int) : Int := match clash p with | some (i, _) => (i : Int) | none => -1
def clB (p : List Int) : Int := match clash p with | some (_, k) => (k : Int) | none => -1
theorem clA_none {p : List Int} (h : clash p = none) : clA p = -1 := by rw [clA, h]
theorem clB_none {p : List Int} (h : clash p = none) : clB p = -1 := by rw [clB, h]
theorem clA_some {p : List Int} {i k : Nat} (h : clash p = some (i, k)) : clA p = i := by rw [clA, h]
theorem clB_some {p : List Int} {i k : Nat} (h : clash p = some (i, k)) : clB p = k := by rw [clB, h]
def validB (p : List Int) : Bool := okT p && (clash p).isNone
theorem validB_true {p : List Int} (h : validB p = true) : 1 ≤ p.length ∧ p.length ≤ 12 ∧ ∀ j, j < p.length → 0 ≤ gi p j ∧ gi p j ≤ 15 := by
  simp only [validB, Bool.and_eq_true] at h
  exact okT_true h.1
theorem okT_of_valid {p : List Int} (h : validB p = true) : okT p = true := by
  simp only [validB, Bool.and_eq_true] at h
  exact h.1
theorem clA_neg (p : List Int) : decide (clA p < 0) = (clash p).isNone := by
  unfold clA
  cases clash p with
  | none => rfl
  | some x => obtain ⟨i, k⟩ := x; simp

/-- What CollisionOf answers. -/
def coA (p : List Int) : Int := if okT p then clA p else 0
def coB (p : List Int) : Int := if okT p then clB p else 0
def coC (p : List Int) : Int := if okT p then (if (clash p).isNone then 0 else 9) else 1
theorem valid_co (p : List Int) : (coC p == 0) = validB p := by
  unfold coC validB
  cases okT p with
  | false => rfl
  | true => cases (clash p).isNone <;> rfl
end Go.Proofs.Ytfeihkpaigadkaa
