/-
  What the texts of patterns with several throws at a beat read as: plain Lean. No condition.
-/
import Derived.Test.YtenjonopdffjeaaM8
import Derived.Test.YtenjonopdffjeaaL02e
import Derived.Test.YtenjonopdffjeaaSub
namespace Go.Proofs.Ytenjonopdffjeaa
open Go.ChangeShapes Go.WideShapes Go.ChangeAt Go.RowKit

open Go.PlainAid

/-- What one byte does to what has been read: the beats, and the throws of a beat that is begun; none behind a fault. -/
def pmStep (c : Int) : Option (List (List Int) × Option (List Int)) → Option (List (List Int) × Option (List Int))
  | none => none
  | some (R, none) => if c = 91 then some (R, some []) else some (R ++ [[hexV c]], none)
  | some (R, some L) => if c = 93 then (if L.length < 2 then none else some (R ++ [L], none)) else some (R, some (L ++ [hexV c]))
/-- What has been read behind k bytes. -/
def pmG (s : ByteArray) : Nat → Option (List (List Int) × Option (List Int))
  | 0 => some ([], none)
  | k + 1 => pmStep (bt s k) (pmG s k)
def pmE : Option (List (List Int) × Option (List Int)) → List (List Int)
  | some (R, none) => R
  | _ => []
/-- The beats of a text; none if it does not have the form. -/
def pmR (s : ByteArray) : List (List Int) := pmE (pmG s s.size)
def rmB (s : ByteArray) : Bool := vmB (pmR s)
def rmL (s : ByteArray) : List (List Int) := if rmB s then pmR s else []

theorem pm_open {s : ByteArray} {k : Nat} {R : List (List Int)} (h : pmG s k = some (R, none)) (hc : bt s k = 91) : pmG s (k + 1) = some (R, some []) := by
  rw [pmG, h, pmStep, if_pos hc]
theorem pm_one {s : ByteArray} {k : Nat} {R : List (List Int)} (h : pmG s k = some (R, none)) (hc : bt s k ≠ 91) : pmG s (k + 1) = some (R ++ [[hexV (bt s k)]], none) := by
  rw [pmG, h, pmStep, if_neg hc]
theorem pm_more {s : ByteArray} {k : Nat} {R : List (List Int)} {L : List Int} (h : pmG s k = some (R, some L)) (hc : bt s k ≠ 93) : pmG s (k + 1) = some (R, some (L ++ [hexV (bt s k)])) := by
  rw [pmG, h, pmStep, if_neg hc]
theorem pm_shut {s : ByteArray} {k : Nat} {R : List (List Int)} {L : List Int} (h : pmG s k = some (R, some L)) (hc : bt s k = 93) (h2 : 2 ≤ L.length) : pmG s (k + 1) = some (R ++ [L], none) := by
  rw [pmG, h, pmStep, if_pos hc, if_neg (by omega)]
theorem pm_bad {s : ByteArray} {k : Nat} {R : List (List Int)} {L : List Int} (h : pmG s k = some (R, some L)) (hc : bt s k = 93) (h2 : L.length < 2) : pmG s (k + 1) = none := by
  rw [pmG, h, pmStep, if_pos hc, if_pos h2]
theorem pm_none {s : ByteArray} {k : Nat} (h : pmG s k = none) : ∀ {m : Nat}, k ≤ m → pmG s m = none
  | 0, hm => by obtain rfl : k = 0 := by omega
                exact h
  | m + 1, hm => by
    by_cases he : k = m + 1
    · subst he; exact h
    · rw [pmG, pm_none h (show k ≤ m by omega), pmStep]

/-- A list of throws that bears a number below 0. -/
def ngL (L : List Int) : Prop := ∃ j, j < L.length ∧ gi L j < 0
/-- Beats that are no pattern, however they go on. -/
def bdR (R : List (List Int)) : Prop := 12 < R.length ∨ ∃ j, j < R.length ∧ ngL (gr R j)
def bdS : Option (List (List Int) × Option (List Int)) → Prop
  | none => True
  | some (R, none) => bdR R
  | some (R, some L) => bdR R ∨ ngL L
theorem ngL_app {L : List Int} (h : ngL L) (x : Int) : ngL (L ++ [x]) := by
  obtain ⟨j, hj, hn⟩ := h
  exact ⟨j, by simp; omega, by unfold gi at hn ⊢; simpa [List.getElem?_append_left hj] using hn⟩
theorem bdR_app {R : List (List Int)} (h : bdR R) (L : List Int) : bdR (R ++ [L]) := by
  rcases h with h | ⟨j, hj, hn⟩
  · exact .inl (by simp; omega)
  · exact .inr ⟨j, by simp; omega, by rw [gr_app_old _ _ hj]; exact hn⟩
theorem bdR_new (R : List (List Int)) {L : List Int} (h : ngL L) : bdR (R ++ [L]) := .inr ⟨R.length, by simp, by rw [gr_app_new]; exact h⟩
theorem ngL_one {x : Int} (h : x < 0) : ngL [x] := ⟨0, by simp, by simpa [gi] using h⟩
theorem ngL_new (L : List Int) {x : Int} (h : x < 0) : ngL (L ++ [x]) := ⟨L.length, by simp, by simpa [gi] using h⟩
theorem bdS_step (c : Int) : ∀ {p : Option (List (List Int) × Option (List Int))}, bdS p → bdS (pmStep c p)
  | none, _ => trivial
  | some (R, none), h => by
    simp only [pmStep]
    split
    · exact Or.inl h
    · exact bdR_app h _
  | some (R, some L), h => by
    simp only [pmStep]
    split
    · split
      · trivial
      · exact Or.elim h (fun h => bdR_app h _) (fun h => bdR_new _ h)
    · exact Or.elim h Or.inl (fun h => Or.inr (ngL_app h _))
theorem bdS_on {s : ByteArray} {k : Nat} (h : bdS (pmG s k)) : ∀ {m : Nat}, k ≤ m → bdS (pmG s m)
  | 0, hm => by obtain rfl : k = 0 := by omega
                exact h
  | m + 1, hm => by
    by_cases he : k = m + 1
    · subst he; exact h
    · rw [pmG]; exact bdS_step _ (bdS_on h (show k ≤ m by omega))
theorem vmB_nil : vmB [] = false := rfl
theorem bdR_ok {R : List (List Int)} (h : bdR R) : vmB R = false := by
  cases hv : vmB R with
  | false => rfl
  | true =>
    obtain ⟨h1, h2, h3⟩ := okM_true (vmB_ok hv)
    rcases h with h | ⟨j, hj, k, hk, hn⟩
    · omega
    · have := (stB_true (h3 j hj)).2.2.1 k hk
      omega
theorem rm_bad {s : ByteArray} {k : Nat} (hk : k ≤ s.size) (h : bdS (pmG s k)) : rmB s = false := by
  have h2 := bdS_on h hk
  unfold rmB pmR
  revert h2
  generalize pmG s s.size = p
  intro h2
  match p, h2 with
  | none, _ => exact vmB_nil
  | some (R, none), h2 => exact bdR_ok h2
  | some (R, some L), _ => exact vmB_nil
theorem pmR_open {s : ByteArray} {R : List (List Int)} {L : List Int} (h : pmG s s.size = some (R, some L)) : pmR s = [] := by rw [pmR, h]; rfl
theorem pmR_none {s : ByteArray} {k : Nat} (h : pmG s k = none) (hk : k ≤ s.size) : pmR s = [] := by rw [pmR, pm_none h hk]; rfl
theorem pmR_end {s : ByteArray} {R : List (List Int)} (h : pmG s s.size = some (R, none)) : pmR s = R := by rw [pmR, h]; rfl

def bdN (k : Nat) : Option (List (List Int) × Option (List Int)) → Prop
  | none => True
  | some (R, none) => R.length ≤ k ∧ sumLen R R.length ≤ k
  | some (R, some L) => R.length + 1 ≤ k ∧ sumLen R R.length + L.length + 1 ≤ k
theorem pm_bd (s : ByteArray) : ∀ k, bdN k (pmG s k)
  | 0 => by simp [pmG, bdN, sumLen]
  | k + 1 => by
    have h := pm_bd s k
    rw [pmG]
    revert h
    generalize pmG s k = p
    intro h
    match p, h with
    | none, _ => trivial
    | some (R, none), h =>
      simp only [pmStep]
      obtain ⟨h1, h2⟩ := h
      split
      · exact ⟨by omega, by simp; omega⟩
      · exact ⟨by simp; omega, by rw [sumLen_app]; simp; omega⟩
    | some (R, some L), h =>
      simp only [pmStep]
      obtain ⟨h1, h2⟩ := h
      split
      · split
        · trivial
        · exact ⟨by simp; omega, by rw [sumLen_app]; omega⟩
      · exact ⟨by omega, by simp; omega⟩
theorem pm_bd1 {s : ByteArray} {k : Nat} {R : List (List Int)} (h : pmG s k = some (R, none)) : R.length ≤ k ∧ sumLen R R.length ≤ k := by
  have := pm_bd s k
  rw [h] at this
  exact this
theorem pm_bd2 {s : ByteArray} {k : Nat} {R : List (List Int)} {L : List Int} (h : pmG s k = some (R, some L)) : R.length + 1 ≤ k ∧ sumLen R R.length + L.length + 1 ≤ k := by
  have := pm_bd s k
  rw [h] at this
  exact this
end Go.Proofs.Ytenjonopdffjeaa
