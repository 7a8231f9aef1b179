/-
  Plain laws of synchronous patterns: clashes, validity, sums, mirrors. No program in sight.
-/
import Derived.Test.YtfeihkpaigadkaaL02e
import Derived.Test.YtfeihkpaigadkaaThrows
namespace Go.Proofs.Ytfeihkpaigadkaa
open Go.ChangeShapes Go.WideShapes Go.ChangeAt Go.RowKit


/-- The first number below k at which f answers as at k. -/
def cfAt (f : Nat → Int) (k : Nat) : Option Nat := findI (fun i => decide (f i = f k)) k
/-- The first clash of f below n. -/
def cf (f : Nat → Int) (n : Nat) : Option (Nat × Nat) := (findI (fun k => (cfAt f k).isSome) n).bind fun k => (cfAt f k).map fun i => (i, k)
theorem cfAt_none {f : Nat → Int} {k : Nat} (h : ∀ i, i < k → f i ≠ f k) : cfAt f k = none := findI_none (fun j hj => by simp [h j hj])
theorem cf_some {f : Nat → Int} {n i k : Nat} (hk : k < n) (hi : i < k) (h : f i = f k) (h1 : ∀ j, j < i → f j ≠ f k) (h2 : ∀ j, j < k → cfAt f j = none) : cf f n = some (i, k) := by
  have e1 : cfAt f k = some i := findI_some (by simp [h]) (fun j hj => by simp [h1 j hj]) hi
  have e2 : findI (fun k => (cfAt f k).isSome) n = some k := findI_some (by simp [e1]) (fun j hj => by simp [h2 j hj]) hk
  simp [cf, e2, e1]
theorem cf_none {f : Nat → Int} {n : Nat} (h : ∀ j, j < n → cfAt f j = none) : cf f n = none := by
  have e : findI (fun k => (cfAt f k).isSome) n = none := findI_none (fun j hj => by simp [h j hj])
  simp [cf, e]
def cfA (f : Nat → Int) (n : Nat) : Int := match cf f n with | some (i, _) => (i : Int) | none => -1
def cfB (f : Nat → Int) (n : Nat) : Int := match cf f n with | some (_, k) => (k : Int) | none => -1
theorem cfA_none {f : Nat → Int} {n : Nat} (h : cf f n = none) : cfA f n = -1 := by rw [cfA, h]
theorem cfB_none {f : Nat → Int} {n : Nat} (h : cf f n = none) : cfB f n = -1 := by rw [cfB, h]
theorem cfA_some {f : Nat → Int} {n i k : Nat} (h : cf f n = some (i, k)) : cfA f n = i := by rw [cfA, h]
theorem cfB_some {f : Nat → Int} {n i k : Nat} (h : cf f n = some (i, k)) : cfB f n = k := by rw [cfB, h]
theorem cfA_neg (f : Nat → Int) (n : Nat) : decide (cfA f n < 0) = (cf f n).isNone := by
  unfold cfA
  cases cf f n with
  | none => rfl
  | some x => obtain ⟨i, k⟩ := x; simp

/-- A throw of a synchronous pattern. -/
def thS (t : Th) : Bool := btw t.1 0 14 && (t.1 % 2 == 0) && (decide (0 < t.1) || !t.2)
theorem thS_true {t : Th} (h : thS t = true) : 0 ≤ t.1 ∧ t.1 ≤ 14 := by
  simp only [thS, Bool.and_eq_true] at h
  exact btw_iff.1 h.1.1
/-- A list of beats. -/
def okY (T : List Th) (n : Nat) : Bool := decide (1 ≤ n ∧ n ≤ 6 ∧ ∀ k, k < n * 2 → thS (gt T k) = true)
theorem okY_true {T : List Th} {n : Nat} (h : okY T n = true) : 1 ≤ n ∧ n ≤ 6 ∧ ∀ k, k < n * 2 → thS (gt T k) = true := by simpa [okY] using h
theorem okY_bad {T : List Th} {n k : Nat} (hk : k < n * 2) (h : thS (gt T k) = false) : okY T n = false := by
  simp only [okY, decide_eq_false_iff_not]
  intro hh
  rw [hh.2.2 k hk] at h
  cases h
theorem okY_end {T : List Th} {n : Nat} (h : ∀ k, k < n * 2 → thS (gt T k) = true) : okY T n = btw (n : Int) 1 6 := by
  rw [Bool.eq_iff_iff, btw_iff]
  simp only [okY, decide_eq_true_eq]
  constructor
  · intro hh; omega
  · intro hh; exact ⟨by omega, by omega, h⟩
/-- Where throw k lands. -/
def landY (T : List Th) (n : Nat) (k : Nat) : Int := ((k : Int) / 2 + (gt T k).1 / 2) % (n : Int) * 2 + (if (gt T k).2 then 1 - (k : Int) % 2 else (k : Int) % 2)
def validY (T : List Th) (n : Nat) : Bool := okY T n && (cf (landY T n) (n * 2)).isNone
theorem validY_ok {T : List Th} {n : Nat} (h : validY T n = true) : okY T n = true := by
  simp only [validY, Bool.and_eq_true] at h
  exact h.1
theorem validY_true {T : List Th} {n : Nat} (h : validY T n = true) : 1 ≤ n ∧ n ≤ 6 ∧ ∀ k, k < n * 2 → 0 ≤ (gt T k).1 ∧ (gt T k).1 ≤ 14 := by
  obtain ⟨h1, h2, h3⟩ := okY_true (validY_ok h)
  exact ⟨h1, h2, fun k hk => thS_true (h3 k hk)⟩
/-- SyncClash. -/
def scA (T : List Th) (n : Nat) : Int := if okY T n then cfA (landY T n) (n * 2) else 0
def scB (T : List Th) (n : Nat) : Int := if okY T n then cfB (landY T n) (n * 2) else 0
def scC (T : List Th) (n : Nat) : Int := if okY T n then (if (cf (landY T n) (n * 2)).isNone then 0 else 9) else 1
theorem valid_sc (T : List Th) (n : Nat) : (scC T n == 0) = validY T n := by
  unfold scC validY
  cases okY T n with
  | false => rfl
  | true => cases (cf (landY T n) (n * 2)).isNone <;> rfl
/-- The code of a function that wants a valid pattern. -/
def vyC (T : List Th) (n : Nat) : Int := if validY T n then 0 else 1

/-- The sum of the first k throws. -/
def sumT (T : List Th) : Nat → Int
  | 0 => 0
  | k + 1 => sumT T k + (gt T k).1
theorem sumT_bd {T : List Th} {n B : Nat} (h : ∀ j, j < n → 0 ≤ (gt T j).1 ∧ (gt T j).1 ≤ B) : ∀ k, k ≤ n → 0 ≤ sumT T k ∧ sumT T k ≤ (B * k : Nat)
  | 0, _ => by simp [sumT]
  | k + 1, hk => by
    have h1 := sumT_bd h k (by omega)
    have h2 := h k (by omega)
    have e : B * (k + 1) = B * k + B := Nat.mul_succ _ _
    simp only [sumT]
    omega
/-- How many of the first k throws bear the mark. -/
def cntX (T : List Th) : Nat → Nat
  | 0 => 0
  | k + 1 => if (gt T k).2 then cntX T k + 1 else cntX T k
theorem cntX_le (T : List Th) : ∀ k, cntX T k ≤ k
  | 0 => Nat.le_refl _
  | k + 1 => by
    have := cntX_le T k
    simp only [cntX]
    split <;> omega
/-- The first k beats with both hands exchanged. -/
def mirT (T : List Th) (k : Nat) : List Th := (List.range (k * 2)).map fun (j : Nat) => gt T (if j % 2 = 0 then j + 1 else j - 1)
theorem mirT_length (T : List Th) (k : Nat) : (mirT T k).length = k * 2 := by simp [mirT]
theorem mirT_succ (T : List Th) (k : Nat) : mirT T (k + 1) = mirT T k ++ [gt T (k * 2 + 1), gt T (k * 2)] := by
  unfold mirT
  rw [show (k + 1) * 2 = k * 2 + 1 + 1 by omega, List.range_succ, List.range_succ, List.map_append, List.map_append]
  simp only [List.map_cons, List.map_nil, List.append_assoc, List.singleton_append]
  rw [show (if k * 2 % 2 = 0 then k * 2 + 1 else k * 2 - 1) = k * 2 + 1 by rw [if_pos (by omega)], show (if (k * 2 + 1) % 2 = 0 then k * 2 + 1 + 1 else k * 2 + 1 - 1) = k * 2 by rw [if_neg (by omega)]; omega]
/-- The first k throws of the pattern in which the right hand throws a beat later. -/
def sldV (T : List Th) (k : Nat) : Int := if (gt T k).2 then (if k % 2 = 0 then (gt T k).1 + 1 else (gt T k).1 - 1) else (gt T k).1
def sldL (T : List Th) (k : Nat) : List Int := (List.range k).map (sldV T)
theorem sldL_succ (T : List Th) (k : Nat) : sldL T (k + 1) = sldL T k ++ [sldV T k] := by simp [sldL, List.range_succ]
theorem sldL_length (T : List Th) (k : Nat) : (sldL T k).length = k := by simp [sldL]
/-- MirrorSync, StarSync, SlideSync, SyncProps, CrossCount. -/
def mirN (T : List Th) (n : Nat) : Nat := if validY T n then n else 0
def mirL (T : List Th) (n : Nat) : List Th := if validY T n then mirT T n else []
def stB (T : List Th) (n : Nat) : Bool := okY T n && decide (n * 2 ≤ 6) && validY (T ++ mirT T n) (n + n)
def stN (T : List Th) (n : Nat) : Nat := if stB T n then n + n else 0
def stL (T : List Th) (n : Nat) : List Th := if stB T n then T ++ mirT T n else []
def stC (T : List Th) (n : Nat) : Int := if okY T n then (if n * 2 ≤ 6 then (if validY (T ++ mirT T n) (n + n) then 0 else 9) else 5) else 1
def slL (T : List Th) (n : Nat) : List Int := if validY T n then sldL T (n * 2) else []
def syA (T : List Th) (n : Nat) : Int := if validY T n then sumT T (n * 2) / (2 * (n : Int)) else 0
def ccA (T : List Th) (n : Nat) : Int := if validY T n then (cntX T (n * 2) : Int) else 0
/-- The text of a throw, and of the first k beats. -/
def onS (t : Th) : List Int := hexN t.1 :: (if t.2 then [120] else [])
def syT (T : List Th) : Nat → List Int
  | 0 => []
  | k + 1 => syT T k ++ ([40] ++ onS (gt T (k * 2)) ++ [44] ++ onS (gt T (k * 2 + 1)) ++ [41])
def syS (T : List Th) (n : Nat) : ByteArray := if validY T n then strOfNums (syT T n) else strOfNums []
end Go.Proofs.Ytfeihkpaigadkaa
