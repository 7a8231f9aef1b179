/-
  ReadDecimal: plain law, and the contracts on digits. No condition beyond each contract's own.
-/
import Derived.Test.YtengmacnaifbjaaDoorD3
import Derived.Test.YtengmacnaifbjaaDoorSub
namespace Go.Proofs.YtengmacnaifbjaaDoor
open Go.ChangeShapes Go.WideShapes Go.ChangeAt Go.RowKit

open Go.PlainAid

def dgB (c : Int) : Bool := decide (48 ≤ c) && decide (c ≤ 57)
theorem dgB_true {c : Int} (h : dgB c = true) : 48 ≤ c ∧ c ≤ 57 := by simpa [dgB] using h
theorem l01Digit_any (c : Int) (w : World) : Calls Tryd.prog 14 #[.int .u8 c] w fun e w' => e = .returned (.bool (dgB c)) ∧ w = w' := by
  cases h1 : decide (48 ≤ c) <;> cases h2 : decide (c ≤ 57)
  all_goals
    go_enter Tryd.func14, Tryd.ntmps14
    go_wp2
    go_ret
    exact ⟨ret_bool (by simp only [dgB, h1, h2]; rfl), rfl⟩
theorem isDigit_any (c : Int) (w : World) : Calls Tryd.prog 12 #[.int .u8 c] w fun e w' => e = .returned (.bool (dgB c)) ∧ w = w' := by
  cases h1 : decide (48 ≤ c) <;> cases h2 : decide (c ≤ 57)
  all_goals
    go_enter Tryd.func12, Tryd.ntmps12
    go_wp2
    go_ret
    exact ⟨ret_bool (by simp only [dgB, h1, h2]; rfl), rfl⟩

/-- The number of the first k digits of a text. -/
def nuV (t : ByteArray) : Nat → Int
  | 0 => 0
  | k + 1 => 10 * nuV t k + (bt t k - 48)
def nuB (t : ByteArray) : Bool := decide (∀ k, k < t.size → dgB (bt t k) = true)
theorem nuB_bad {t : ByteArray} {k : Nat} (hk : k < t.size) (h : dgB (bt t k) = false) : nuB t = false := by
  simp only [nuB, decide_eq_false_iff_not]
  intro hh
  rw [hh k hk] at h
  cases h
theorem nuB_yes {t : ByteArray} (h : ∀ k, k < t.size → dgB (bt t k) = true) : nuB t = true := decide_eq_true h
theorem nuV_bd {t : ByteArray} : ∀ k, (∀ j, j < k → dgB (bt t j) = true) → 0 ≤ nuV t k ∧ nuV t k + 1 ≤ ((10 ^ k : Nat) : Int)
  | 0, _ => by simp [nuV]
  | k + 1, h => by
    obtain ⟨h1, h2⟩ := nuV_bd k (fun j hj => h j (by omega))
    have h3 := dgB_true (h k (by omega))
    rw [nuV, Nat.pow_succ]
    omega
theorem nuV_17 {t : ByteArray} {k : Nat} (hk : k ≤ 17) (h : ∀ j, j < k → dgB (bt t j) = true) : 0 ≤ nuV t k ∧ nuV t k ≤ 99999999999999999 := by
  obtain ⟨h1, h2⟩ := nuV_bd k h
  have h3 : (10 : Nat) ^ k ≤ 10 ^ 17 := Nat.pow_le_pow_right (by decide) hk
  have h4 : (10 : Nat) ^ 17 = 100000000000000000 := by decide
  omega
theorem nuV_18 {t : ByteArray} {k : Nat} (hk : k ≤ 18) (h : ∀ j, j < k → dgB (bt t j) = true) : 0 ≤ nuV t k ∧ nuV t k ≤ 999999999999999999 := by
  obtain ⟨h1, h2⟩ := nuV_bd k h
  have h3 : (10 : Nat) ^ k ≤ 10 ^ 18 := Nat.pow_le_pow_right (by decide) hk
  have h4 : (10 : Nat) ^ 18 = 1000000000000000000 := by decide
  omega
def rdG (s : ByteArray) : Bool := decide (1 ≤ s.size ∧ bt s 0 = 45)
def rdT (s : ByteArray) : ByteArray := if rdG s = true then sub s 1 s.size else s
def rdV (s : ByteArray) : Int := if rdG s = true then -(nuV (rdT s) (rdT s).size) else nuV (rdT s) (rdT s).size
def decS (n : Int) : ByteArray := ⟨(Lib.itoa n).toArray⟩
def rdB (s : ByteArray) : Bool := decide (1 ≤ (rdT s).size ∧ (rdT s).size ≤ 18) && nuB (rdT s) && decide (decS (rdV s) = s)
def rdN (s : ByteArray) : Int := if rdB s = true then rdV s else 0
theorem rd_len {s t : ByteArray} (ht : rdT s = t) (h : ¬ (1 ≤ t.size ∧ t.size ≤ 18)) : rdB s = false ∧ rdN s = 0 := by
  have : rdB s = false := by rw [rdB, ht, decide_eq_false h]; rfl
  exact ⟨this, by rw [rdN, this]; rfl⟩
theorem rd_bad {s t : ByteArray} (ht : rdT s = t) (h : nuB t = false) : rdB s = false ∧ rdN s = 0 := by
  have : rdB s = false := by rw [rdB, ht, h]; simp
  exact ⟨this, by rw [rdN, this]; rfl⟩
theorem rd_fin {s t : ByteArray} {v : Int} (ht : rdT s = t) (hv : rdV s = v) (h1 : 1 ≤ t.size ∧ t.size ≤ 18) (h2 : nuB t = true) : (decS v = s → rdB s = true ∧ rdN s = v) ∧ (¬ decS v = s → rdB s = false ∧ rdN s = 0) := by
  have : rdB s = decide (decS v = s) := by rw [rdB, ht, hv, decide_eq_true h1, h2]; rfl
  refine ⟨fun h => ?_, fun h => ?_⟩
  · rw [decide_eq_true h] at this
    exact ⟨this, by rw [rdN, this, hv]; rfl⟩
  · rw [decide_eq_false h] at this
    exact ⟨this, by rw [rdN, this]; rfl⟩
theorem str_ne2 {A s : ByteArray} (h : ¬ A = s) : (A.toList == s.toList) = false := by
  have : ¬ A.toList = s.toList := fun e => h (by
    rw [ByteArray.toList_eq, ByteArray.toList_eq] at e
    exact ByteArray.ext (Array.toList_inj.1 e))
  simp [this]
end Go.Proofs.YtengmacnaifbjaaDoor
