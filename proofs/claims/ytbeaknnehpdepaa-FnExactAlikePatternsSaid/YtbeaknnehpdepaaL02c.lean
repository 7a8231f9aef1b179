/-
  Contracts of the functions on siteswaps (chapter 2), third part: sums, highest throw, throws at a beat. No condition beyond each contract's own.
-/
import Derived.Test.YtbeaknnehpdepaaL02b
namespace Go.Proofs.Ytbeaknnehpdepaa
open Go.ChangeShapes Go.WideShapes Go.ChangeAt Go.RowKit


def sumTo (p : List Int) : Nat → Int
  | 0 => 0
  | k + 1 => sumTo p k + gi p k
theorem sumTo_bd {p : List Int} (h : ∀ j, j < p.length → 0 ≤ gi p j ∧ gi p j ≤ 15) : ∀ k, k ≤ p.length → 0 ≤ sumTo p k ∧ sumTo p k ≤ 15 * k
  | 0, _ => by simp [sumTo]
  | k + 1, hk => by
    have h1 := sumTo_bd h k (by omega)
    have h2 := h k (by omega)
    simp only [sumTo]
    omega
/-- The number of props: the mean throw. -/
def prV (p : List Int) : Int := sumTo p p.length / (p.length : Int)
def maxTo (p : List Int) : Nat → Int
  | 0 => 0
  | k + 1 => if maxTo p k < gi p k then gi p k else maxTo p k

def prA (p : List Int) : Int := if validB p then prV p else 0
def prC (p : List Int) : Int := if validB p then 0 else 1
def hiA (p : List Int) : Int := if validB p then maxTo p p.length else 0

set_option maxHeartbeats 1000000 in
theorem highest_any (v : Value) (p : List Int) (w : World) (hp : Rd w v p) :
    Calls Try.prog 55 #[v] w fun e w' => e = .returned (.int .i64 (maxTo p p.length)) ∧ w = w' := by
  obtain ⟨la, a, ca, rfl, ha⟩ := hp
  go_enter Try.func55, Try.ntmps55
  go_wp2
  go_loop [3, 8] (fun s i => ∃ k : Nat, k ≤ p.length ∧ i = .int .i64 k ∧ s = .int .i64 (maxTo p k)) (fun _ i => p.length - (intOf i).toNat)
  case atStart => exact ⟨0, Nat.zero_le _, rfl, rfl⟩
  case round =>
    obtain ⟨k, hk, rfl, rfl⟩ := hrel
    by_cases hlt : k < p.length
    · obtain ⟨ba, oa, rfl, hba, hca⟩ := ha (by omega)
      have hc := hca k hlt
      clear hca ha
      by_cases hm : maxTo p k < gi p k
      all_goals
        have Hm := Lib.hid hm
        go_wp2
        go_round
        case rel => exact ⟨k + 1, by omega, by go_num, by simp only [maxTo, Hm.out]; rfl⟩
        case measure => simp [intOf]; omega
    · go_wp2
      go_ret
      obtain rfl : k = p.length := by omega
      exact ⟨rfl, rfl⟩

theorem l00Max_any (x y : Int) (w : World) : Calls Try.prog 86 #[.int .i64 x, .int .i64 y] w fun e w' => e = .returned (.int .i64 (if x < y then y else x)) ∧ w = w' := by
  by_cases h : y < x
  · rw [if_neg (show ¬ x < y by omega)]
    go_enter Try.func86, Try.ntmps86
    go_wp2
    go_ret
    exact ⟨rfl, rfl⟩
  · have e : (if x < y then y else x) = y := by split <;> omega
    rw [e]
    go_enter Try.func86, Try.ntmps86
    go_wp2
    go_ret
    exact ⟨rfl, rfl⟩

set_option maxHeartbeats 1000000 in
theorem l02High_any (v : Value) (p : List Int) (w : World) (hp : Rd w v p) :
    Calls Try.prog 53 #[v] w fun e w' => e = .returned (.int .i64 (maxTo p p.length)) ∧ w = w' := by
  obtain ⟨la, a, ca, rfl, ha⟩ := hp
  go_enter Try.func53, Try.ntmps53
  go_wp2
  go_loop [3, 4] (fun s i => ∃ k : Nat, k ≤ p.length ∧ i = .int .i64 k ∧ s = .int .i64 (maxTo p k)) (fun _ i => p.length - (intOf i).toNat)
  case atStart => exact ⟨0, Nat.zero_le _, rfl, rfl⟩
  case round =>
    obtain ⟨k, hk, rfl, rfl⟩ := hrel
    by_cases hlt : k < p.length
    · obtain ⟨ba, oa, rfl, hba, hca⟩ := ha (by omega)
      have hc := hca k hlt
      clear hca ha
      have hm := Lib.hid (l00Max_any (maxTo p k) (gi p k) w)
      obtain ⟨m, hme⟩ : ∃ m, m = maxTo p (k + 1) := ⟨_, rfl⟩
      have Hme := Lib.hid hme
      rw [show (if maxTo p k < gi p k then gi p k else maxTo p k) = m from hme.symm] at hm
      clear hme
      go_wp2_with (go_at_call 86; refine hm.out.mono ?_; rintro e w' ⟨rfl, rfl⟩)
      go_round
      case rel => exact ⟨k + 1, by omega, by go_num, by rw [Hme.out]⟩
      case measure => simp [intOf]; omega
    · go_wp2
      go_ret
      obtain rfl : k = p.length := by omega
      exact ⟨rfl, rfl⟩

/-- LandingBeats: the landings of a pattern; none of what is no pattern. -/
def laL (p : List Int) : List Int := if validB p then landL p p.length else []
end Go.Proofs.Ytbeaknnehpdepaa
