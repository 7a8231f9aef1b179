/-
  The throw of a byte, by the reference. No condition beyond the contract's own.
-/
import Derived.Test.YtfeihkpaigadkaaL02e
namespace Go.Proofs.Ytfeihkpaigadkaa
open Go.ChangeShapes Go.WideShapes Go.ChangeAt Go.RowKit


set_option maxHeartbeats 1000000 in
theorem l04Value_any (c : Int) (w : World) (h0 : 0 ≤ c) (h255 : c ≤ 255) : Calls Try.prog 27 #[.int .u8 c] w fun e w' => e = .returned (.int .i64 (hexV c)) ∧ w = w' := by
  have hcase : c < 48 ∨ (48 ≤ c ∧ c ≤ 57) ∨ (58 ≤ c ∧ c ≤ 96) ∨ (97 ≤ c ∧ c ≤ 102) ∨ 103 ≤ c := by omega
  rcases hcase with h | ⟨h, h'⟩ | ⟨h, h'⟩ | ⟨h, h'⟩ | h
  · have e : hexV c = -1 := by rw [hexV, if_neg (by omega), if_neg (by omega)]
    rw [e]
    clear e
    have d1 : decide (48 ≤ c) = false := decide_eq_false (by omega)
    have d3 : decide (97 ≤ c) = false := decide_eq_false (by omega)
    go_enter Try.func27, Try.ntmps27
    go_wp2
    go_ret
    exact ⟨rfl, rfl⟩
  · have e : hexV c = c - 48 := by rw [hexV, if_pos (by omega)]
    rw [e]
    clear e
    go_enter Try.func27, Try.ntmps27
    go_wp2
    go_ret
    exact ⟨rfl, rfl⟩
  · have e : hexV c = -1 := by rw [hexV, if_neg (by omega), if_neg (by omega)]
    rw [e]
    clear e
    have d2 : decide (c ≤ 57) = false := decide_eq_false (by omega)
    have d3 : decide (97 ≤ c) = false := decide_eq_false (by omega)
    go_enter Try.func27, Try.ntmps27
    go_wp2
    go_ret
    exact ⟨rfl, rfl⟩
  · have e : hexV c = c - 97 + 10 := by rw [hexV, if_neg (by omega), if_pos (by omega)]; omega
    rw [e]
    clear e
    have d2 : decide (c ≤ 57) = false := decide_eq_false (by omega)
    go_enter Try.func27, Try.ntmps27
    go_wp2
    go_ret
    exact ⟨rfl, rfl⟩
  · have e : hexV c = -1 := by rw [hexV, if_neg (by omega), if_neg (by omega)]
    rw [e]
    clear e
    have d2 : decide (c ≤ 57) = false := decide_eq_false (by omega)
    have d4 : decide (c ≤ 102) = false := decide_eq_false (by omega)
    go_enter Try.func27, Try.ntmps27
    go_wp2
    go_ret
    exact ⟨rfl, rfl⟩
end Go.Proofs.Ytfeihkpaigadkaa
