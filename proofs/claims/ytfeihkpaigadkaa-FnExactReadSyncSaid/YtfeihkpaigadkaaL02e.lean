/-
  Contracts of the functions on siteswaps (chapter 2), fifth part: texts. No condition beyond each contract's own.
-/
import Derived.Test.YtfeihkpaigadkaaL02b
import Derived.Test.YtfeihkpaigadkaaBytes
namespace Go.Proofs.Ytfeihkpaigadkaa
open Go.ChangeShapes Go.WideShapes Go.ChangeAt Go.RowKit

open Go.PlainAid

/-- The byte of a throw. -/
def hexN (t : Int) : Int := if t < 10 then 48 + t else 87 + t
def txtL (p : List Int) (k : Nat) : List Int := (List.range k).map fun (j : Nat) => hexN (gi p j)
theorem txtL_succ (p : List Int) (k : Nat) : txtL p (k + 1) = txtL p k ++ [hexN (gi p k)] := by simp [txtL, List.range_succ]
theorem txtL_length (p : List Int) (k : Nat) : (txtL p k).length = k := by simp [txtL]
def hexS : ByteArray := { data := #[48, 49, 50, 51, 52, 53, 54, 55, 56, 57, 97, 98, 99, 100, 101, 102] }
theorem sixteen {t : Int} (h0 : 0 ≤ t) (h1 : t ≤ 15) : t = 0 ∨ t = 1 ∨ t = 2 ∨ t = 3 ∨ t = 4 ∨ t = 5 ∨ t = 6 ∨ t = 7 ∨ t = 8 ∨ t = 9 ∨ t = 10 ∨ t = 11 ∨ t = 12 ∨ t = 13 ∨ t = 14 ∨ t = 15 := by omega
theorem hex_index {t : Int} (h0 : 0 ≤ t) (h1 : t ≤ 15) (w : World) : (Instr.index 9 (.string { data := #[48, 49, 50, 51, 52, 53, 54, 55, 56, 57, 97, 98, 99, 100, 101, 102] }) (.int .i64 t)).run Try.prog w = .ok (.int .u8 (hexN t)) w := by
  rcases sixteen h0 h1 with rfl | rfl | rfl | rfl | rfl | rfl | rfl | rfl | rfl | rfl | rfl | rfl | rfl | rfl | rfl | rfl <;> kernel_rfl
theorem hex_slice {t : Int} (h0 : 0 ≤ t) (h1 : t ≤ 15) (w : World) : (Instr.slice 9 (.string { data := #[48, 49, 50, 51, 52, 53, 54, 55, 56, 57, 97, 98, 99, 100, 101, 102] }) (some (.int .i64 t)) (some (.int .i64 (t + 1))) none).run Try.prog w = .ok (.string (strOfNums [hexN t])) w := by
  rcases sixteen h0 h1 with rfl | rfl | rfl | rfl | rfl | rfl | rfl | rfl | rfl | rfl | rfl | rfl | rfl | rfl | rfl | rfl <;> kernel_rfl

/-- The text of a pattern. -/
def ptS (p : List Int) : ByteArray := if validB p then strOfNums (txtL p p.length) else strOfNums []

/-- The throw of a byte; -1 if there is none. -/
def hexV (c : Int) : Int := if 48 ≤ c ∧ c ≤ 57 then c - 48 else if 97 ≤ c ∧ c ≤ 102 then c - 87 else -1
theorem hexV_at {c : Int} {k : Nat} (hk : k < 16) (h : hexN k = c) : hexV c = k := by
  unfold hexN at h
  unfold hexV
  split at h
  · rw [if_pos (by omega)]; omega
  · rw [if_neg (by omega), if_pos (by omega)]; omega
theorem hexV_no {c : Int} (h : ∀ k : Nat, k < 16 → hexN k ≠ c) : hexV c = -1 := by
  unfold hexV
  by_cases h1 : 48 ≤ c ∧ c ≤ 57
  · exfalso
    refine h (c - 48).toNat (by omega) ?_
    unfold hexN
    rw [if_pos (by omega)]; omega
  · rw [if_neg h1]
    by_cases h2 : 97 ≤ c ∧ c ≤ 102
    · exfalso
      refine h (c - 87).toNat (by omega) ?_
      unfold hexN
      rw [if_neg (by omega)]; omega
    · rw [if_neg h2]

set_option maxHeartbeats 1000000 in
theorem hexOf_any (c : Int) (w : World) : Calls Try.prog 31 #[.int .u8 c] w fun e w' => e = .returned (.int .i64 (hexV c)) ∧ w = w' := by
  go_enter Try.func31, Try.ntmps31
  go_wp2
  go_loop [4] (fun i => ∃ k : Nat, k ≤ 16 ∧ i = .int .i64 k ∧ ∀ j : Nat, j < k → hexN j ≠ c) (fun i => 16 - (intOf i).toNat)
  case atStart => exact ⟨0, Nat.zero_le _, rfl, fun j hj => absurd hj (Nat.not_lt_zero j)⟩
  case round =>
    obtain ⟨k, hk, rfl, heq⟩ := hrel
    have Heq := Lib.hid heq
    clear heq
    by_cases hlt : k < 16
    · have hix := hex_index (t := (k : Int)) (by omega) (by omega)
      go_wp2
      · go_ret
        have he : (hexN (k : Int) == c) = true := by assumption
        exact ⟨ret_int (hexV_at hlt (by simpa using he)).symm, rfl⟩
      · go_round
        case rel =>
          have he : (hexN (k : Int) == c) = false := by assumption
          refine ⟨k + 1, by omega, by go_num, fun j hj => ?_⟩
          by_cases hjk : j = k
          · rw [hjk]; simpa using he
          · exact Heq.out j (by omega)
        case measure => simp [intOf]; omega
    · go_wp2
      go_ret
      exact ⟨ret_int (hexV_no (fun j hj => Heq.out j (by omega))).symm, rfl⟩
end Go.Proofs.Ytfeihkpaigadkaa
