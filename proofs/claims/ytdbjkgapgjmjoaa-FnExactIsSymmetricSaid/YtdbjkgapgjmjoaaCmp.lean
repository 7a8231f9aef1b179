/-
  Contracts of the comparisons of two lists of numbers, of the program and of the reference. No condition.
-/
import Derived.Test.YtdbjkgapgjmjoaaInts
namespace Go.Proofs.Ytdbjkgapgjmjoaa
open Go.ChangeShapes Go.WideShapes Go.ChangeAt Go.RowKit


/-- How two lists of numbers compare: by length, then number by number. -/
def cmpL (A B : List Int) : Int :=
  if A.length < B.length then -1 else if B.length < A.length then 1 else cmpE A B
where
  cmpE : List Int → List Int → Int
  | a :: A, b :: B => if a < b then -1 else if b < a then 1 else cmpE A B
  | _, _ => 0

theorem cmpE_at (A B : List Int) : ∀ k, k < A.length → k < B.length → (∀ j, j < k → gi A j = gi B j) →
    (gi A k < gi B k → cmpL.cmpE A B = -1) ∧ (gi B k < gi A k → cmpL.cmpE A B = 1) := by
  induction A generalizing B with
  | nil => intro k hk; cases hk
  | cons a A ih =>
    cases B with
    | nil => intro k _ hk; cases hk
    | cons b B =>
      intro k h1 h2 h
      cases k with
      | zero =>
        simp only [gi, List.getD_cons_zero]
        constructor
        · intro hlt; simp [cmpL.cmpE, hlt]
        · intro hlt; simp [cmpL.cmpE, hlt]; omega
      | succ k =>
        have e0 := h 0 (Nat.succ_pos _)
        simp only [gi, List.getD_cons_zero] at e0
        subst e0
        have := ih B k (by simpa using h1) (by simpa using h2) (fun j hj => by have := h (j + 1) (by omega); simpa [gi] using this)
        simpa [gi, cmpL.cmpE] using this
theorem cmpE_same (A B : List Int) (hl : A.length = B.length) (h : ∀ j, j < A.length → gi A j = gi B j) : cmpL.cmpE A B = 0 := by
  obtain rfl := gi_ext hl h
  clear hl h
  induction A with
  | nil => rfl
  | cons a A ih => simp [cmpL.cmpE, ih]

theorem cmpL_lt {A B : List Int} (h : A.length < B.length) : cmpL A B = -1 := by simp [cmpL, h]
theorem cmpL_gt {A B : List Int} (h : B.length < A.length) : cmpL A B = 1 := by simp only [cmpL, if_neg (show ¬ A.length < B.length by omega), if_pos h]
theorem cmpL_eq {A B : List Int} (h : A.length = B.length) : cmpL A B = cmpL.cmpE A B := by simp only [cmpL, if_neg (show ¬ A.length < B.length by omega), if_neg (show ¬ B.length < A.length by omega)]

set_option maxHeartbeats 1000000 in
theorem l02Compare_any (va : Value) (A : List Int) (vb : Value) (B : List Int) (w : World) (hA : Rd w va A) (hB : Rd w vb B) :
    Calls Try.prog 94 #[va, vb] w fun e w' => e = .returned (.int .i64 (cmpL A B)) ∧ ∃ n, w' = w.drewN n := by
  obtain ⟨la, a, ca, rfl, ha⟩ := hA
  obtain ⟨lb, b, cb, rfl, hb⟩ := hB
  by_cases h1 : A.length < B.length
  · go_enter Try.func94, Try.ntmps94
    go_wp2
    go_ret
    exact ⟨ret_int (cmpL_lt h1).symm, 0, rfl⟩
  by_cases h2 : B.length < A.length
  · go_enter Try.func94, Try.ntmps94
    go_wp2
    go_ret
    exact ⟨ret_int (cmpL_gt h2).symm, 0, rfl⟩
  have HL : Hid (A.length = B.length) := by have : A.length = B.length := by omega
                                            exact this
  have d1 : ((A.length : Int) != (B.length : Int)) = false := by simp; omega
  clear h1 h2
  go_enter Try.func94, Try.ntmps94
  go_wp2
  go_loopw [5] (fun i wr => ∃ k n : Nat, k ≤ A.length ∧ i = .int .i64 k ∧ (∀ j, j < k → gi A j = gi B j) ∧ wr = w.drewN n) (fun i _ => A.length - (intOf i).toNat)
  case atStart => exact ⟨0, 0, Nat.zero_le _, rfl, fun j hj => absurd hj (Nat.not_lt_zero j), rfl⟩
  case round =>
    obtain ⟨k, n, hk, rfl, heq, rfl⟩ := hrel
    have Heq := Lib.hid heq
    clear heq
    by_cases hlt : k < A.length
    · have hltB : k < B.length := by have := HL.out; omega
      obtain ⟨ba, oa, rfl, hba, hca⟩ := ha (by omega)
      obtain ⟨bb, ob, rfl, hbb, hcb⟩ := hb (by omega)
      have h1 := hca k hlt
      have h2 := hcb k hltB
      have hx := Lib.hid (cmpE_at A B k hlt hltB Heq.out)
      clear hca hcb ha hb
      go_wp2
      go_quiet (fail)
      go_wp2
      · go_ret
        have hc : gi A k < gi B k := by assumption
        exact ⟨ret_int (by rw [cmpL_eq HL.out, hx.out.1 hc]), n + nq, World.drewN_drewN _ _ _⟩
      · go_quiet (fail)
        go_wp2
        · go_ret
          have hc : gi B k < gi A k := by assumption
          exact ⟨ret_int (by rw [cmpL_eq HL.out, hx.out.2 hc]), _, dd3 _ _ _ _⟩
        · go_roundw
          case rel =>
            have hc1 : gi B k ≤ gi A k := by assumption
            have hc2 : gi A k ≤ gi B k := by assumption
            refine ⟨k + 1, _, by omega, by go_num, fun j hj => ?_, rfl⟩
            by_cases hjk : j = k
            · rw [hjk]; omega
            · exact Heq.out j (by omega)
          case measure => simp [intOf]; omega
    · go_wp2
      go_ret
      exact ⟨ret_int (by rw [cmpL_eq HL.out, cmpE_same A B HL.out (fun j hj => Heq.out j (by omega))]), n, rfl⟩

set_option maxHeartbeats 1000000 in
theorem implCompare_any (va : Value) (A : List Int) (vb : Value) (B : List Int) (w : World) (hA : Rd w va A) (hB : Rd w vb B) :
    Calls Try.prog 100 #[va, vb] w fun e w' => e = .returned (.int .i64 (cmpL A B)) ∧ Below w.heap.size w w' := by
  obtain ⟨la, a, ca, rfl, ha⟩ := hA
  obtain ⟨lb, b, cb, rfl, hb⟩ := hB
  by_cases h1 : A.length < B.length
  · go_enter Try.func100, Try.ntmps100
    go_wp2
    go_ret
    exact ⟨ret_int (cmpL_lt h1).symm, Below.refl _ _⟩
  by_cases h2 : B.length < A.length
  · go_enter Try.func100, Try.ntmps100
    go_wp2
    go_ret
    exact ⟨ret_int (cmpL_gt h2).symm, Below.refl _ _⟩
  have HL : Hid (A.length = B.length) := by have : A.length = B.length := by omega
                                            exact this
  go_enter Try.func100, Try.ntmps100
  go_wp2
  go_loopw [20] (fun i wr => ∃ k n : Nat, k ≤ A.length ∧ i = .int .i64 k ∧ (∀ j, j < k → gi A j = gi B j) ∧ wr = w.drewN n) (fun i _ => A.length - (intOf i).toNat)
  case atStart => exact ⟨0, 0, Nat.zero_le _, rfl, fun j hj => absurd hj (Nat.not_lt_zero j), rfl⟩
  case round =>
    obtain ⟨k, n, hk, rfl, heq, rfl⟩ := hrel
    have Heq := Lib.hid heq
    clear heq
    by_cases hlt : k < A.length
    · have hltB : k < B.length := by have := HL.out; omega
      obtain ⟨ba, oa, rfl, hba, hca⟩ := ha (by omega)
      obtain ⟨bb, ob, rfl, hbb, hcb⟩ := hb (by omega)
      have h1 := hca k hlt
      have h2 := hcb k hltB
      have hx := Lib.hid (cmpE_at A B k hlt hltB Heq.out)
      clear hca hcb ha hb
      go_wp2
      go_quiet (fail)
      go_wp2
      · go_ret
        have hc : gi A k < gi B k := by assumption
        exact ⟨ret_int (by rw [cmpL_eq HL.out, hx.out.1 hc]), below_dn2 w _ _⟩
      · go_quiet (fail)
        go_wp2
        · go_ret
          have hc : gi B k < gi A k := by assumption
          exact ⟨ret_int (by rw [cmpL_eq HL.out, hx.out.2 hc]), below_dn3 w _ _ _⟩
        · go_roundw
          case rel =>
            have hc1 : gi B k ≤ gi A k := by assumption
            have hc2 : gi A k ≤ gi B k := by assumption
            refine ⟨k + 1, _, by omega, by go_num, fun j hj => ?_, rfl⟩
            by_cases hjk : j = k
            · rw [hjk]; omega
            · exact Heq.out j (by omega)
          case measure => simp [intOf]; omega
    · go_wp2
      go_ret
      exact ⟨ret_int (by rw [cmpL_eq HL.out, cmpE_same A B HL.out (fun j hj => Heq.out j (by omega))]), below_dn w _⟩
end Go.Proofs.Ytdbjkgapgjmjoaa
