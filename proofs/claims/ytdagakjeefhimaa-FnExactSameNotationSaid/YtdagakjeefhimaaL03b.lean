/-
  Contracts of the operations on patterns (chapter 3), second part: rotations, reversals, equality. No condition beyond each contract's own.
-/
import Derived.Test.YtdagakjeefhimaaL03
namespace Go.Proofs.Ytdagakjeefhimaa
open Go.ChangeShapes Go.WideShapes Go.ChangeAt Go.RowKit


set_option maxHeartbeats 400000 in
theorem sameNumbers_any (va vb : Value) (A B : List Int) (w : World) (hA : Rd w va A) (hB : Rd w vb B) :
    Calls Try.prog 21 #[va, vb] w fun e w' => e = .returned (.bool (decide (A = B))) ∧ ∃ n, w' = w.drewN n := by
  obtain ⟨la, a, ca, rfl, ha⟩ := hA
  obtain ⟨lb, b, cb, rfl, hb⟩ := hB
  by_cases hl : A.length = B.length
  · go_enter Try.func21, Try.ntmps21
    go_wp2
    have HL := Lib.hid hl
    clear hl
    go_loopw [13] (fun i wr => ∃ k n : Nat, k ≤ A.length ∧ i = .int .i64 k ∧ (∀ j, j < k → gi A j = gi B j) ∧ wr = w.drewN n) (fun i _ => A.length - (intOf i).toNat)
    case atStart => exact ⟨0, 0, Nat.zero_le _, rfl, fun j hj => absurd hj (Nat.not_lt_zero j), rfl⟩
    case round =>
      obtain ⟨k, n, hk, rfl, heq, rfl⟩ := hrel
      have Heq := Lib.hid heq
      clear heq
      by_cases hlt : k < A.length
      · have hltB : k < B.length := by have := HL.out; omega
        obtain ⟨ba, oa, rfl, hba, hca⟩ := ha (by omega)
        obtain ⟨bb, ob, rfl, hbb, hcb⟩ := hb (by omega)
        have h1 := hca k hlt
        have h2 := hcb k hltB
        clear hca hcb
        go_wp2
        go_quiet (fail)
        go_wp2
        · go_ret
          have hne : (gi A k != gi B k) = true := by assumption
          have : A ≠ B := fun h => by rw [h] at hne; simp at hne
          exact ⟨by simp [this], n + nq, World.drewN_drewN _ _ _⟩
        · go_roundw
          case rel =>
            have he : (gi A k != gi B k) = false := by assumption
            have he' : gi A k = gi B k := by simpa using he
            refine ⟨k + 1, _, by omega, by go_num, fun j hj => ?_, rfl⟩
            by_cases hjk : j = k
            · rw [hjk]; exact he'
            · exact Heq.out j (by omega)
          case measure => simp [intOf]; omega
      · have hgeB : B.length ≤ k := by have := HL.out; omega
        go_wp2
        go_ret
        have : A = B := gi_ext HL.out (fun j hj => Heq.out j (by omega))
        exact ⟨by simp [this], _, rfl⟩
  · go_enter Try.func21, Try.ntmps21
    go_wp2
    go_ret
    have : A ≠ B := fun h => hl (by rw [h])
    exact ⟨by simp [this], 0, rfl⟩

set_option maxHeartbeats 400000 in
theorem l00Same_any (va vb : Value) (A B : List Int) (w : World) (hA : Rd w va A) (hB : Rd w vb B) :
    Calls Try.prog 13 #[va, vb] w fun e w' => e = .returned (.bool (decide (A = B))) ∧ ∃ n, w' = w.drewN n := by
  obtain ⟨la, a, ca, rfl, ha⟩ := hA
  obtain ⟨lb, b, cb, rfl, hb⟩ := hB
  by_cases hl : A.length = B.length
  · go_enter Try.func13, Try.ntmps13
    go_wp2
    have HL := Lib.hid hl
    clear hl
    go_loopw [5] (fun i wr => ∃ k n : Nat, k ≤ A.length ∧ i = .int .i64 k ∧ (∀ j, j < k → gi A j = gi B j) ∧ wr = w.drewN n) (fun i _ => A.length - (intOf i).toNat)
    case atStart => exact ⟨0, 0, Nat.zero_le _, rfl, fun j hj => absurd hj (Nat.not_lt_zero j), rfl⟩
    case round =>
      obtain ⟨k, n, hk, rfl, heq, rfl⟩ := hrel
      have Heq := Lib.hid heq
      clear heq
      by_cases hlt : k < A.length
      · have hltB : k < B.length := by have := HL.out; omega
        obtain ⟨ba, oa, rfl, hba, hca⟩ := ha (by omega)
        obtain ⟨bb, ob, rfl, hbb, hcb⟩ := hb (by omega)
        have h1 := hca k hlt
        have h2 := hcb k hltB
        clear hca hcb
        go_wp2
        go_quiet (fail)
        go_wp2
        · go_ret
          have hne : (gi A k != gi B k) = true := by assumption
          have : A ≠ B := fun h => by rw [h] at hne; simp at hne
          exact ⟨by simp [this], n + nq, World.drewN_drewN _ _ _⟩
        · go_roundw
          case rel =>
            have he : (gi A k != gi B k) = false := by assumption
            have he' : gi A k = gi B k := by simpa using he
            refine ⟨k + 1, _, by omega, by go_num, fun j hj => ?_, rfl⟩
            by_cases hjk : j = k
            · rw [hjk]; exact he'
            · exact Heq.out j (by omega)
          case measure => simp [intOf]; omega
      · go_wp2
        go_ret
        have : A = B := gi_ext HL.out (fun j hj => Heq.out j (by omega))
        exact ⟨by simp [this], _, rfl⟩
  · go_enter Try.func13, Try.ntmps13
    go_wp2
    go_ret
    have : A ≠ B := fun h => hl (by rw [h])
    exact ⟨by simp [this], 0, rfl⟩

/-- The first k throws of a pattern that begins b beats later. -/
def rotL (p : List Int) (b : Int) (k : Nat) : List Int := (List.range k).map fun (j : Nat) => thV p ((j : Int) + b)
theorem rotL_succ (p : List Int) (b : Int) (k : Nat) : rotL p b (k + 1) = rotL p b k ++ [thV p ((k : Int) + b)] := by simp [rotL, List.range_succ]
theorem rotL_length (p : List Int) (b : Int) (k : Nat) : (rotL p b k).length = k := by simp [rotL]

/-- RotatePattern. -/
def roL (p : List Int) (b : Int) : List Int := if bcV p b = 0 then rotL p b p.length else []

theorem lfV_spec {p : List Int} (hv : validB p = true) (b : Int) : ∃ i, i < p.length ∧ landI p i = b % (p.length : Int) ∧ lfV p b = b - gi p i := by
  have hn := (validB_true hv).1
  have hm := emod_bd (a := b) (n := (p.length : Int)) (by omega)
  obtain ⟨i, hi, e⟩ := lands_hit hv _ hm.1 hm.2
  cases hf : findI (fun i => landI p i == b % (p.length : Int)) p.length with
  | none =>
    have := findI_none_iff.1 hf i hi
    simp [e] at this
  | some k =>
    obtain ⟨h1, h2, h3⟩ := findI_spec hf
    exact ⟨k, h1, by simpa using h2, by rw [lfV, hf]⟩
theorem thV_lf {p : List Int} (hv : validB p = true) (b : Int) : thV p (lfV p b) = b - lfV p b := by
  obtain ⟨i, hi, e, hl⟩ := lfV_spec hv b
  have hn := (validB_true hv).1
  rw [hl, thV]
  have e1 := Int.emod_add_mul_ediv b (p.length : Int)
  have e2 := Int.emod_add_mul_ediv ((i : Int) + gi p i) (p.length : Int)
  rw [landI] at e
  rw [e] at e2
  have e3 : b - gi p i = (i : Int) + (p.length : Int) * (b / (p.length : Int) - ((i : Int) + gi p i) / (p.length : Int)) := by
    rw [Int.mul_sub]; omega
  rw [e3, Int.add_mul_emod_self_left, Int.emod_eq_of_lt (by omega) (by omega)]
  have : ((i : Int)).toNat = i := by simp
  rw [this]
  rw [← e3]; omega
/-- The first k throws of the pattern that runs backwards. -/
def revL (p : List Int) (k : Nat) : List Int := (List.range k).map fun (j : Nat) => thV p (lfV p ((p.length : Int) - 1 - j))
theorem revL_succ (p : List Int) (k : Nat) : revL p (k + 1) = revL p k ++ [thV p (lfV p ((p.length : Int) - 1 - k))] := by simp [revL, List.range_succ]
theorem revL_length (p : List Int) (k : Nat) : (revL p k).length = k := by simp [revL]
theorem lfV_bd {p : List Int} (hv : validB p = true) (b : Int) : b - 15 ≤ lfV p b ∧ lfV p b ≤ b := by
  obtain ⟨i, hi, _, hl⟩ := lfV_spec hv b
  have := (validB_true hv).2.2 i hi
  omega

/-- ReversePattern. -/
def reL (p : List Int) : List Int := if validB p then revL p p.length else []
end Go.Proofs.Ytdagakjeefhimaa
