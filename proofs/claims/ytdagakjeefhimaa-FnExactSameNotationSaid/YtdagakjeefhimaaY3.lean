/-
  Contracts of the functions on synchronous patterns (chapter 5), third part: equality, crossing throws. No condition beyond each contract's own.
-/
import Derived.Test.YtdagakjeefhimaaY2
namespace Go.Proofs.Ytdagakjeefhimaa
open Go.ChangeShapes Go.WideShapes Go.ChangeAt Go.RowKit


theorem field_cross (w : World) (a : Int) (b : Bool) : (Instr.field 58 (.agg #[.int .i64 a, .bool b]) 1).run Try.prog w = .ok (.bool b) w := by kernel_rfl
/-- Equal lists of beats. -/
def sameT (n : Nat) (A : List Th) (m : Nat) (B : List Th) : Bool := decide (n = m ∧ A = B)

set_option maxHeartbeats 4000000 in
theorem specSameSync_any (va : Value) (n : Nat) (A : List Th) (vb : Value) (m : Nat) (B : List Th) (w : World) (hA : RdT 2 w va n A) (hB : RdT 2 w vb m B) :
    Calls Try.prog 15 #[va, vb] w fun e w' => e = .returned (.bool (sameT n A m B)) ∧ Below w.heap.size w w' := by
  obtain ⟨hTa, la, a, ca, rfl, ha⟩ := hA
  obtain ⟨hTb, lb, b, cb, rfl, hb⟩ := hB
  by_cases hl : n = m
  · subst hl
    go_enter Try.func15, Try.ntmps15
    go_wp2
    go_loopw [5] (fun i wr => ∃ k q : Nat, k ≤ n ∧ i = .int .i64 k ∧ (∀ j, j < k * 2 → gt A j = gt B j) ∧ wr = w.drewN q) (fun i _ => n - (intOf i).toNat)
    case atStart => exact ⟨0, 0, Nat.zero_le _, rfl, fun j hj => by omega, rfl⟩
    case round =>
      obtain ⟨k, q, hk, rfl, heq, rfl⟩ := hrel
      have Heq := Lib.hid heq
      clear heq
      by_cases hlt : k < n
      · obtain ⟨ba, oa, rfl, hba, hca⟩ := ha (by omega)
        obtain ⟨bb, ob, rfl, hbb, hcb⟩ := hb (by omega)
        obtain ⟨p1, p2, p3, p4⟩ := cells4 hca hlt
        obtain ⟨q1, q2, q3, q4⟩ := cells4 hcb hlt
        clear hca hcb ha hb
        have E1 : (gt A (k * 2) == gt B (k * 2)) = (((gt A (k * 2)).1 == (gt B (k * 2)).1) && ((gt A (k * 2)).2 == (gt B (k * 2)).2)) := rfl
        have E2 : (gt A (k * 2 + 1) == gt B (k * 2 + 1)) = (((gt A (k * 2 + 1)).1 == (gt B (k * 2 + 1)).1) && ((gt A (k * 2 + 1)).2 == (gt B (k * 2 + 1)).2)) := rfl
        have HE := Lib.hid (And.intro E1 E2)
        clear E1 E2
        cases d1 : ((gt A (k * 2)).1 == (gt B (k * 2)).1) <;> cases d2 : ((gt A (k * 2)).2 == (gt B (k * 2)).2) <;> cases d3 : ((gt A (k * 2 + 1)).1 == (gt B (k * 2 + 1)).1) <;> cases d4 : ((gt A (k * 2 + 1)).2 == (gt B (k * 2 + 1)).2)
        all_goals
          have HE2 := HE.out
          rw [d1, d2, d3, d4] at HE2
          have HE3 := Lib.hid HE2
          clear HE2
          go_wp2
          go_quiet (fail)
          go_wp2
          first
          | (go_roundw
             case rel =>
               have h1 : gt A (k * 2) = gt B (k * 2) := by simpa using HE3.out.1
               have h2 : gt A (k * 2 + 1) = gt B (k * 2 + 1) := by simpa using HE3.out.2
               refine ⟨k + 1, _, by omega, by go_num, fun j hj => ?_, rfl⟩
               by_cases e1 : j = k * 2
               · rw [e1]; exact h1
               · by_cases e2 : j = k * 2 + 1
                 · rw [e2]; exact h2
                 · exact Heq.out j (by omega)
             case measure => simp [intOf]; omega)
          | (go_ret
             refine ⟨ret_bool (Eq.symm (decide_eq_false (fun h => ?_))), below_dn2 _ _ _⟩
             have h3 := HE3.out
             rw [h.2] at h3
             simp at h3)
      · go_wp2
        go_ret
        obtain rfl : k = n := by omega
        have h : A = B := gt_ext (hTa.trans hTb.symm) (fun j hj => Heq.out j (by omega))
        exact ⟨ret_bool (decide_eq_true ⟨rfl, h⟩).symm, below_dn _ _⟩
  · go_enter Try.func15, Try.ntmps15
    go_wp2
    go_ret
    exact ⟨ret_bool (decide_eq_false (fun h => hl h.1)).symm, Below.refl _ _⟩

set_option maxHeartbeats 4000000 in
theorem implSameSync_any (va : Value) (n : Nat) (A : List Th) (vb : Value) (m : Nat) (B : List Th) (w : World) (hA : RdT 2 w va n A) (hB : RdT 2 w vb m B) :
    Calls Try.prog 23 #[va, vb] w fun e w' => e = .returned (.bool (sameT n A m B)) ∧ Below w.heap.size w w' := by
  obtain ⟨hTa, la, a, ca, rfl, ha⟩ := hA
  obtain ⟨hTb, lb, b, cb, rfl, hb⟩ := hB
  by_cases hl : n = m
  · subst hl
    go_enter Try.func23, Try.ntmps23
    go_wp2
    go_loopw [13] (fun i wr => ∃ k q : Nat, k ≤ n ∧ i = .int .i64 k ∧ (∀ j, j < k * 2 → gt A j = gt B j) ∧ wr = w.drewN q) (fun i _ => n - (intOf i).toNat)
    case atStart => exact ⟨0, 0, Nat.zero_le _, rfl, fun j hj => by omega, rfl⟩
    case round =>
      obtain ⟨k, q, hk, rfl, heq, rfl⟩ := hrel
      have Heq := Lib.hid heq
      clear heq
      by_cases hlt : k < n
      · obtain ⟨ba, oa, rfl, hba, hca⟩ := ha (by omega)
        obtain ⟨bb, ob, rfl, hbb, hcb⟩ := hb (by omega)
        obtain ⟨p1, p2, p3, p4⟩ := cells4 hca hlt
        obtain ⟨q1, q2, q3, q4⟩ := cells4 hcb hlt
        clear hca hcb ha hb
        have E1 : (gt A (k * 2) == gt B (k * 2)) = (((gt A (k * 2)).1 == (gt B (k * 2)).1) && ((gt A (k * 2)).2 == (gt B (k * 2)).2)) := rfl
        have E2 : (gt A (k * 2 + 1) == gt B (k * 2 + 1)) = (((gt A (k * 2 + 1)).1 == (gt B (k * 2 + 1)).1) && ((gt A (k * 2 + 1)).2 == (gt B (k * 2 + 1)).2)) := rfl
        have HE := Lib.hid (And.intro E1 E2)
        clear E1 E2
        cases d1 : ((gt A (k * 2)).1 == (gt B (k * 2)).1) <;> cases d2 : ((gt A (k * 2)).2 == (gt B (k * 2)).2) <;> cases d3 : ((gt A (k * 2 + 1)).1 == (gt B (k * 2 + 1)).1) <;> cases d4 : ((gt A (k * 2 + 1)).2 == (gt B (k * 2 + 1)).2)
        all_goals
          have HE2 := HE.out
          rw [d1, d2, d3, d4] at HE2
          have HE3 := Lib.hid HE2
          clear HE2
          go_wp2
          go_quiet (fail)
          go_wp2
          first
          | (go_roundw
             case rel =>
               have h1 : gt A (k * 2) = gt B (k * 2) := by simpa using HE3.out.1
               have h2 : gt A (k * 2 + 1) = gt B (k * 2 + 1) := by simpa using HE3.out.2
               refine ⟨k + 1, _, by omega, by go_num, fun j hj => ?_, rfl⟩
               by_cases e1 : j = k * 2
               · rw [e1]; exact h1
               · by_cases e2 : j = k * 2 + 1
                 · rw [e2]; exact h2
                 · exact Heq.out j (by omega)
             case measure => simp [intOf]; omega)
          | (go_ret
             refine ⟨ret_bool (Eq.symm (decide_eq_false (fun h => ?_))), below_dn2 _ _ _⟩
             have h3 := HE3.out
             rw [h.2] at h3
             simp at h3)
      · go_wp2
        go_ret
        obtain rfl : k = n := by omega
        have h : A = B := gt_ext (hTa.trans hTb.symm) (fun j hj => Heq.out j (by omega))
        exact ⟨ret_bool (decide_eq_true ⟨rfl, h⟩).symm, below_dn _ _⟩
  · go_enter Try.func23, Try.ntmps23
    go_wp2
    go_ret
    exact ⟨ret_bool (decide_eq_false (fun h => hl h.1)).symm, Below.refl _ _⟩
end Go.Proofs.Ytdagakjeefhimaa
