/-
  Contracts of the functions on patterns of two jugglers (chapter 6), first part: equality. No condition beyond each contract's own.
-/
import Derived.Test.YtdagakjeefhimaaPhelp2
namespace Go.Proofs.Ytdagakjeefhimaa
open Go.ChangeShapes Go.WideShapes Go.ChangeAt Go.RowKit



set_option maxHeartbeats 4000000 in
theorem l06Same_any (va : Value) (A : List Th) (vb : Value) (B : List Th) (w : World) (hA : RdT 1 w va A.length A) (hB : RdT 1 w vb B.length B) :
    Calls Try.prog 31 #[va, vb] w fun e w' => e = .returned (.bool (decide (A = B))) ∧ ∃ q, w' = w.drewN q := by
  obtain ⟨hTa, la, a, ca, rfl, ha⟩ := hA
  obtain ⟨hTb, lb, b, cb, rfl, hb⟩ := hB
  clear hTa hTb
  by_cases hl : B.length = A.length
  · have HL := Lib.hid hl
    go_enter Try.func31, Try.ntmps31
    go_wp2
    clear hl
    go_loopw [5] (fun i wr => ∃ k q : Nat, k ≤ A.length ∧ i = .int .i64 k ∧ (∀ j, j < k → gt A j = gt B j) ∧ wr = w.drewN q) (fun i _ => A.length - (intOf i).toNat)
    case atStart => exact ⟨0, 0, Nat.zero_le _, rfl, fun j hj => by omega, rfl⟩
    case round =>
      obtain ⟨k, q, hk, rfl, heq, rfl⟩ := hrel
      have Heq := Lib.hid heq
      clear heq
      by_cases hlt : k < A.length
      · have hltB : k < B.length := by have := HL.out; omega
        obtain ⟨ba, oa, rfl, hba, hca⟩ := ha (by omega)
        obtain ⟨bb, ob, rfl, hbb, hcb⟩ := hb (by omega)
        obtain ⟨p1, p2⟩ := cellsP hca hlt
        obtain ⟨q1, q2⟩ := cellsP hcb hltB
        clear hca hcb ha hb
        have E1 : (gt A k == gt B k) = (((gt A k).1 == (gt B k).1) && ((gt A k).2 == (gt B k).2)) := rfl
        have HE := Lib.hid E1
        clear E1
        cases d1 : ((gt A k).1 == (gt B k).1) <;> cases d2 : ((gt A k).2 == (gt B k).2)
        all_goals
          have HE2 := HE.out
          rw [d1, d2] at HE2
          have HE3 := Lib.hid HE2
          clear HE2
          go_wp2
          go_quiet (fail)
          go_wp2
          first
          | (go_roundw
             case rel =>
               have h1 : gt A k = gt B k := by simpa using HE3.out
               refine ⟨k + 1, _, by omega, by go_num, fun j hj => ?_, rfl⟩
               by_cases e1 : j = k
               · rw [e1]; exact h1
               · exact Heq.out j (by omega)
             case measure => simp [intOf]; omega)
          | (go_ret
             refine ⟨ret_bool (Eq.symm (decide_eq_false (fun h => ?_))), _, dd2 _ _ _⟩
             have h3 := HE3.out
             rw [h] at h3
             simp at h3)
      · go_wp2
        go_ret
        have h : A = B := gt_ext HL.out.symm (fun j hj => Heq.out j (by omega))
        exact ⟨ret_bool (decide_eq_true h).symm, _, rfl⟩
  · go_enter Try.func31, Try.ntmps31
    go_wp2
    go_ret
    exact ⟨ret_bool (decide_eq_false (fun h => hl (by rw [h]))).symm, 0, rfl⟩

set_option maxHeartbeats 4000000 in
theorem sameThrows_any (va : Value) (A : List Th) (vb : Value) (B : List Th) (w : World) (hA : RdT 1 w va A.length A) (hB : RdT 1 w vb B.length B) :
    Calls Try.prog 35 #[va, vb] w fun e w' => e = .returned (.bool (decide (A = B))) ∧ ∃ q, w' = w.drewN q := by
  obtain ⟨hTa, la, a, ca, rfl, ha⟩ := hA
  obtain ⟨hTb, lb, b, cb, rfl, hb⟩ := hB
  clear hTa hTb
  by_cases hl : B.length = A.length
  · have HL := Lib.hid hl
    go_enter Try.func35, Try.ntmps35
    go_wp2
    clear hl
    go_loopw [13] (fun i wr => ∃ k q : Nat, k ≤ A.length ∧ i = .int .i64 k ∧ (∀ j, j < k → gt A j = gt B j) ∧ wr = w.drewN q) (fun i _ => A.length - (intOf i).toNat)
    case atStart => exact ⟨0, 0, Nat.zero_le _, rfl, fun j hj => by omega, rfl⟩
    case round =>
      obtain ⟨k, q, hk, rfl, heq, rfl⟩ := hrel
      have Heq := Lib.hid heq
      clear heq
      by_cases hlt : k < A.length
      · have hltB : k < B.length := by have := HL.out; omega
        obtain ⟨ba, oa, rfl, hba, hca⟩ := ha (by omega)
        obtain ⟨bb, ob, rfl, hbb, hcb⟩ := hb (by omega)
        obtain ⟨p1, p2⟩ := cellsP hca hlt
        obtain ⟨q1, q2⟩ := cellsP hcb hltB
        clear hca hcb ha hb
        have E1 : (gt A k == gt B k) = (((gt A k).1 == (gt B k).1) && ((gt A k).2 == (gt B k).2)) := rfl
        have HE := Lib.hid E1
        clear E1
        cases d1 : ((gt A k).1 == (gt B k).1) <;> cases d2 : ((gt A k).2 == (gt B k).2)
        all_goals
          have HE2 := HE.out
          rw [d1, d2] at HE2
          have HE3 := Lib.hid HE2
          clear HE2
          go_wp2
          go_quiet (fail)
          go_wp2
          first
          | (go_roundw
             case rel =>
               have h1 : gt A k = gt B k := by simpa using HE3.out
               refine ⟨k + 1, _, by omega, by go_num, fun j hj => ?_, rfl⟩
               by_cases e1 : j = k
               · rw [e1]; exact h1
               · exact Heq.out j (by omega)
             case measure => simp [intOf]; omega)
          | (go_ret
             refine ⟨ret_bool (Eq.symm (decide_eq_false (fun h => ?_))), _, dd2 _ _ _⟩
             have h3 := HE3.out
             rw [h] at h3
             simp at h3)
      · go_wp2
        go_ret
        have h : A = B := gt_ext HL.out.symm (fun j hj => Heq.out j (by omega))
        exact ⟨ret_bool (decide_eq_true h).symm, _, rfl⟩
  · go_enter Try.func35, Try.ntmps35
    go_wp2
    go_ret
    exact ⟨ret_bool (decide_eq_false (fun h => hl (by rw [h]))).symm, 0, rfl⟩

set_option maxHeartbeats 2000000 in
theorem specSameP_any (va vb : Value) (A B : List Th) (va' vb' : Value) (A' B' : List Th) (w : World) (h : RdP w va vb A B) (h' : RdP w va' vb' A' B') :
    Calls Try.prog 16 #[.agg #[va, vb], .agg #[va', vb']] w fun e w' => e = .returned (.bool (decide (A = A') && decide (B = B'))) ∧ Below w.heap.size w w' := by
  obtain ⟨sa, na, ca, sb, nb, cb, rfl, rfl⟩ := h.form'
  obtain ⟨sa', na', ca', sb', nb', cb', rfl, rfl⟩ := h'.form'
  have hb0 : ∀ o1 o2 : Obj, Below w.heap.size w ((w.alloc o1).alloc o2) := fun o1 o2 => ((Below.refl _ _).alloc (Nat.le_refl _) _).alloc (by simp) _
  have z1 := fun W (hW : Below w.heap.size w W) => l06Same_any _ A _ A' W (h.1.below hW) (h'.1.below hW)
  have z2 := fun W (hW : Below w.heap.size w W) => l06Same_any _ B _ B' W (h.2.below hW) (h'.2.below hW)
  have Z2 := Lib.hid z2
  have HB := Lib.hid hb0
  clear h h' hb0 z2
  cases d1 : decide (A = A')
  all_goals
    rw [d1] at z1
    have Z1 := Lib.hid z1
    clear z1 d1
    go_enter Try.func16, Try.ntmps16
    go_wp2_with fail
    refine (Z1.out _ (HB.out _ _)).mono ?_
    rintro e w1 ⟨rfl, q, rfl⟩
  · go_wp2
    go_ret
    exact ⟨rfl, below_step (HB.out _ _) (below_dn _ _) (HB.out _ _).size⟩
  · go_wp2_with fail
    refine (Z2.out _ (below_step (HB.out _ _) (below_dn _ _) (HB.out _ _).size)).mono ?_
    rintro e w2 ⟨rfl, q2, rfl⟩
    go_wp2
    go_ret
    exact ⟨by simp, below_step (HB.out _ _) (below_dn _ _) (HB.out _ _).size⟩

set_option maxHeartbeats 2000000 in
theorem implSameP_any (va vb : Value) (A B : List Th) (va' vb' : Value) (A' B' : List Th) (w : World) (h : RdP w va vb A B) (h' : RdP w va' vb' A' B') :
    Calls Try.prog 24 #[.agg #[va, vb], .agg #[va', vb']] w fun e w' => e = .returned (.bool (decide (A = A') && decide (B = B'))) ∧ Below w.heap.size w w' := by
  obtain ⟨sa, na, ca, sb, nb, cb, rfl, rfl⟩ := h.form'
  obtain ⟨sa', na', ca', sb', nb', cb', rfl, rfl⟩ := h'.form'
  have hb0 : ∀ o1 o2 : Obj, Below w.heap.size w ((w.alloc o1).alloc o2) := fun o1 o2 => ((Below.refl _ _).alloc (Nat.le_refl _) _).alloc (by simp) _
  have z1 := fun W (hW : Below w.heap.size w W) => sameThrows_any _ A _ A' W (h.1.below hW) (h'.1.below hW)
  have z2 := fun W (hW : Below w.heap.size w W) => sameThrows_any _ B _ B' W (h.2.below hW) (h'.2.below hW)
  have Z2 := Lib.hid z2
  have HB := Lib.hid hb0
  clear h h' hb0 z2
  cases d1 : decide (A = A')
  all_goals
    rw [d1] at z1
    have Z1 := Lib.hid z1
    clear z1 d1
    go_enter Try.func24, Try.ntmps24
    go_wp2_with fail
    refine (Z1.out _ (HB.out _ _)).mono ?_
    rintro e w1 ⟨rfl, q, rfl⟩
  · go_wp2
    go_ret
    exact ⟨rfl, below_step (HB.out _ _) (below_dn _ _) (HB.out _ _).size⟩
  · go_wp2_with fail
    refine (Z2.out _ (below_step (HB.out _ _) (below_dn _ _) (HB.out _ _).size)).mono ?_
    rintro e w2 ⟨rfl, q2, rfl⟩
    go_wp2
    go_ret
    exact ⟨by simp, below_step (HB.out _ _) (below_dn _ _) (HB.out _ _).size⟩
end Go.Proofs.Ytdagakjeefhimaa
