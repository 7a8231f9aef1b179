/-
  Contracts of the functions on patterns with several throws at a beat (chapter 4), first part: equality. No condition beyond each contract's own.
-/
import Derived.Test.YtdagakjeefhimaaMhelp
import Derived.Test.YtdagakjeefhimaaL03b
namespace Go.Proofs.Ytdagakjeefhimaa
open Go.ChangeShapes Go.WideShapes Go.ChangeAt Go.RowKit



set_option maxHeartbeats 4000000 in
theorem specSameM_any (a : Value) (R : List (List Int)) (b : Value) (S : List (List Int)) (w : World) (hA : RdR w a R) (hB : RdR w b S) :
    Calls Try.prog 14 #[.agg #[a], .agg #[b]] w fun e w' => e = .returned (.bool (decide (R = S))) ∧ Below w.heap.size w w' := by
  obtain ⟨la, sa, ca, rfl, ha⟩ := hA
  obtain ⟨lb, sb, cb, rfl, hb⟩ := hB
  have HBX := Lib.hid (fun o1 o2 => show Below w.heap.size w ((w.alloc o1).alloc o2) from ((Below.refl _ _).alloc (Nat.le_refl _) _).alloc (by simp) _)
  by_cases hl : R.length = S.length
  rotate_left
  · have hne : ((R.length : Int) == S.length) = false := bF (by omega)
    have hne' : ¬ (R.length : Int) = S.length := by omega
    have HL := Lib.hid hl
    clear hl ha hb
    go_enter Try.func14, Try.ntmps14
    go_wp2
    go_ret
    exact ⟨ret_bool (decide_eq_false (fun h => HL.out (by rw [h]))).symm, HBX.out _ _⟩
  · have HL := Lib.hid hl
    rw [← hl] at hb ⊢
    clear hl lb
    go_enter Try.func14, Try.ntmps14
    go_wp2
    generalize hW : World.alloc (World.alloc w _) _ = wb
    have z1 : wb.cell? ⟨w.heap.size, 0, none⟩ = some (.slice sa R.length ca) := by rw [← hW]; simp
    have z2 : wb.cell? ⟨w.heap.size + 1, 0, none⟩ = some (.slice sb R.length cb) := by rw [← hW]; simp
    have hBb : Below w.heap.size w wb := by rw [← hW]; exact HBX.out _ _
    clear hW
    have HB := Lib.hid hBb
    go_loopw [5] (fun i wr => ∃ k q : Nat, k ≤ R.length ∧ i = .int .i64 k ∧ (∀ j, j < k → gr R j = gr S j) ∧ wr = wb.drewN q) (fun i _ => R.length - (intOf i).toNat)
    case atStart => exact ⟨0, 0, Nat.zero_le _, rfl, fun j hj => absurd hj (Nat.not_lt_zero j), rfl⟩
    case round =>
      obtain ⟨k, q, hk, rfl, heq, hwr⟩ := hrel
      have Heq := Lib.hid heq
      clear heq
      by_cases hlt : k < R.length
      · obtain ⟨ba, oa, csa, rfl, hba, hca⟩ := ha (by omega)
        obtain ⟨bb, ob, csb, rfl, hbb, hcb⟩ := hb (by omega)
        have p1 : wr.cell? ⟨ba, oa + k, none⟩ = some (csa k) := by rw [hwr]; exact (HB.out.cell (p := ⟨ba, oa + k, none⟩) hba).trans (hca k hlt).1
        have p2 : wr.cell? ⟨bb, ob + k, none⟩ = some (csb k) := by rw [hwr]; exact (HB.out.cell (p := ⟨bb, ob + k, none⟩) hbb).trans (hcb k hlt).1
        have y1 : wr.cell? ⟨w.heap.size, 0, none⟩ = some (.slice (some ⟨ba, oa, none⟩) R.length ca) := by rw [hwr]; exact z1
        have y2 : wr.cell? ⟨w.heap.size + 1, 0, none⟩ = some (.slice (some ⟨bb, ob, none⟩) R.length cb) := by rw [hwr]; exact z2
        have hsame : Hid (∀ m, Calls Try.prog 13 #[csa k, csb k] (wr.drewN m) fun e w' => e = .returned (.bool (decide (gr R k = gr S k))) ∧ ∃ q, w' = (wr.drewN m).drewN q) := by
          intro m
          rw [hwr]
          exact l00Same_any _ _ (gr R k) (gr S k) _ ((((hca k hlt).2.below HB.out).drewN q).drewN m) ((((hcb k hlt).2.below HB.out).drewN q).drewN m)
        have Hwr := Lib.hid hwr
        clear hca hcb ha hb hwr z1 z2
        cases hd : decide (gr R k = gr S k)
        all_goals
          rw [hd] at hsame
          have Hd := Lib.hid hd
          clear hd
          go_wp2
          go_quiet ((go_at_call 13; exact Calls.quiet_of (hsame.out _)))
          go_wp2
        · go_ret
          exact ⟨ret_bool (decide_eq_false (fun h => of_decide_eq_false Hd.out (by rw [h]))).symm, by rw [Hwr.out]; exact HB.out.trans ((below_dn2 _ _ _).mono HB.out.size)⟩
        · go_roundw
          case rel =>
            refine ⟨k + 1, _, by omega, by go_num, fun j hj => ?_, by rw [Hwr.out]; exact dd2 _ _ _⟩
            by_cases hjk : j = k
            · rw [hjk]; exact of_decide_eq_true Hd.out
            · exact Heq.out j (by omega)
          case measure => simp [intOf]; omega
      · have Hwr := Lib.hid hwr
        have y1 : wr.cell? ⟨w.heap.size, 0, none⟩ = some (.slice sa R.length ca) := by rw [hwr]; exact z1
        clear hwr
        go_wp2
        go_ret
        exact ⟨ret_bool (decide_eq_true (gr_ext HL.out (fun j hj => Heq.out j (by omega)))).symm, by rw [Hwr.out]; exact HB.out.trans ((below_dn _ _).mono HB.out.size)⟩

set_option maxHeartbeats 4000000 in
theorem implSameM_any (a : Value) (R : List (List Int)) (b : Value) (S : List (List Int)) (w : World) (hA : RdR w a R) (hB : RdR w b S) :
    Calls Try.prog 22 #[.agg #[a], .agg #[b]] w fun e w' => e = .returned (.bool (decide (R = S))) ∧ Below w.heap.size w w' := by
  obtain ⟨la, sa, ca, rfl, ha⟩ := hA
  obtain ⟨lb, sb, cb, rfl, hb⟩ := hB
  have HBX := Lib.hid (fun o1 o2 => show Below w.heap.size w ((w.alloc o1).alloc o2) from ((Below.refl _ _).alloc (Nat.le_refl _) _).alloc (by simp) _)
  by_cases hl : R.length = S.length
  rotate_left
  · have hne : ((R.length : Int) == S.length) = false := bF (by omega)
    have hne' : ¬ (R.length : Int) = S.length := by omega
    have HL := Lib.hid hl
    clear hl ha hb
    go_enter Try.func22, Try.ntmps22
    go_wp2
    go_ret
    exact ⟨ret_bool (decide_eq_false (fun h => HL.out (by rw [h]))).symm, HBX.out _ _⟩
  · have HL := Lib.hid hl
    rw [← hl] at hb ⊢
    clear hl lb
    go_enter Try.func22, Try.ntmps22
    go_wp2
    generalize hW : World.alloc (World.alloc w _) _ = wb
    have z1 : wb.cell? ⟨w.heap.size, 0, none⟩ = some (.slice sa R.length ca) := by rw [← hW]; simp
    have z2 : wb.cell? ⟨w.heap.size + 1, 0, none⟩ = some (.slice sb R.length cb) := by rw [← hW]; simp
    have hBb : Below w.heap.size w wb := by rw [← hW]; exact HBX.out _ _
    clear hW
    have HB := Lib.hid hBb
    go_loopw [16] (fun i wr => ∃ k q : Nat, k ≤ R.length ∧ i = .int .i64 k ∧ (∀ j, j < k → gr R j = gr S j) ∧ wr = wb.drewN q) (fun i _ => R.length - (intOf i).toNat)
    case atStart => exact ⟨0, 0, Nat.zero_le _, rfl, fun j hj => absurd hj (Nat.not_lt_zero j), rfl⟩
    case round =>
      obtain ⟨k, q, hk, rfl, heq, hwr⟩ := hrel
      have Heq := Lib.hid heq
      clear heq
      by_cases hlt : k < R.length
      · obtain ⟨ba, oa, csa, rfl, hba, hca⟩ := ha (by omega)
        obtain ⟨bb, ob, csb, rfl, hbb, hcb⟩ := hb (by omega)
        have p1 : wr.cell? ⟨ba, oa + k, none⟩ = some (csa k) := by rw [hwr]; exact (HB.out.cell (p := ⟨ba, oa + k, none⟩) hba).trans (hca k hlt).1
        have p2 : wr.cell? ⟨bb, ob + k, none⟩ = some (csb k) := by rw [hwr]; exact (HB.out.cell (p := ⟨bb, ob + k, none⟩) hbb).trans (hcb k hlt).1
        have y1 : wr.cell? ⟨w.heap.size, 0, none⟩ = some (.slice (some ⟨ba, oa, none⟩) R.length ca) := by rw [hwr]; exact z1
        have y2 : wr.cell? ⟨w.heap.size + 1, 0, none⟩ = some (.slice (some ⟨bb, ob, none⟩) R.length cb) := by rw [hwr]; exact z2
        have hsame : Hid (∀ m, Calls Try.prog 21 #[csa k, csb k] (wr.drewN m) fun e w' => e = .returned (.bool (decide (gr R k = gr S k))) ∧ ∃ q, w' = (wr.drewN m).drewN q) := by
          intro m
          rw [hwr]
          exact sameNumbers_any _ _ (gr R k) (gr S k) _ ((((hca k hlt).2.below HB.out).drewN q).drewN m) ((((hcb k hlt).2.below HB.out).drewN q).drewN m)
        have Hwr := Lib.hid hwr
        clear hca hcb ha hb hwr z1 z2
        cases hd : decide (gr R k = gr S k)
        all_goals
          rw [hd] at hsame
          have Hd := Lib.hid hd
          clear hd
          go_wp2
          go_quiet ((go_at_call 21; exact Calls.quiet_of (hsame.out _)))
          go_wp2
        · go_ret
          exact ⟨ret_bool (decide_eq_false (fun h => of_decide_eq_false Hd.out (by rw [h]))).symm, by rw [Hwr.out]; exact HB.out.trans ((below_dn2 _ _ _).mono HB.out.size)⟩
        · go_roundw
          case rel =>
            refine ⟨k + 1, _, by omega, by go_num, fun j hj => ?_, by rw [Hwr.out]; exact dd2 _ _ _⟩
            by_cases hjk : j = k
            · rw [hjk]; exact of_decide_eq_true Hd.out
            · exact Heq.out j (by omega)
          case measure => simp [intOf]; omega
      · have Hwr := Lib.hid hwr
        have y1 : wr.cell? ⟨w.heap.size, 0, none⟩ = some (.slice sa R.length ca) := by rw [hwr]; exact z1
        clear hwr
        go_wp2
        go_ret
        exact ⟨ret_bool (decide_eq_true (gr_ext HL.out (fun j hj => Heq.out j (by omega)))).symm, by rw [Hwr.out]; exact HB.out.trans ((below_dn _ _).mono HB.out.size)⟩
end Go.Proofs.Ytdagakjeefhimaa
