/-
  Contracts of SameNotation (chapter 7). No condition.
-/
import Derived.Test.YtdagakjeefhimaaN2
import Derived.Test.YtdagakjeefhimaaL03b
namespace Go.Proofs.Ytdagakjeefhimaa
open Go.ChangeShapes Go.WideShapes Go.ChangeAt Go.RowKit


/-- Two notations are the same in all their parts. -/
def snB (x y : Int) (P P' : List Int) (R R' : List (List Int)) (n : Nat) (T : List Th) (n' : Nat) (T' A A' B B' : List Th) : Bool :=
  decide (x = y) && (decide (P = P') && (decide (R = R') && (sameT n T n' T' && (decide (A = A') && decide (B = B')))))

set_option maxHeartbeats 4000000 in
theorem specSameN_any (vp vm vs va vb : Value) (x : Int) (P : List Int) (R : List (List Int)) (n : Nat) (T A B : List Th) (vp' vm' vs' va' vb' : Value) (y : Int) (P' : List Int) (R' : List (List Int)) (n' : Nat) (T' A' B' : List Th) (w : World) (h : RdN w vp vm vs va vb P R n T A B) (h' : RdN w vp' vm' vs' va' vb' P' R' n' T' A' B') :
    Calls Try.prog 5 #[.agg #[.int .i64 x, vp, vm, vs, va, vb], .agg #[.int .i64 y, vp', vm', vs', va', vb']] w fun e w' => e = .returned (.bool (snB x y P P' R R' n T n' T' A A' B B')) ∧ Below w.heap.size w w' := by
  obtain ⟨sp, np, cp, sm, nm, cm, ss, ns, cs, sa, na, ca, sb, nb, cb, rfl, rfl, rfl, rfl, rfl⟩ := h.form'
  obtain ⟨sp', np', cp', sm', nm', cm', ss', ns', cs', sa', na', ca', sb', nb', cb', rfl, rfl, rfl, rfl, rfl⟩ := h'.form'
  have H := Lib.hid h
  have H' := Lib.hid h'
  clear h h'
  by_cases hx : x = y
  rotate_left
  · have HX := Lib.hid (show snB x y P P' R R' n T n' T' A A' B B' = false by simp [snB, hx])
    go_enter Try.func5, Try.ntmps5
    go_wp2
    go_ret
    exact ⟨ret_bool HX.out.symm, (box_below _ _).alloc (by simp) _⟩
  subst hx
  go_enter Try.func5, Try.ntmps5
  go_wp2_with fail
  generalize hW : World.alloc (World.alloc w _) _ = w0
  have k1 : w0.cell? ⟨w.heap.size, 1, none⟩ = some (.slice sp np cp) := by rw [← hW]; simp
  have l1 : w0.cell? ⟨w.heap.size + 1, 1, none⟩ = some (.slice sp' np' cp') := by rw [← hW]; simp
  have k2 : w0.cell? ⟨w.heap.size, 2, none⟩ = some (.slice sm nm cm) := by rw [← hW]; simp
  have l2 : w0.cell? ⟨w.heap.size + 1, 2, none⟩ = some (.slice sm' nm' cm') := by rw [← hW]; simp
  have k3 : w0.cell? ⟨w.heap.size, 3, none⟩ = some (.slice ss ns cs) := by rw [← hW]; simp
  have l3 : w0.cell? ⟨w.heap.size + 1, 3, none⟩ = some (.slice ss' ns' cs') := by rw [← hW]; simp
  have k4 : w0.cell? ⟨w.heap.size, 4, none⟩ = some (.slice sa na ca) := by rw [← hW]; simp
  have l4 : w0.cell? ⟨w.heap.size + 1, 4, none⟩ = some (.slice sa' na' ca') := by rw [← hW]; simp
  have k5 : w0.cell? ⟨w.heap.size, 5, none⟩ = some (.slice sb nb cb) := by rw [← hW]; simp
  have l5 : w0.cell? ⟨w.heap.size + 1, 5, none⟩ = some (.slice sb' nb' cb') := by rw [← hW]; simp
  have hlt : w.heap.size + 1 < w0.heap.size := by rw [← hW]; simp
  have hB : Below w.heap.size w w0 := by rw [← hW]; exact (box_below _ _).alloc (by simp) _
  clear hW
  refine (l00Same_any _ _ P P' _ (H.out.below hB).parts.1 (H'.out.below hB).parts.1).mono ?_
  rintro e w1 ⟨rfl, qn, hqn⟩
  have hb : Below w0.heap.size w0 w1 := by rw [hqn]; exact below_dn _ _
  clear hqn
  replace k1 := (hb.cell (p := ⟨w.heap.size, 1, none⟩) (by show w.heap.size < _; omega)).trans k1
  replace l1 := (hb.cell (p := ⟨w.heap.size + 1, 1, none⟩) hlt).trans l1
  replace k2 := (hb.cell (p := ⟨w.heap.size, 2, none⟩) (by show w.heap.size < _; omega)).trans k2
  replace l2 := (hb.cell (p := ⟨w.heap.size + 1, 2, none⟩) hlt).trans l2
  replace k3 := (hb.cell (p := ⟨w.heap.size, 3, none⟩) (by show w.heap.size < _; omega)).trans k3
  replace l3 := (hb.cell (p := ⟨w.heap.size + 1, 3, none⟩) hlt).trans l3
  replace k4 := (hb.cell (p := ⟨w.heap.size, 4, none⟩) (by show w.heap.size < _; omega)).trans k4
  replace l4 := (hb.cell (p := ⟨w.heap.size + 1, 4, none⟩) hlt).trans l4
  replace k5 := (hb.cell (p := ⟨w.heap.size, 5, none⟩) (by show w.heap.size < _; omega)).trans k5
  replace l5 := (hb.cell (p := ⟨w.heap.size + 1, 5, none⟩) hlt).trans l5
  replace hlt := Nat.lt_of_lt_of_le hlt hb.size
  replace hB := below_step hB hb hB.size
  clear hb
  cases d0 : decide (P = P')
  · have HX := Lib.hid (show snB x x P P' R R' n T n' T' A A' B B' = false by rw [snB, d0]; simp)
    clear d0
    go_wp2
    go_ret
    exact ⟨ret_bool HX.out.symm, hB⟩
  go_wp2_with fail
  refine (specSameM_any _ R _ R' _ (H.out.below hB).parts.2.1 (H'.out.below hB).parts.2.1).mono ?_
  rintro e w2 ⟨rfl, hb⟩
  replace k1 := (hb.cell (p := ⟨w.heap.size, 1, none⟩) (by show w.heap.size < _; omega)).trans k1
  replace l1 := (hb.cell (p := ⟨w.heap.size + 1, 1, none⟩) hlt).trans l1
  replace k2 := (hb.cell (p := ⟨w.heap.size, 2, none⟩) (by show w.heap.size < _; omega)).trans k2
  replace l2 := (hb.cell (p := ⟨w.heap.size + 1, 2, none⟩) hlt).trans l2
  replace k3 := (hb.cell (p := ⟨w.heap.size, 3, none⟩) (by show w.heap.size < _; omega)).trans k3
  replace l3 := (hb.cell (p := ⟨w.heap.size + 1, 3, none⟩) hlt).trans l3
  replace k4 := (hb.cell (p := ⟨w.heap.size, 4, none⟩) (by show w.heap.size < _; omega)).trans k4
  replace l4 := (hb.cell (p := ⟨w.heap.size + 1, 4, none⟩) hlt).trans l4
  replace k5 := (hb.cell (p := ⟨w.heap.size, 5, none⟩) (by show w.heap.size < _; omega)).trans k5
  replace l5 := (hb.cell (p := ⟨w.heap.size + 1, 5, none⟩) hlt).trans l5
  replace hlt := Nat.lt_of_lt_of_le hlt hb.size
  replace hB := below_step hB hb hB.size
  clear hb
  cases d1 : decide (R = R')
  · have HX := Lib.hid (show snB x x P P' R R' n T n' T' A A' B B' = false by rw [snB, d0, d1]; simp)
    clear d0 d1
    go_wp2
    go_ret
    exact ⟨ret_bool HX.out.symm, hB⟩
  go_wp2_with fail
  refine (specSameSync_any _ n T _ n' T' _ (H.out.below hB).parts.2.2.1 (H'.out.below hB).parts.2.2.1).mono ?_
  rintro e w3 ⟨rfl, hb⟩
  replace k1 := (hb.cell (p := ⟨w.heap.size, 1, none⟩) (by show w.heap.size < _; omega)).trans k1
  replace l1 := (hb.cell (p := ⟨w.heap.size + 1, 1, none⟩) hlt).trans l1
  replace k2 := (hb.cell (p := ⟨w.heap.size, 2, none⟩) (by show w.heap.size < _; omega)).trans k2
  replace l2 := (hb.cell (p := ⟨w.heap.size + 1, 2, none⟩) hlt).trans l2
  replace k3 := (hb.cell (p := ⟨w.heap.size, 3, none⟩) (by show w.heap.size < _; omega)).trans k3
  replace l3 := (hb.cell (p := ⟨w.heap.size + 1, 3, none⟩) hlt).trans l3
  replace k4 := (hb.cell (p := ⟨w.heap.size, 4, none⟩) (by show w.heap.size < _; omega)).trans k4
  replace l4 := (hb.cell (p := ⟨w.heap.size + 1, 4, none⟩) hlt).trans l4
  replace k5 := (hb.cell (p := ⟨w.heap.size, 5, none⟩) (by show w.heap.size < _; omega)).trans k5
  replace l5 := (hb.cell (p := ⟨w.heap.size + 1, 5, none⟩) hlt).trans l5
  replace hlt := Nat.lt_of_lt_of_le hlt hb.size
  replace hB := below_step hB hb hB.size
  clear hb
  cases d2 : sameT n T n' T'
  · have HX := Lib.hid (show snB x x P P' R R' n T n' T' A A' B B' = false by rw [snB, d0, d1, d2]; simp)
    clear d0 d1 d2
    go_wp2
    go_ret
    exact ⟨ret_bool HX.out.symm, hB⟩
  go_wp2_with fail
  refine (specSameP_any _ _ A B _ _ A' B' _ (H.out.below hB).parts.2.2.2 (H'.out.below hB).parts.2.2.2).mono ?_
  rintro e w4 ⟨rfl, hb⟩
  replace k1 := (hb.cell (p := ⟨w.heap.size, 1, none⟩) (by show w.heap.size < _; omega)).trans k1
  replace l1 := (hb.cell (p := ⟨w.heap.size + 1, 1, none⟩) hlt).trans l1
  replace k2 := (hb.cell (p := ⟨w.heap.size, 2, none⟩) (by show w.heap.size < _; omega)).trans k2
  replace l2 := (hb.cell (p := ⟨w.heap.size + 1, 2, none⟩) hlt).trans l2
  replace k3 := (hb.cell (p := ⟨w.heap.size, 3, none⟩) (by show w.heap.size < _; omega)).trans k3
  replace l3 := (hb.cell (p := ⟨w.heap.size + 1, 3, none⟩) hlt).trans l3
  replace k4 := (hb.cell (p := ⟨w.heap.size, 4, none⟩) (by show w.heap.size < _; omega)).trans k4
  replace l4 := (hb.cell (p := ⟨w.heap.size + 1, 4, none⟩) hlt).trans l4
  replace k5 := (hb.cell (p := ⟨w.heap.size, 5, none⟩) (by show w.heap.size < _; omega)).trans k5
  replace l5 := (hb.cell (p := ⟨w.heap.size + 1, 5, none⟩) hlt).trans l5
  replace hlt := Nat.lt_of_lt_of_le hlt hb.size
  replace hB := below_step hB hb hB.size
  clear hb
  cases d3 : (decide (A = A') && decide (B = B'))
  · have HX := Lib.hid (show snB x x P P' R R' n T n' T' A A' B B' = false by rw [snB, d0, d1, d2, d3]; simp)
    clear d0 d1 d2 d3
    go_wp2
    go_ret
    exact ⟨ret_bool HX.out.symm, hB⟩
  have HX := Lib.hid (show snB x x P P' R R' n T n' T' A A' B B' = true by rw [snB, d0, d1, d2, d3]; simp)
  clear d0 d1 d2 d3
  go_wp2
  go_ret
  exact ⟨ret_bool HX.out.symm, hB⟩

set_option maxHeartbeats 4000000 in
theorem implSameN_any (vp vm vs va vb : Value) (x : Int) (P : List Int) (R : List (List Int)) (n : Nat) (T A B : List Th) (vp' vm' vs' va' vb' : Value) (y : Int) (P' : List Int) (R' : List (List Int)) (n' : Nat) (T' A' B' : List Th) (w : World) (h : RdN w vp vm vs va vb P R n T A B) (h' : RdN w vp' vm' vs' va' vb' P' R' n' T' A' B') :
    Calls Try.prog 7 #[.agg #[.int .i64 x, vp, vm, vs, va, vb], .agg #[.int .i64 y, vp', vm', vs', va', vb']] w fun e w' => e = .returned (.bool (snB x y P P' R R' n T n' T' A A' B B')) ∧ Below w.heap.size w w' := by
  obtain ⟨sp, np, cp, sm, nm, cm, ss, ns, cs, sa, na, ca, sb, nb, cb, rfl, rfl, rfl, rfl, rfl⟩ := h.form'
  obtain ⟨sp', np', cp', sm', nm', cm', ss', ns', cs', sa', na', ca', sb', nb', cb', rfl, rfl, rfl, rfl, rfl⟩ := h'.form'
  have H := Lib.hid h
  have H' := Lib.hid h'
  clear h h'
  by_cases hx : x = y
  rotate_left
  · have HX := Lib.hid (show snB x y P P' R R' n T n' T' A A' B B' = false by simp [snB, hx])
    go_enter Try.func7, Try.ntmps7
    go_wp2
    go_ret
    exact ⟨ret_bool HX.out.symm, (box_below _ _).alloc (by simp) _⟩
  subst hx
  go_enter Try.func7, Try.ntmps7
  go_wp2_with fail
  generalize hW : World.alloc (World.alloc w _) _ = w0
  have k1 : w0.cell? ⟨w.heap.size, 1, none⟩ = some (.slice sp np cp) := by rw [← hW]; simp
  have l1 : w0.cell? ⟨w.heap.size + 1, 1, none⟩ = some (.slice sp' np' cp') := by rw [← hW]; simp
  have k2 : w0.cell? ⟨w.heap.size, 2, none⟩ = some (.slice sm nm cm) := by rw [← hW]; simp
  have l2 : w0.cell? ⟨w.heap.size + 1, 2, none⟩ = some (.slice sm' nm' cm') := by rw [← hW]; simp
  have k3 : w0.cell? ⟨w.heap.size, 3, none⟩ = some (.slice ss ns cs) := by rw [← hW]; simp
  have l3 : w0.cell? ⟨w.heap.size + 1, 3, none⟩ = some (.slice ss' ns' cs') := by rw [← hW]; simp
  have k4 : w0.cell? ⟨w.heap.size, 4, none⟩ = some (.slice sa na ca) := by rw [← hW]; simp
  have l4 : w0.cell? ⟨w.heap.size + 1, 4, none⟩ = some (.slice sa' na' ca') := by rw [← hW]; simp
  have k5 : w0.cell? ⟨w.heap.size, 5, none⟩ = some (.slice sb nb cb) := by rw [← hW]; simp
  have l5 : w0.cell? ⟨w.heap.size + 1, 5, none⟩ = some (.slice sb' nb' cb') := by rw [← hW]; simp
  have hlt : w.heap.size + 1 < w0.heap.size := by rw [← hW]; simp
  have hB : Below w.heap.size w w0 := by rw [← hW]; exact (box_below _ _).alloc (by simp) _
  clear hW
  refine (sameNumbers_any _ _ P P' _ (H.out.below hB).parts.1 (H'.out.below hB).parts.1).mono ?_
  rintro e w1 ⟨rfl, qn, hqn⟩
  have hb : Below w0.heap.size w0 w1 := by rw [hqn]; exact below_dn _ _
  clear hqn
  replace k1 := (hb.cell (p := ⟨w.heap.size, 1, none⟩) (by show w.heap.size < _; omega)).trans k1
  replace l1 := (hb.cell (p := ⟨w.heap.size + 1, 1, none⟩) hlt).trans l1
  replace k2 := (hb.cell (p := ⟨w.heap.size, 2, none⟩) (by show w.heap.size < _; omega)).trans k2
  replace l2 := (hb.cell (p := ⟨w.heap.size + 1, 2, none⟩) hlt).trans l2
  replace k3 := (hb.cell (p := ⟨w.heap.size, 3, none⟩) (by show w.heap.size < _; omega)).trans k3
  replace l3 := (hb.cell (p := ⟨w.heap.size + 1, 3, none⟩) hlt).trans l3
  replace k4 := (hb.cell (p := ⟨w.heap.size, 4, none⟩) (by show w.heap.size < _; omega)).trans k4
  replace l4 := (hb.cell (p := ⟨w.heap.size + 1, 4, none⟩) hlt).trans l4
  replace k5 := (hb.cell (p := ⟨w.heap.size, 5, none⟩) (by show w.heap.size < _; omega)).trans k5
  replace l5 := (hb.cell (p := ⟨w.heap.size + 1, 5, none⟩) hlt).trans l5
  replace hlt := Nat.lt_of_lt_of_le hlt hb.size
  replace hB := below_step hB hb hB.size
  clear hb
  cases d0 : decide (P = P')
  · have HX := Lib.hid (show snB x x P P' R R' n T n' T' A A' B B' = false by rw [snB, d0]; simp)
    clear d0
    go_wp2
    go_ret
    exact ⟨ret_bool HX.out.symm, hB⟩
  go_wp2_with fail
  refine (implSameM_any _ R _ R' _ (H.out.below hB).parts.2.1 (H'.out.below hB).parts.2.1).mono ?_
  rintro e w2 ⟨rfl, hb⟩
  replace k1 := (hb.cell (p := ⟨w.heap.size, 1, none⟩) (by show w.heap.size < _; omega)).trans k1
  replace l1 := (hb.cell (p := ⟨w.heap.size + 1, 1, none⟩) hlt).trans l1
  replace k2 := (hb.cell (p := ⟨w.heap.size, 2, none⟩) (by show w.heap.size < _; omega)).trans k2
  replace l2 := (hb.cell (p := ⟨w.heap.size + 1, 2, none⟩) hlt).trans l2
  replace k3 := (hb.cell (p := ⟨w.heap.size, 3, none⟩) (by show w.heap.size < _; omega)).trans k3
  replace l3 := (hb.cell (p := ⟨w.heap.size + 1, 3, none⟩) hlt).trans l3
  replace k4 := (hb.cell (p := ⟨w.heap.size, 4, none⟩) (by show w.heap.size < _; omega)).trans k4
  replace l4 := (hb.cell (p := ⟨w.heap.size + 1, 4, none⟩) hlt).trans l4
  replace k5 := (hb.cell (p := ⟨w.heap.size, 5, none⟩) (by show w.heap.size < _; omega)).trans k5
  replace l5 := (hb.cell (p := ⟨w.heap.size + 1, 5, none⟩) hlt).trans l5
  replace hlt := Nat.lt_of_lt_of_le hlt hb.size
  replace hB := below_step hB hb hB.size
  clear hb
  cases d1 : decide (R = R')
  · have HX := Lib.hid (show snB x x P P' R R' n T n' T' A A' B B' = false by rw [snB, d0, d1]; simp)
    clear d0 d1
    go_wp2
    go_ret
    exact ⟨ret_bool HX.out.symm, hB⟩
  go_wp2_with fail
  refine (implSameSync_any _ n T _ n' T' _ (H.out.below hB).parts.2.2.1 (H'.out.below hB).parts.2.2.1).mono ?_
  rintro e w3 ⟨rfl, hb⟩
  replace k1 := (hb.cell (p := ⟨w.heap.size, 1, none⟩) (by show w.heap.size < _; omega)).trans k1
  replace l1 := (hb.cell (p := ⟨w.heap.size + 1, 1, none⟩) hlt).trans l1
  replace k2 := (hb.cell (p := ⟨w.heap.size, 2, none⟩) (by show w.heap.size < _; omega)).trans k2
  replace l2 := (hb.cell (p := ⟨w.heap.size + 1, 2, none⟩) hlt).trans l2
  replace k3 := (hb.cell (p := ⟨w.heap.size, 3, none⟩) (by show w.heap.size < _; omega)).trans k3
  replace l3 := (hb.cell (p := ⟨w.heap.size + 1, 3, none⟩) hlt).trans l3
  replace k4 := (hb.cell (p := ⟨w.heap.size, 4, none⟩) (by show w.heap.size < _; omega)).trans k4
  replace l4 := (hb.cell (p := ⟨w.heap.size + 1, 4, none⟩) hlt).trans l4
  replace k5 := (hb.cell (p := ⟨w.heap.size, 5, none⟩) (by show w.heap.size < _; omega)).trans k5
  replace l5 := (hb.cell (p := ⟨w.heap.size + 1, 5, none⟩) hlt).trans l5
  replace hlt := Nat.lt_of_lt_of_le hlt hb.size
  replace hB := below_step hB hb hB.size
  clear hb
  cases d2 : sameT n T n' T'
  · have HX := Lib.hid (show snB x x P P' R R' n T n' T' A A' B B' = false by rw [snB, d0, d1, d2]; simp)
    clear d0 d1 d2
    go_wp2
    go_ret
    exact ⟨ret_bool HX.out.symm, hB⟩
  go_wp2_with fail
  refine (implSameP_any _ _ A B _ _ A' B' _ (H.out.below hB).parts.2.2.2 (H'.out.below hB).parts.2.2.2).mono ?_
  rintro e w4 ⟨rfl, hb⟩
  replace k1 := (hb.cell (p := ⟨w.heap.size, 1, none⟩) (by show w.heap.size < _; omega)).trans k1
  replace l1 := (hb.cell (p := ⟨w.heap.size + 1, 1, none⟩) hlt).trans l1
  replace k2 := (hb.cell (p := ⟨w.heap.size, 2, none⟩) (by show w.heap.size < _; omega)).trans k2
  replace l2 := (hb.cell (p := ⟨w.heap.size + 1, 2, none⟩) hlt).trans l2
  replace k3 := (hb.cell (p := ⟨w.heap.size, 3, none⟩) (by show w.heap.size < _; omega)).trans k3
  replace l3 := (hb.cell (p := ⟨w.heap.size + 1, 3, none⟩) hlt).trans l3
  replace k4 := (hb.cell (p := ⟨w.heap.size, 4, none⟩) (by show w.heap.size < _; omega)).trans k4
  replace l4 := (hb.cell (p := ⟨w.heap.size + 1, 4, none⟩) hlt).trans l4
  replace k5 := (hb.cell (p := ⟨w.heap.size, 5, none⟩) (by show w.heap.size < _; omega)).trans k5
  replace l5 := (hb.cell (p := ⟨w.heap.size + 1, 5, none⟩) hlt).trans l5
  replace hlt := Nat.lt_of_lt_of_le hlt hb.size
  replace hB := below_step hB hb hB.size
  clear hb
  cases d3 : (decide (A = A') && decide (B = B'))
  · have HX := Lib.hid (show snB x x P P' R R' n T n' T' A A' B B' = false by rw [snB, d0, d1, d2, d3]; simp)
    clear d0 d1 d2 d3
    go_wp2
    go_ret
    exact ⟨ret_bool HX.out.symm, hB⟩
  have HX := Lib.hid (show snB x x P P' R R' n T n' T' A A' B B' = true by rw [snB, d0, d1, d2, d3]; simp)
  clear d0 d1 d2 d3
  go_wp2
  go_ret
  exact ⟨ret_bool HX.out.symm, hB⟩
end Go.Proofs.Ytdagakjeefhimaa
