/-
  Proved here: the law FnExactSameNotation returns true for all inputs. No condition.
-/
import Derived.Test.YtdagakjeefhimaaN3
import Derived.Deep.RegionHeld3
namespace Go.Proofs.Ytdagakjeefhimaa
open Go.ChangeShapes Go.WideShapes Go.ChangeAt Go.RowKit


set_option maxHeartbeats 4000000 in
theorem fnExactSameNotation_any0 (W : World) (x0 : Int) (vp0 vm0 vs0 va0 vb0 : Value) (P0 : List Int) (R0 : List (List Int)) (n0 : Nat) (T0 A0 B0 : List Th) (hA0 : RdN W vp0 vm0 vs0 va0 vb0 P0 R0 n0 T0 A0 B0) (x1 : Int) (vp1 vm1 vs1 va1 vb1 : Value) (P1 : List Int) (R1 : List (List Int)) (n1 : Nat) (T1 A1 B1 : List Th) (hA1 : RdN W vp1 vm1 vs1 va1 vb1 P1 R1 n1 T1 A1 B1) : Calls Try.prog 3 #[.agg #[.int .i64 x0, vp0, vm0, vs0, va0, vb0], .agg #[.int .i64 x1, vp1, vm1, vs1, va1, vb1]] W fun e w' => e = .returned (.bool true) ∧ Below W.heap.size W w' := by
  obtain ⟨sp0, np0, cp0, sm0, nm0, cm0, ss0, ns0, cs0, sa0, na0, ca0, sb0, nb0, cb0, rfl, rfl, rfl, rfl, rfl⟩ := hA0.form'
  obtain ⟨sp1, np1, cp1, sm1, nm1, cm1, ss1, ns1, cs1, sa1, na1, ca1, sb1, nb1, cb1, rfl, rfl, rfl, rfl, rfl⟩ := hA1.form'
  have hB : Below W.heap.size W W := Below.refl _ _
  go_enter Try.func3, Try.ntmps3
  go_wp2_with fail
  generalize hW : (World.alloc (World.alloc W _) _) = w1
  have hb : Below W.heap.size W w1 := by rw [← hW]; exact ((Below.refl _ _).alloc (Nat.le_refl _) _).alloc (by simp) _
  have hz_1 : W.heap.size + 2 ≤ w1.heap.size := by rw [← hW]; simp
  have cb_aA_0 : w1.cell? ⟨W.heap.size, 0, none⟩ = some (.int .i64 x0) := by rw [← hW]; simp
  have cb_aA_1 : w1.cell? ⟨W.heap.size, 1, none⟩ = some (.slice sp0 np0 cp0) := by rw [← hW]; simp
  have cb_aA_2 : w1.cell? ⟨W.heap.size, 2, none⟩ = some (.slice sm0 nm0 cm0) := by rw [← hW]; simp
  have cb_aA_3 : w1.cell? ⟨W.heap.size, 3, none⟩ = some (.slice ss0 ns0 cs0) := by rw [← hW]; simp
  have cb_aA_4 : w1.cell? ⟨W.heap.size, 4, none⟩ = some (.slice sa0 na0 ca0) := by rw [← hW]; simp
  have cb_aA_5 : w1.cell? ⟨W.heap.size, 5, none⟩ = some (.slice sb0 nb0 cb0) := by rw [← hW]; simp
  have lt_aA : W.heap.size < w1.heap.size := by omega
  have cb_aB_0 : w1.cell? ⟨W.heap.size + 1, 0, none⟩ = some (.int .i64 x1) := by rw [← hW]; simp
  have cb_aB_1 : w1.cell? ⟨W.heap.size + 1, 1, none⟩ = some (.slice sp1 np1 cp1) := by rw [← hW]; simp
  have cb_aB_2 : w1.cell? ⟨W.heap.size + 1, 2, none⟩ = some (.slice sm1 nm1 cm1) := by rw [← hW]; simp
  have cb_aB_3 : w1.cell? ⟨W.heap.size + 1, 3, none⟩ = some (.slice ss1 ns1 cs1) := by rw [← hW]; simp
  have cb_aB_4 : w1.cell? ⟨W.heap.size + 1, 4, none⟩ = some (.slice sa1 na1 ca1) := by rw [← hW]; simp
  have cb_aB_5 : w1.cell? ⟨W.heap.size + 1, 5, none⟩ = some (.slice sb1 nb1 cb1) := by rw [← hW]; simp
  have lt_aB : W.heap.size + 1 < w1.heap.size := by omega
  clear hW
  have hs_1 := hb.size
  replace hB := below_step hB hb hB.size
  clear hb
  with_reducible refine (szNotation_r _ _ _ _ _ x0 P0 R0 n0 T0 A0 B0 (1048576) _ (hA0.below hB) (by omega) (by omega)).mono ?_
  rintro e w2 ⟨rz1, rfl, hr1_1, hr2_1, hr3_1, hb⟩
  have hs_2 := hb.size
  replace cb_aA_0 := (hb.cell (p := ⟨W.heap.size, 0, none⟩) lt_aA).trans cb_aA_0
  replace cb_aA_1 := (hb.cell (p := ⟨W.heap.size, 1, none⟩) lt_aA).trans cb_aA_1
  replace cb_aA_2 := (hb.cell (p := ⟨W.heap.size, 2, none⟩) lt_aA).trans cb_aA_2
  replace cb_aA_3 := (hb.cell (p := ⟨W.heap.size, 3, none⟩) lt_aA).trans cb_aA_3
  replace cb_aA_4 := (hb.cell (p := ⟨W.heap.size, 4, none⟩) lt_aA).trans cb_aA_4
  replace cb_aA_5 := (hb.cell (p := ⟨W.heap.size, 5, none⟩) lt_aA).trans cb_aA_5
  replace lt_aA := Nat.lt_of_lt_of_le lt_aA hb.size
  replace cb_aB_0 := (hb.cell (p := ⟨W.heap.size + 1, 0, none⟩) lt_aB).trans cb_aB_0
  replace cb_aB_1 := (hb.cell (p := ⟨W.heap.size + 1, 1, none⟩) lt_aB).trans cb_aB_1
  replace cb_aB_2 := (hb.cell (p := ⟨W.heap.size + 1, 2, none⟩) lt_aB).trans cb_aB_2
  replace cb_aB_3 := (hb.cell (p := ⟨W.heap.size + 1, 3, none⟩) lt_aB).trans cb_aB_3
  replace cb_aB_4 := (hb.cell (p := ⟨W.heap.size + 1, 4, none⟩) lt_aB).trans cb_aB_4
  replace cb_aB_5 := (hb.cell (p := ⟨W.heap.size + 1, 5, none⟩) lt_aB).trans cb_aB_5
  replace lt_aB := Nat.lt_of_lt_of_le lt_aB hb.size
  replace hB := below_step hB hb hB.size
  clear hb
  by_cases hgz_1 : rz1 < 0
  · go_wp2
    go_ret
    exact ⟨rfl, hB⟩
  have hsm_1 : R0.length + sumLen R0 R0.length ≤ 1048576 := by have := hr3_1 (by omega); omega
  clear hr3_1
  go_wp2_with fail
  with_reducible refine (szNotation_r _ _ _ _ _ x1 P1 R1 n1 T1 A1 B1 (rz1) _ (hA1.below hB) (by omega) (by omega)).mono ?_
  rintro e w3 ⟨rz2, rfl, hr1_2, hr2_2, hr3_2, hb⟩
  have hs_3 := hb.size
  replace cb_aA_0 := (hb.cell (p := ⟨W.heap.size, 0, none⟩) lt_aA).trans cb_aA_0
  replace cb_aA_1 := (hb.cell (p := ⟨W.heap.size, 1, none⟩) lt_aA).trans cb_aA_1
  replace cb_aA_2 := (hb.cell (p := ⟨W.heap.size, 2, none⟩) lt_aA).trans cb_aA_2
  replace cb_aA_3 := (hb.cell (p := ⟨W.heap.size, 3, none⟩) lt_aA).trans cb_aA_3
  replace cb_aA_4 := (hb.cell (p := ⟨W.heap.size, 4, none⟩) lt_aA).trans cb_aA_4
  replace cb_aA_5 := (hb.cell (p := ⟨W.heap.size, 5, none⟩) lt_aA).trans cb_aA_5
  replace lt_aA := Nat.lt_of_lt_of_le lt_aA hb.size
  replace cb_aB_0 := (hb.cell (p := ⟨W.heap.size + 1, 0, none⟩) lt_aB).trans cb_aB_0
  replace cb_aB_1 := (hb.cell (p := ⟨W.heap.size + 1, 1, none⟩) lt_aB).trans cb_aB_1
  replace cb_aB_2 := (hb.cell (p := ⟨W.heap.size + 1, 2, none⟩) lt_aB).trans cb_aB_2
  replace cb_aB_3 := (hb.cell (p := ⟨W.heap.size + 1, 3, none⟩) lt_aB).trans cb_aB_3
  replace cb_aB_4 := (hb.cell (p := ⟨W.heap.size + 1, 4, none⟩) lt_aB).trans cb_aB_4
  replace cb_aB_5 := (hb.cell (p := ⟨W.heap.size + 1, 5, none⟩) lt_aB).trans cb_aB_5
  replace lt_aB := Nat.lt_of_lt_of_le lt_aB hb.size
  replace hB := below_step hB hb hB.size
  clear hb
  by_cases hgz_2 : rz2 < 0
  · go_wp2
    go_ret
    exact ⟨rfl, hB⟩
  have hsm_2 : R1.length + sumLen R1 R1.length ≤ 1048576 := by have := hr3_2 (by omega); omega
  clear hr3_2
  go_wp2_with fail
  have hBd := hB.drew
  have hda := hA0.below hBd
  go_region_held3 (fun w' => w'.cell? ⟨W.heap.size, 0, none⟩ = some (.int .i64 x0) ∧ w'.cell? ⟨W.heap.size, 1, none⟩ = some (.slice sp0 np0 cp0) ∧ w'.cell? ⟨W.heap.size, 2, none⟩ = some (.slice sm0 nm0 cm0) ∧ w'.cell? ⟨W.heap.size, 3, none⟩ = some (.slice ss0 ns0 cs0) ∧ w'.cell? ⟨W.heap.size, 4, none⟩ = some (.slice sa0 na0 ca0) ∧ w'.cell? ⟨W.heap.size, 5, none⟩ = some (.slice sb0 nb0 cb0) ∧ w'.cell? ⟨W.heap.size + 1, 0, none⟩ = some (.int .i64 x1) ∧ w'.cell? ⟨W.heap.size + 1, 1, none⟩ = some (.slice sp1 np1 cp1) ∧ w'.cell? ⟨W.heap.size + 1, 2, none⟩ = some (.slice sm1 nm1 cm1) ∧ w'.cell? ⟨W.heap.size + 1, 3, none⟩ = some (.slice ss1 ns1 cs1) ∧ w'.cell? ⟨W.heap.size + 1, 4, none⟩ = some (.slice sa1 na1 ca1) ∧ w'.cell? ⟨W.heap.size + 1, 5, none⟩ = some (.slice sb1 nb1 cb1))
    (first | go_keep | (go_split_ands; exact ⟨(hba.cell (p := ⟨W.heap.size, 0, none⟩) lt_aA).trans (by assumption), (hba.cell (p := ⟨W.heap.size, 1, none⟩) lt_aA).trans (by assumption), (hba.cell (p := ⟨W.heap.size, 2, none⟩) lt_aA).trans (by assumption), (hba.cell (p := ⟨W.heap.size, 3, none⟩) lt_aA).trans (by assumption), (hba.cell (p := ⟨W.heap.size, 4, none⟩) lt_aA).trans (by assumption), (hba.cell (p := ⟨W.heap.size, 5, none⟩) lt_aA).trans (by assumption), (hba.cell (p := ⟨W.heap.size + 1, 0, none⟩) lt_aB).trans (by assumption), (hba.cell (p := ⟨W.heap.size + 1, 1, none⟩) lt_aB).trans (by assumption), (hba.cell (p := ⟨W.heap.size + 1, 2, none⟩) lt_aB).trans (by assumption), (hba.cell (p := ⟨W.heap.size + 1, 3, none⟩) lt_aB).trans (by assumption), (hba.cell (p := ⟨W.heap.size + 1, 4, none⟩) lt_aB).trans (by assumption), (hba.cell (p := ⟨W.heap.size + 1, 5, none⟩) lt_aB).trans (by assumption)⟩) | (go_split_ands; exact ⟨(hbb.cell (p := ⟨W.heap.size, 0, none⟩) (Nat.lt_of_lt_of_le lt_aA hba.size)).trans (by assumption), (hbb.cell (p := ⟨W.heap.size, 1, none⟩) (Nat.lt_of_lt_of_le lt_aA hba.size)).trans (by assumption), (hbb.cell (p := ⟨W.heap.size, 2, none⟩) (Nat.lt_of_lt_of_le lt_aA hba.size)).trans (by assumption), (hbb.cell (p := ⟨W.heap.size, 3, none⟩) (Nat.lt_of_lt_of_le lt_aA hba.size)).trans (by assumption), (hbb.cell (p := ⟨W.heap.size, 4, none⟩) (Nat.lt_of_lt_of_le lt_aA hba.size)).trans (by assumption), (hbb.cell (p := ⟨W.heap.size, 5, none⟩) (Nat.lt_of_lt_of_le lt_aA hba.size)).trans (by assumption), (hbb.cell (p := ⟨W.heap.size + 1, 0, none⟩) (Nat.lt_of_lt_of_le lt_aB hba.size)).trans (by assumption), (hbb.cell (p := ⟨W.heap.size + 1, 1, none⟩) (Nat.lt_of_lt_of_le lt_aB hba.size)).trans (by assumption), (hbb.cell (p := ⟨W.heap.size + 1, 2, none⟩) (Nat.lt_of_lt_of_le lt_aB hba.size)).trans (by assumption), (hbb.cell (p := ⟨W.heap.size + 1, 3, none⟩) (Nat.lt_of_lt_of_le lt_aB hba.size)).trans (by assumption), (hbb.cell (p := ⟨W.heap.size + 1, 4, none⟩) (Nat.lt_of_lt_of_le lt_aB hba.size)).trans (by assumption), (hbb.cell (p := ⟨W.heap.size + 1, 5, none⟩) (Nat.lt_of_lt_of_le lt_aB hba.size)).trans (by assumption)⟩) | (go_split_ands; exact ⟨(hbc.cell (p := ⟨W.heap.size, 0, none⟩) (Nat.lt_of_lt_of_le (Nat.lt_of_lt_of_le lt_aA hba.size) hbb.size)).trans (by assumption), (hbc.cell (p := ⟨W.heap.size, 1, none⟩) (Nat.lt_of_lt_of_le (Nat.lt_of_lt_of_le lt_aA hba.size) hbb.size)).trans (by assumption), (hbc.cell (p := ⟨W.heap.size, 2, none⟩) (Nat.lt_of_lt_of_le (Nat.lt_of_lt_of_le lt_aA hba.size) hbb.size)).trans (by assumption), (hbc.cell (p := ⟨W.heap.size, 3, none⟩) (Nat.lt_of_lt_of_le (Nat.lt_of_lt_of_le lt_aA hba.size) hbb.size)).trans (by assumption), (hbc.cell (p := ⟨W.heap.size, 4, none⟩) (Nat.lt_of_lt_of_le (Nat.lt_of_lt_of_le lt_aA hba.size) hbb.size)).trans (by assumption), (hbc.cell (p := ⟨W.heap.size, 5, none⟩) (Nat.lt_of_lt_of_le (Nat.lt_of_lt_of_le lt_aA hba.size) hbb.size)).trans (by assumption), (hbc.cell (p := ⟨W.heap.size + 1, 0, none⟩) (Nat.lt_of_lt_of_le (Nat.lt_of_lt_of_le lt_aB hba.size) hbb.size)).trans (by assumption), (hbc.cell (p := ⟨W.heap.size + 1, 1, none⟩) (Nat.lt_of_lt_of_le (Nat.lt_of_lt_of_le lt_aB hba.size) hbb.size)).trans (by assumption), (hbc.cell (p := ⟨W.heap.size + 1, 2, none⟩) (Nat.lt_of_lt_of_le (Nat.lt_of_lt_of_le lt_aB hba.size) hbb.size)).trans (by assumption), (hbc.cell (p := ⟨W.heap.size + 1, 3, none⟩) (Nat.lt_of_lt_of_le (Nat.lt_of_lt_of_le lt_aB hba.size) hbb.size)).trans (by assumption), (hbc.cell (p := ⟨W.heap.size + 1, 4, none⟩) (Nat.lt_of_lt_of_le (Nat.lt_of_lt_of_le lt_aB hba.size) hbb.size)).trans (by assumption), (hbc.cell (p := ⟨W.heap.size + 1, 5, none⟩) (Nat.lt_of_lt_of_le (Nat.lt_of_lt_of_le lt_aB hba.size) hbb.size)).trans (by assumption)⟩))
    (first | (go_at_call 6; (with_reducible refine (toNotation_any _ _ _ _ _ x0 P0 R0 n0 T0 A0 B0 _ hda (by assumption)).mono ?_); rintro e wa3 ⟨u1, u1b, u1c, u1d, u1e, rfl, hua, hba⟩; obtain ⟨sp_1, np_1, cp_1, sm_1, nm_1, cm_1, ss_1, ns_1, cs_1, sa_1, na_1, ca_1, sb_1, nb_1, cb_1, rfl, rfl, rfl, rfl, rfl⟩ := hua.rd.form'; have hdb := hA1.below (below_step hBd hba hBd.size)) | (go_at_call 6; (with_reducible refine (toNotation_any _ _ _ _ _ x1 P1 R1 n1 T1 A1 B1 _ hdb (by assumption)).mono ?_); rintro e wb3 ⟨u2, u2b, u2c, u2d, u2e, rfl, hub, hbb⟩; obtain ⟨sp_2, np_2, cp_2, sm_2, nm_2, cm_2, ss_2, ns_2, cs_2, sa_2, na_2, ca_2, sb_2, nb_2, cb_2, rfl, rfl, rfl, rfl, rfl⟩ := hub.rd.form'; have hua2 := hua.below hbb) | (go_at_call 5; (with_reducible refine (specSameN_any _ _ _ _ _ x0 P0 R0 n0 T0 A0 B0 _ _ _ _ _ x1 P1 R1 n1 T1 A1 B1 _ hua2.rd hub.rd).mono ?_); rintro e w4 ⟨rfl, hbc⟩))
  have hb : Below w3.heap.size w3 w4 := below_step (below_step (below_step (Below.refl _ _).drew hba (Nat.le_refl _)) hbb hba.size) hbc (Nat.le_trans hba.size hbb.size)
  clear hua hba hbb hda hBd hdb hub hua2 hbc
  have hs_4 := hb.size
  replace cb_aA_0 := (hb.cell (p := ⟨W.heap.size, 0, none⟩) lt_aA).trans cb_aA_0
  replace cb_aA_1 := (hb.cell (p := ⟨W.heap.size, 1, none⟩) lt_aA).trans cb_aA_1
  replace cb_aA_2 := (hb.cell (p := ⟨W.heap.size, 2, none⟩) lt_aA).trans cb_aA_2
  replace cb_aA_3 := (hb.cell (p := ⟨W.heap.size, 3, none⟩) lt_aA).trans cb_aA_3
  replace cb_aA_4 := (hb.cell (p := ⟨W.heap.size, 4, none⟩) lt_aA).trans cb_aA_4
  replace cb_aA_5 := (hb.cell (p := ⟨W.heap.size, 5, none⟩) lt_aA).trans cb_aA_5
  replace lt_aA := Nat.lt_of_lt_of_le lt_aA hb.size
  replace cb_aB_0 := (hb.cell (p := ⟨W.heap.size + 1, 0, none⟩) lt_aB).trans cb_aB_0
  replace cb_aB_1 := (hb.cell (p := ⟨W.heap.size + 1, 1, none⟩) lt_aB).trans cb_aB_1
  replace cb_aB_2 := (hb.cell (p := ⟨W.heap.size + 1, 2, none⟩) lt_aB).trans cb_aB_2
  replace cb_aB_3 := (hb.cell (p := ⟨W.heap.size + 1, 3, none⟩) lt_aB).trans cb_aB_3
  replace cb_aB_4 := (hb.cell (p := ⟨W.heap.size + 1, 4, none⟩) lt_aB).trans cb_aB_4
  replace cb_aB_5 := (hb.cell (p := ⟨W.heap.size + 1, 5, none⟩) lt_aB).trans cb_aB_5
  replace lt_aB := Nat.lt_of_lt_of_le lt_aB hb.size
  replace hB := below_step hB hb hB.size
  clear hb
  go_wp2_with fail
  with_reducible refine (toNotation_any _ _ _ _ _ x0 P0 R0 n0 T0 A0 B0 _ (hA0.below hB) (by assumption)).mono ?_
  rintro e w5 ⟨u3, u3b, u3c, u3d, u3e, rfl, h3, hb⟩
  have hs_5 := hb.size
  replace cb_aA_0 := (hb.cell (p := ⟨W.heap.size, 0, none⟩) lt_aA).trans cb_aA_0
  replace cb_aA_1 := (hb.cell (p := ⟨W.heap.size, 1, none⟩) lt_aA).trans cb_aA_1
  replace cb_aA_2 := (hb.cell (p := ⟨W.heap.size, 2, none⟩) lt_aA).trans cb_aA_2
  replace cb_aA_3 := (hb.cell (p := ⟨W.heap.size, 3, none⟩) lt_aA).trans cb_aA_3
  replace cb_aA_4 := (hb.cell (p := ⟨W.heap.size, 4, none⟩) lt_aA).trans cb_aA_4
  replace cb_aA_5 := (hb.cell (p := ⟨W.heap.size, 5, none⟩) lt_aA).trans cb_aA_5
  replace lt_aA := Nat.lt_of_lt_of_le lt_aA hb.size
  replace cb_aB_0 := (hb.cell (p := ⟨W.heap.size + 1, 0, none⟩) lt_aB).trans cb_aB_0
  replace cb_aB_1 := (hb.cell (p := ⟨W.heap.size + 1, 1, none⟩) lt_aB).trans cb_aB_1
  replace cb_aB_2 := (hb.cell (p := ⟨W.heap.size + 1, 2, none⟩) lt_aB).trans cb_aB_2
  replace cb_aB_3 := (hb.cell (p := ⟨W.heap.size + 1, 3, none⟩) lt_aB).trans cb_aB_3
  replace cb_aB_4 := (hb.cell (p := ⟨W.heap.size + 1, 4, none⟩) lt_aB).trans cb_aB_4
  replace cb_aB_5 := (hb.cell (p := ⟨W.heap.size + 1, 5, none⟩) lt_aB).trans cb_aB_5
  replace lt_aB := Nat.lt_of_lt_of_le lt_aB hb.size
  replace hB := below_step hB hb hB.size
  clear hb
  obtain ⟨sp_3, np_3, cp_3, sm_3, nm_3, cm_3, ss_3, ns_3, cs_3, sa_3, na_3, ca_3, sb_3, nb_3, cb_3, rfl, rfl, rfl, rfl, rfl⟩ := h3.rd.form'
  go_wp2_with fail
  generalize hW : (World.alloc w5 _) = w6
  have hb : Below w5.heap.size w5 w6 := by rw [← hW]; exact (Below.refl _ _).alloc (Nat.le_refl _) _
  have hz_6 : w5.heap.size + 1 ≤ w6.heap.size := by rw [← hW]; simp
  have cb_x0_0 : w6.cell? ⟨w5.heap.size, 0, none⟩ = some (.int .i64 x0) := by rw [← hW]; simp
  have cb_x0_1 : w6.cell? ⟨w5.heap.size, 1, none⟩ = some (.slice sp_3 np_3 cp_3) := by rw [← hW]; simp
  have cb_x0_2 : w6.cell? ⟨w5.heap.size, 2, none⟩ = some (.slice sm_3 nm_3 cm_3) := by rw [← hW]; simp
  have cb_x0_3 : w6.cell? ⟨w5.heap.size, 3, none⟩ = some (.slice ss_3 ns_3 cs_3) := by rw [← hW]; simp
  have cb_x0_4 : w6.cell? ⟨w5.heap.size, 4, none⟩ = some (.slice sa_3 na_3 ca_3) := by rw [← hW]; simp
  have cb_x0_5 : w6.cell? ⟨w5.heap.size, 5, none⟩ = some (.slice sb_3 nb_3 cb_3) := by rw [← hW]; simp
  have lt_x0 : w5.heap.size < w6.heap.size := by omega
  clear hW
  have hs_6 := hb.size
  replace h3 := h3.below hb
  replace cb_aA_0 := (hb.cell (p := ⟨W.heap.size, 0, none⟩) lt_aA).trans cb_aA_0
  replace cb_aA_1 := (hb.cell (p := ⟨W.heap.size, 1, none⟩) lt_aA).trans cb_aA_1
  replace cb_aA_2 := (hb.cell (p := ⟨W.heap.size, 2, none⟩) lt_aA).trans cb_aA_2
  replace cb_aA_3 := (hb.cell (p := ⟨W.heap.size, 3, none⟩) lt_aA).trans cb_aA_3
  replace cb_aA_4 := (hb.cell (p := ⟨W.heap.size, 4, none⟩) lt_aA).trans cb_aA_4
  replace cb_aA_5 := (hb.cell (p := ⟨W.heap.size, 5, none⟩) lt_aA).trans cb_aA_5
  replace lt_aA := Nat.lt_of_lt_of_le lt_aA hb.size
  replace cb_aB_0 := (hb.cell (p := ⟨W.heap.size + 1, 0, none⟩) lt_aB).trans cb_aB_0
  replace cb_aB_1 := (hb.cell (p := ⟨W.heap.size + 1, 1, none⟩) lt_aB).trans cb_aB_1
  replace cb_aB_2 := (hb.cell (p := ⟨W.heap.size + 1, 2, none⟩) lt_aB).trans cb_aB_2
  replace cb_aB_3 := (hb.cell (p := ⟨W.heap.size + 1, 3, none⟩) lt_aB).trans cb_aB_3
  replace cb_aB_4 := (hb.cell (p := ⟨W.heap.size + 1, 4, none⟩) lt_aB).trans cb_aB_4
  replace cb_aB_5 := (hb.cell (p := ⟨W.heap.size + 1, 5, none⟩) lt_aB).trans cb_aB_5
  replace lt_aB := Nat.lt_of_lt_of_le lt_aB hb.size
  replace hB := below_step hB hb hB.size
  clear hb
  with_reducible refine (toNotation_any _ _ _ _ _ x1 P1 R1 n1 T1 A1 B1 _ (hA1.below hB) (by assumption)).mono ?_
  rintro e w7 ⟨u4, u4b, u4c, u4d, u4e, rfl, h4, hb⟩
  have hs_7 := hb.size
  replace h3 := h3.below hb
  replace cb_aA_0 := (hb.cell (p := ⟨W.heap.size, 0, none⟩) lt_aA).trans cb_aA_0
  replace cb_aA_1 := (hb.cell (p := ⟨W.heap.size, 1, none⟩) lt_aA).trans cb_aA_1
  replace cb_aA_2 := (hb.cell (p := ⟨W.heap.size, 2, none⟩) lt_aA).trans cb_aA_2
  replace cb_aA_3 := (hb.cell (p := ⟨W.heap.size, 3, none⟩) lt_aA).trans cb_aA_3
  replace cb_aA_4 := (hb.cell (p := ⟨W.heap.size, 4, none⟩) lt_aA).trans cb_aA_4
  replace cb_aA_5 := (hb.cell (p := ⟨W.heap.size, 5, none⟩) lt_aA).trans cb_aA_5
  replace lt_aA := Nat.lt_of_lt_of_le lt_aA hb.size
  replace cb_aB_0 := (hb.cell (p := ⟨W.heap.size + 1, 0, none⟩) lt_aB).trans cb_aB_0
  replace cb_aB_1 := (hb.cell (p := ⟨W.heap.size + 1, 1, none⟩) lt_aB).trans cb_aB_1
  replace cb_aB_2 := (hb.cell (p := ⟨W.heap.size + 1, 2, none⟩) lt_aB).trans cb_aB_2
  replace cb_aB_3 := (hb.cell (p := ⟨W.heap.size + 1, 3, none⟩) lt_aB).trans cb_aB_3
  replace cb_aB_4 := (hb.cell (p := ⟨W.heap.size + 1, 4, none⟩) lt_aB).trans cb_aB_4
  replace cb_aB_5 := (hb.cell (p := ⟨W.heap.size + 1, 5, none⟩) lt_aB).trans cb_aB_5
  replace lt_aB := Nat.lt_of_lt_of_le lt_aB hb.size
  replace cb_x0_0 := (hb.cell (p := ⟨w5.heap.size, 0, none⟩) lt_x0).trans cb_x0_0
  replace cb_x0_1 := (hb.cell (p := ⟨w5.heap.size, 1, none⟩) lt_x0).trans cb_x0_1
  replace cb_x0_2 := (hb.cell (p := ⟨w5.heap.size, 2, none⟩) lt_x0).trans cb_x0_2
  replace cb_x0_3 := (hb.cell (p := ⟨w5.heap.size, 3, none⟩) lt_x0).trans cb_x0_3
  replace cb_x0_4 := (hb.cell (p := ⟨w5.heap.size, 4, none⟩) lt_x0).trans cb_x0_4
  replace cb_x0_5 := (hb.cell (p := ⟨w5.heap.size, 5, none⟩) lt_x0).trans cb_x0_5
  replace lt_x0 := Nat.lt_of_lt_of_le lt_x0 hb.size
  replace hB := below_step hB hb hB.size
  clear hb
  obtain ⟨sp_4, np_4, cp_4, sm_4, nm_4, cm_4, ss_4, ns_4, cs_4, sa_4, na_4, ca_4, sb_4, nb_4, cb_4, rfl, rfl, rfl, rfl, rfl⟩ := h4.rd.form'
  go_wp2_with fail
  generalize hW : (World.alloc w7 _) = w8
  have hb : Below w7.heap.size w7 w8 := by rw [← hW]; exact (Below.refl _ _).alloc (Nat.le_refl _) _
  have hz_8 : w7.heap.size + 1 ≤ w8.heap.size := by rw [← hW]; simp
  have cb_x1_0 : w8.cell? ⟨w7.heap.size, 0, none⟩ = some (.int .i64 x1) := by rw [← hW]; simp
  have cb_x1_1 : w8.cell? ⟨w7.heap.size, 1, none⟩ = some (.slice sp_4 np_4 cp_4) := by rw [← hW]; simp
  have cb_x1_2 : w8.cell? ⟨w7.heap.size, 2, none⟩ = some (.slice sm_4 nm_4 cm_4) := by rw [← hW]; simp
  have cb_x1_3 : w8.cell? ⟨w7.heap.size, 3, none⟩ = some (.slice ss_4 ns_4 cs_4) := by rw [← hW]; simp
  have cb_x1_4 : w8.cell? ⟨w7.heap.size, 4, none⟩ = some (.slice sa_4 na_4 ca_4) := by rw [← hW]; simp
  have cb_x1_5 : w8.cell? ⟨w7.heap.size, 5, none⟩ = some (.slice sb_4 nb_4 cb_4) := by rw [← hW]; simp
  have lt_x1 : w7.heap.size < w8.heap.size := by omega
  clear hW
  have hs_8 := hb.size
  replace h3 := h3.below hb
  replace h4 := h4.below hb
  replace cb_aA_0 := (hb.cell (p := ⟨W.heap.size, 0, none⟩) lt_aA).trans cb_aA_0
  replace cb_aA_1 := (hb.cell (p := ⟨W.heap.size, 1, none⟩) lt_aA).trans cb_aA_1
  replace cb_aA_2 := (hb.cell (p := ⟨W.heap.size, 2, none⟩) lt_aA).trans cb_aA_2
  replace cb_aA_3 := (hb.cell (p := ⟨W.heap.size, 3, none⟩) lt_aA).trans cb_aA_3
  replace cb_aA_4 := (hb.cell (p := ⟨W.heap.size, 4, none⟩) lt_aA).trans cb_aA_4
  replace cb_aA_5 := (hb.cell (p := ⟨W.heap.size, 5, none⟩) lt_aA).trans cb_aA_5
  replace lt_aA := Nat.lt_of_lt_of_le lt_aA hb.size
  replace cb_aB_0 := (hb.cell (p := ⟨W.heap.size + 1, 0, none⟩) lt_aB).trans cb_aB_0
  replace cb_aB_1 := (hb.cell (p := ⟨W.heap.size + 1, 1, none⟩) lt_aB).trans cb_aB_1
  replace cb_aB_2 := (hb.cell (p := ⟨W.heap.size + 1, 2, none⟩) lt_aB).trans cb_aB_2
  replace cb_aB_3 := (hb.cell (p := ⟨W.heap.size + 1, 3, none⟩) lt_aB).trans cb_aB_3
  replace cb_aB_4 := (hb.cell (p := ⟨W.heap.size + 1, 4, none⟩) lt_aB).trans cb_aB_4
  replace cb_aB_5 := (hb.cell (p := ⟨W.heap.size + 1, 5, none⟩) lt_aB).trans cb_aB_5
  replace lt_aB := Nat.lt_of_lt_of_le lt_aB hb.size
  replace cb_x0_0 := (hb.cell (p := ⟨w5.heap.size, 0, none⟩) lt_x0).trans cb_x0_0
  replace cb_x0_1 := (hb.cell (p := ⟨w5.heap.size, 1, none⟩) lt_x0).trans cb_x0_1
  replace cb_x0_2 := (hb.cell (p := ⟨w5.heap.size, 2, none⟩) lt_x0).trans cb_x0_2
  replace cb_x0_3 := (hb.cell (p := ⟨w5.heap.size, 3, none⟩) lt_x0).trans cb_x0_3
  replace cb_x0_4 := (hb.cell (p := ⟨w5.heap.size, 4, none⟩) lt_x0).trans cb_x0_4
  replace cb_x0_5 := (hb.cell (p := ⟨w5.heap.size, 5, none⟩) lt_x0).trans cb_x0_5
  replace lt_x0 := Nat.lt_of_lt_of_le lt_x0 hb.size
  replace hB := below_step hB hb hB.size
  clear hb
  with_reducible refine (implSameN_any _ _ _ _ _ x0 P0 R0 n0 T0 A0 B0 _ _ _ _ _ x1 P1 R1 n1 T1 A1 B1 _ h3.rd h4.rd ).mono ?_
  rintro e w9 ⟨rfl, hb⟩
  have hs_9 := hb.size
  replace h3 := h3.below hb
  replace h4 := h4.below hb
  replace cb_aA_0 := (hb.cell (p := ⟨W.heap.size, 0, none⟩) lt_aA).trans cb_aA_0
  replace cb_aA_1 := (hb.cell (p := ⟨W.heap.size, 1, none⟩) lt_aA).trans cb_aA_1
  replace cb_aA_2 := (hb.cell (p := ⟨W.heap.size, 2, none⟩) lt_aA).trans cb_aA_2
  replace cb_aA_3 := (hb.cell (p := ⟨W.heap.size, 3, none⟩) lt_aA).trans cb_aA_3
  replace cb_aA_4 := (hb.cell (p := ⟨W.heap.size, 4, none⟩) lt_aA).trans cb_aA_4
  replace cb_aA_5 := (hb.cell (p := ⟨W.heap.size, 5, none⟩) lt_aA).trans cb_aA_5
  replace lt_aA := Nat.lt_of_lt_of_le lt_aA hb.size
  replace cb_aB_0 := (hb.cell (p := ⟨W.heap.size + 1, 0, none⟩) lt_aB).trans cb_aB_0
  replace cb_aB_1 := (hb.cell (p := ⟨W.heap.size + 1, 1, none⟩) lt_aB).trans cb_aB_1
  replace cb_aB_2 := (hb.cell (p := ⟨W.heap.size + 1, 2, none⟩) lt_aB).trans cb_aB_2
  replace cb_aB_3 := (hb.cell (p := ⟨W.heap.size + 1, 3, none⟩) lt_aB).trans cb_aB_3
  replace cb_aB_4 := (hb.cell (p := ⟨W.heap.size + 1, 4, none⟩) lt_aB).trans cb_aB_4
  replace cb_aB_5 := (hb.cell (p := ⟨W.heap.size + 1, 5, none⟩) lt_aB).trans cb_aB_5
  replace lt_aB := Nat.lt_of_lt_of_le lt_aB hb.size
  replace cb_x0_0 := (hb.cell (p := ⟨w5.heap.size, 0, none⟩) lt_x0).trans cb_x0_0
  replace cb_x0_1 := (hb.cell (p := ⟨w5.heap.size, 1, none⟩) lt_x0).trans cb_x0_1
  replace cb_x0_2 := (hb.cell (p := ⟨w5.heap.size, 2, none⟩) lt_x0).trans cb_x0_2
  replace cb_x0_3 := (hb.cell (p := ⟨w5.heap.size, 3, none⟩) lt_x0).trans cb_x0_3
  replace cb_x0_4 := (hb.cell (p := ⟨w5.heap.size, 4, none⟩) lt_x0).trans cb_x0_4
  replace cb_x0_5 := (hb.cell (p := ⟨w5.heap.size, 5, none⟩) lt_x0).trans cb_x0_5
  replace lt_x0 := Nat.lt_of_lt_of_le lt_x0 hb.size
  replace cb_x1_0 := (hb.cell (p := ⟨w7.heap.size, 0, none⟩) lt_x1).trans cb_x1_0
  replace cb_x1_1 := (hb.cell (p := ⟨w7.heap.size, 1, none⟩) lt_x1).trans cb_x1_1
  replace cb_x1_2 := (hb.cell (p := ⟨w7.heap.size, 2, none⟩) lt_x1).trans cb_x1_2
  replace cb_x1_3 := (hb.cell (p := ⟨w7.heap.size, 3, none⟩) lt_x1).trans cb_x1_3
  replace cb_x1_4 := (hb.cell (p := ⟨w7.heap.size, 4, none⟩) lt_x1).trans cb_x1_4
  replace cb_x1_5 := (hb.cell (p := ⟨w7.heap.size, 5, none⟩) lt_x1).trans cb_x1_5
  replace lt_x1 := Nat.lt_of_lt_of_le lt_x1 hb.size
  replace hB := below_step hB hb hB.size
  clear hb
  go_wp2
  have hBd := hB.drew
  have hda := hA0.below hBd
  have hxd := h3.below ((Below.refl _ _).drew : Below w9.heap.size w9 w9.drew)
  go_region_held3 (fun w' => w'.cell? ⟨W.heap.size, 0, none⟩ = some (.int .i64 x0) ∧ w'.cell? ⟨W.heap.size, 1, none⟩ = some (.slice sp0 np0 cp0) ∧ w'.cell? ⟨W.heap.size, 2, none⟩ = some (.slice sm0 nm0 cm0) ∧ w'.cell? ⟨W.heap.size, 3, none⟩ = some (.slice ss0 ns0 cs0) ∧ w'.cell? ⟨W.heap.size, 4, none⟩ = some (.slice sa0 na0 ca0) ∧ w'.cell? ⟨W.heap.size, 5, none⟩ = some (.slice sb0 nb0 cb0) ∧ w'.cell? ⟨w5.heap.size, 0, none⟩ = some (.int .i64 x0) ∧ w'.cell? ⟨w5.heap.size, 1, none⟩ = some (.slice sp_3 np_3 cp_3) ∧ w'.cell? ⟨w5.heap.size, 2, none⟩ = some (.slice sm_3 nm_3 cm_3) ∧ w'.cell? ⟨w5.heap.size, 3, none⟩ = some (.slice ss_3 ns_3 cs_3) ∧ w'.cell? ⟨w5.heap.size, 4, none⟩ = some (.slice sa_3 na_3 ca_3) ∧ w'.cell? ⟨w5.heap.size, 5, none⟩ = some (.slice sb_3 nb_3 cb_3))
    (first | go_keep | (go_split_ands; exact ⟨(hba.cell (p := ⟨W.heap.size, 0, none⟩) lt_aA).trans (by assumption), (hba.cell (p := ⟨W.heap.size, 1, none⟩) lt_aA).trans (by assumption), (hba.cell (p := ⟨W.heap.size, 2, none⟩) lt_aA).trans (by assumption), (hba.cell (p := ⟨W.heap.size, 3, none⟩) lt_aA).trans (by assumption), (hba.cell (p := ⟨W.heap.size, 4, none⟩) lt_aA).trans (by assumption), (hba.cell (p := ⟨W.heap.size, 5, none⟩) lt_aA).trans (by assumption), (hba.cell (p := ⟨w5.heap.size, 0, none⟩) lt_x0).trans (by assumption), (hba.cell (p := ⟨w5.heap.size, 1, none⟩) lt_x0).trans (by assumption), (hba.cell (p := ⟨w5.heap.size, 2, none⟩) lt_x0).trans (by assumption), (hba.cell (p := ⟨w5.heap.size, 3, none⟩) lt_x0).trans (by assumption), (hba.cell (p := ⟨w5.heap.size, 4, none⟩) lt_x0).trans (by assumption), (hba.cell (p := ⟨w5.heap.size, 5, none⟩) lt_x0).trans (by assumption)⟩) | (go_split_ands; exact ⟨(hbb.cell (p := ⟨W.heap.size, 0, none⟩) (Nat.lt_of_lt_of_le lt_aA hba.size)).trans (by assumption), (hbb.cell (p := ⟨W.heap.size, 1, none⟩) (Nat.lt_of_lt_of_le lt_aA hba.size)).trans (by assumption), (hbb.cell (p := ⟨W.heap.size, 2, none⟩) (Nat.lt_of_lt_of_le lt_aA hba.size)).trans (by assumption), (hbb.cell (p := ⟨W.heap.size, 3, none⟩) (Nat.lt_of_lt_of_le lt_aA hba.size)).trans (by assumption), (hbb.cell (p := ⟨W.heap.size, 4, none⟩) (Nat.lt_of_lt_of_le lt_aA hba.size)).trans (by assumption), (hbb.cell (p := ⟨W.heap.size, 5, none⟩) (Nat.lt_of_lt_of_le lt_aA hba.size)).trans (by assumption), (hbb.cell (p := ⟨w5.heap.size, 0, none⟩) (Nat.lt_of_lt_of_le lt_x0 hba.size)).trans (by assumption), (hbb.cell (p := ⟨w5.heap.size, 1, none⟩) (Nat.lt_of_lt_of_le lt_x0 hba.size)).trans (by assumption), (hbb.cell (p := ⟨w5.heap.size, 2, none⟩) (Nat.lt_of_lt_of_le lt_x0 hba.size)).trans (by assumption), (hbb.cell (p := ⟨w5.heap.size, 3, none⟩) (Nat.lt_of_lt_of_le lt_x0 hba.size)).trans (by assumption), (hbb.cell (p := ⟨w5.heap.size, 4, none⟩) (Nat.lt_of_lt_of_le lt_x0 hba.size)).trans (by assumption), (hbb.cell (p := ⟨w5.heap.size, 5, none⟩) (Nat.lt_of_lt_of_le lt_x0 hba.size)).trans (by assumption)⟩))
    (first | (go_at_call 6; (with_reducible refine (toNotation_any _ _ _ _ _ x0 P0 R0 n0 T0 A0 B0 _ hda (by assumption)).mono ?_); rintro e wa5 ⟨u5, u5b, u5c, u5d, u5e, rfl, hua, hba⟩; obtain ⟨sp_5, np_5, cp_5, sm_5, nm_5, cm_5, ss_5, ns_5, cs_5, sa_5, na_5, ca_5, sb_5, nb_5, cb_5, rfl, rfl, rfl, rfl, rfl⟩ := hua.rd.form'; have hxx := hxd.below hba) | (go_at_call 8; (with_reducible refine (eqNotation_same _ _ _ _ _ _ _ _ _ _ x0 P0 R0 n0 T0 A0 B0 _ hxx.rd hua.rd).mono ?_); rintro e w10 ⟨rfl, hbb⟩))
  have hb : Below w9.heap.size w9 w10 := below_step (below_step (Below.refl _ _).drew hba (Nat.le_refl _)) hbb hba.size
  clear hua hba hbb hda hBd hxx hxd
  have hs_10 := hb.size
  replace h3 := h3.below hb
  replace h4 := h4.below hb
  replace cb_aA_0 := (hb.cell (p := ⟨W.heap.size, 0, none⟩) lt_aA).trans cb_aA_0
  replace cb_aA_1 := (hb.cell (p := ⟨W.heap.size, 1, none⟩) lt_aA).trans cb_aA_1
  replace cb_aA_2 := (hb.cell (p := ⟨W.heap.size, 2, none⟩) lt_aA).trans cb_aA_2
  replace cb_aA_3 := (hb.cell (p := ⟨W.heap.size, 3, none⟩) lt_aA).trans cb_aA_3
  replace cb_aA_4 := (hb.cell (p := ⟨W.heap.size, 4, none⟩) lt_aA).trans cb_aA_4
  replace cb_aA_5 := (hb.cell (p := ⟨W.heap.size, 5, none⟩) lt_aA).trans cb_aA_5
  replace lt_aA := Nat.lt_of_lt_of_le lt_aA hb.size
  replace cb_aB_0 := (hb.cell (p := ⟨W.heap.size + 1, 0, none⟩) lt_aB).trans cb_aB_0
  replace cb_aB_1 := (hb.cell (p := ⟨W.heap.size + 1, 1, none⟩) lt_aB).trans cb_aB_1
  replace cb_aB_2 := (hb.cell (p := ⟨W.heap.size + 1, 2, none⟩) lt_aB).trans cb_aB_2
  replace cb_aB_3 := (hb.cell (p := ⟨W.heap.size + 1, 3, none⟩) lt_aB).trans cb_aB_3
  replace cb_aB_4 := (hb.cell (p := ⟨W.heap.size + 1, 4, none⟩) lt_aB).trans cb_aB_4
  replace cb_aB_5 := (hb.cell (p := ⟨W.heap.size + 1, 5, none⟩) lt_aB).trans cb_aB_5
  replace lt_aB := Nat.lt_of_lt_of_le lt_aB hb.size
  replace cb_x0_0 := (hb.cell (p := ⟨w5.heap.size, 0, none⟩) lt_x0).trans cb_x0_0
  replace cb_x0_1 := (hb.cell (p := ⟨w5.heap.size, 1, none⟩) lt_x0).trans cb_x0_1
  replace cb_x0_2 := (hb.cell (p := ⟨w5.heap.size, 2, none⟩) lt_x0).trans cb_x0_2
  replace cb_x0_3 := (hb.cell (p := ⟨w5.heap.size, 3, none⟩) lt_x0).trans cb_x0_3
  replace cb_x0_4 := (hb.cell (p := ⟨w5.heap.size, 4, none⟩) lt_x0).trans cb_x0_4
  replace cb_x0_5 := (hb.cell (p := ⟨w5.heap.size, 5, none⟩) lt_x0).trans cb_x0_5
  replace lt_x0 := Nat.lt_of_lt_of_le lt_x0 hb.size
  replace cb_x1_0 := (hb.cell (p := ⟨w7.heap.size, 0, none⟩) lt_x1).trans cb_x1_0
  replace cb_x1_1 := (hb.cell (p := ⟨w7.heap.size, 1, none⟩) lt_x1).trans cb_x1_1
  replace cb_x1_2 := (hb.cell (p := ⟨w7.heap.size, 2, none⟩) lt_x1).trans cb_x1_2
  replace cb_x1_3 := (hb.cell (p := ⟨w7.heap.size, 3, none⟩) lt_x1).trans cb_x1_3
  replace cb_x1_4 := (hb.cell (p := ⟨w7.heap.size, 4, none⟩) lt_x1).trans cb_x1_4
  replace cb_x1_5 := (hb.cell (p := ⟨w7.heap.size, 5, none⟩) lt_x1).trans cb_x1_5
  replace lt_x1 := Nat.lt_of_lt_of_le lt_x1 hb.size
  replace hB := below_step hB hb hB.size
  clear hb
  go_wp2
  have hBd := hB.drew
  have hda := hA1.below hBd
  have hxd := h4.below ((Below.refl _ _).drew : Below w10.heap.size w10 w10.drew)
  go_region_held3 (fun w' => w'.cell? ⟨W.heap.size + 1, 0, none⟩ = some (.int .i64 x1) ∧ w'.cell? ⟨W.heap.size + 1, 1, none⟩ = some (.slice sp1 np1 cp1) ∧ w'.cell? ⟨W.heap.size + 1, 2, none⟩ = some (.slice sm1 nm1 cm1) ∧ w'.cell? ⟨W.heap.size + 1, 3, none⟩ = some (.slice ss1 ns1 cs1) ∧ w'.cell? ⟨W.heap.size + 1, 4, none⟩ = some (.slice sa1 na1 ca1) ∧ w'.cell? ⟨W.heap.size + 1, 5, none⟩ = some (.slice sb1 nb1 cb1) ∧ w'.cell? ⟨w7.heap.size, 0, none⟩ = some (.int .i64 x1) ∧ w'.cell? ⟨w7.heap.size, 1, none⟩ = some (.slice sp_4 np_4 cp_4) ∧ w'.cell? ⟨w7.heap.size, 2, none⟩ = some (.slice sm_4 nm_4 cm_4) ∧ w'.cell? ⟨w7.heap.size, 3, none⟩ = some (.slice ss_4 ns_4 cs_4) ∧ w'.cell? ⟨w7.heap.size, 4, none⟩ = some (.slice sa_4 na_4 ca_4) ∧ w'.cell? ⟨w7.heap.size, 5, none⟩ = some (.slice sb_4 nb_4 cb_4))
    (first | go_keep | (go_split_ands; exact ⟨(hba.cell (p := ⟨W.heap.size + 1, 0, none⟩) lt_aB).trans (by assumption), (hba.cell (p := ⟨W.heap.size + 1, 1, none⟩) lt_aB).trans (by assumption), (hba.cell (p := ⟨W.heap.size + 1, 2, none⟩) lt_aB).trans (by assumption), (hba.cell (p := ⟨W.heap.size + 1, 3, none⟩) lt_aB).trans (by assumption), (hba.cell (p := ⟨W.heap.size + 1, 4, none⟩) lt_aB).trans (by assumption), (hba.cell (p := ⟨W.heap.size + 1, 5, none⟩) lt_aB).trans (by assumption), (hba.cell (p := ⟨w7.heap.size, 0, none⟩) lt_x1).trans (by assumption), (hba.cell (p := ⟨w7.heap.size, 1, none⟩) lt_x1).trans (by assumption), (hba.cell (p := ⟨w7.heap.size, 2, none⟩) lt_x1).trans (by assumption), (hba.cell (p := ⟨w7.heap.size, 3, none⟩) lt_x1).trans (by assumption), (hba.cell (p := ⟨w7.heap.size, 4, none⟩) lt_x1).trans (by assumption), (hba.cell (p := ⟨w7.heap.size, 5, none⟩) lt_x1).trans (by assumption)⟩) | (go_split_ands; exact ⟨(hbb.cell (p := ⟨W.heap.size + 1, 0, none⟩) (Nat.lt_of_lt_of_le lt_aB hba.size)).trans (by assumption), (hbb.cell (p := ⟨W.heap.size + 1, 1, none⟩) (Nat.lt_of_lt_of_le lt_aB hba.size)).trans (by assumption), (hbb.cell (p := ⟨W.heap.size + 1, 2, none⟩) (Nat.lt_of_lt_of_le lt_aB hba.size)).trans (by assumption), (hbb.cell (p := ⟨W.heap.size + 1, 3, none⟩) (Nat.lt_of_lt_of_le lt_aB hba.size)).trans (by assumption), (hbb.cell (p := ⟨W.heap.size + 1, 4, none⟩) (Nat.lt_of_lt_of_le lt_aB hba.size)).trans (by assumption), (hbb.cell (p := ⟨W.heap.size + 1, 5, none⟩) (Nat.lt_of_lt_of_le lt_aB hba.size)).trans (by assumption), (hbb.cell (p := ⟨w7.heap.size, 0, none⟩) (Nat.lt_of_lt_of_le lt_x1 hba.size)).trans (by assumption), (hbb.cell (p := ⟨w7.heap.size, 1, none⟩) (Nat.lt_of_lt_of_le lt_x1 hba.size)).trans (by assumption), (hbb.cell (p := ⟨w7.heap.size, 2, none⟩) (Nat.lt_of_lt_of_le lt_x1 hba.size)).trans (by assumption), (hbb.cell (p := ⟨w7.heap.size, 3, none⟩) (Nat.lt_of_lt_of_le lt_x1 hba.size)).trans (by assumption), (hbb.cell (p := ⟨w7.heap.size, 4, none⟩) (Nat.lt_of_lt_of_le lt_x1 hba.size)).trans (by assumption), (hbb.cell (p := ⟨w7.heap.size, 5, none⟩) (Nat.lt_of_lt_of_le lt_x1 hba.size)).trans (by assumption)⟩))
    (first | (go_at_call 6; (with_reducible refine (toNotation_any _ _ _ _ _ x1 P1 R1 n1 T1 A1 B1 _ hda (by assumption)).mono ?_); rintro e wa6 ⟨u6, u6b, u6c, u6d, u6e, rfl, hua, hba⟩; obtain ⟨sp_6, np_6, cp_6, sm_6, nm_6, cm_6, ss_6, ns_6, cs_6, sa_6, na_6, ca_6, sb_6, nb_6, cb_6, rfl, rfl, rfl, rfl, rfl⟩ := hua.rd.form'; have hxx := hxd.below hba) | (go_at_call 8; (with_reducible refine (eqNotation_same _ _ _ _ _ _ _ _ _ _ x1 P1 R1 n1 T1 A1 B1 _ hxx.rd hua.rd).mono ?_); rintro e w11 ⟨rfl, hbb⟩))
  have hb : Below w10.heap.size w10 w11 := below_step (below_step (Below.refl _ _).drew hba (Nat.le_refl _)) hbb hba.size
  clear hua hba hbb hda hBd hxx hxd
  have hs_11 := hb.size
  replace h3 := h3.below hb
  replace h4 := h4.below hb
  replace cb_aA_0 := (hb.cell (p := ⟨W.heap.size, 0, none⟩) lt_aA).trans cb_aA_0
  replace cb_aA_1 := (hb.cell (p := ⟨W.heap.size, 1, none⟩) lt_aA).trans cb_aA_1
  replace cb_aA_2 := (hb.cell (p := ⟨W.heap.size, 2, none⟩) lt_aA).trans cb_aA_2
  replace cb_aA_3 := (hb.cell (p := ⟨W.heap.size, 3, none⟩) lt_aA).trans cb_aA_3
  replace cb_aA_4 := (hb.cell (p := ⟨W.heap.size, 4, none⟩) lt_aA).trans cb_aA_4
  replace cb_aA_5 := (hb.cell (p := ⟨W.heap.size, 5, none⟩) lt_aA).trans cb_aA_5
  replace lt_aA := Nat.lt_of_lt_of_le lt_aA hb.size
  replace cb_aB_0 := (hb.cell (p := ⟨W.heap.size + 1, 0, none⟩) lt_aB).trans cb_aB_0
  replace cb_aB_1 := (hb.cell (p := ⟨W.heap.size + 1, 1, none⟩) lt_aB).trans cb_aB_1
  replace cb_aB_2 := (hb.cell (p := ⟨W.heap.size + 1, 2, none⟩) lt_aB).trans cb_aB_2
  replace cb_aB_3 := (hb.cell (p := ⟨W.heap.size + 1, 3, none⟩) lt_aB).trans cb_aB_3
  replace cb_aB_4 := (hb.cell (p := ⟨W.heap.size + 1, 4, none⟩) lt_aB).trans cb_aB_4
  replace cb_aB_5 := (hb.cell (p := ⟨W.heap.size + 1, 5, none⟩) lt_aB).trans cb_aB_5
  replace lt_aB := Nat.lt_of_lt_of_le lt_aB hb.size
  replace cb_x0_0 := (hb.cell (p := ⟨w5.heap.size, 0, none⟩) lt_x0).trans cb_x0_0
  replace cb_x0_1 := (hb.cell (p := ⟨w5.heap.size, 1, none⟩) lt_x0).trans cb_x0_1
  replace cb_x0_2 := (hb.cell (p := ⟨w5.heap.size, 2, none⟩) lt_x0).trans cb_x0_2
  replace cb_x0_3 := (hb.cell (p := ⟨w5.heap.size, 3, none⟩) lt_x0).trans cb_x0_3
  replace cb_x0_4 := (hb.cell (p := ⟨w5.heap.size, 4, none⟩) lt_x0).trans cb_x0_4
  replace cb_x0_5 := (hb.cell (p := ⟨w5.heap.size, 5, none⟩) lt_x0).trans cb_x0_5
  replace lt_x0 := Nat.lt_of_lt_of_le lt_x0 hb.size
  replace cb_x1_0 := (hb.cell (p := ⟨w7.heap.size, 0, none⟩) lt_x1).trans cb_x1_0
  replace cb_x1_1 := (hb.cell (p := ⟨w7.heap.size, 1, none⟩) lt_x1).trans cb_x1_1
  replace cb_x1_2 := (hb.cell (p := ⟨w7.heap.size, 2, none⟩) lt_x1).trans cb_x1_2
  replace cb_x1_3 := (hb.cell (p := ⟨w7.heap.size, 3, none⟩) lt_x1).trans cb_x1_3
  replace cb_x1_4 := (hb.cell (p := ⟨w7.heap.size, 4, none⟩) lt_x1).trans cb_x1_4
  replace cb_x1_5 := (hb.cell (p := ⟨w7.heap.size, 5, none⟩) lt_x1).trans cb_x1_5
  replace lt_x1 := Nat.lt_of_lt_of_le lt_x1 hb.size
  replace hB := below_step hB hb hB.size
  clear hb
  go_wp2
  go_ret
  exact ⟨rfl, hB⟩

set_option maxRecDepth 100000 in
theorem fnExactSameNotation_lifted (os : Os) (started : os.Started) (H : Type) (enc : TypeId × Value → H) :
    ReturnsInHanded {} Try.checked os 3 .any (Rows.fnExactSameNotationSpec.pre6 enc Try.prog Try.f3 Rows.fnExactSameNotationRow.domain false) (Rows.fnExactSameNotationSpec.post enc Try.prog Try.f3 false true false false) := by
  refine returnsInHanded_of_change_sized (C := Try.checked) Try.own started (by kernel_rfl) Try.func3
    (ChangeSpec.witness6 (enc := enc) (C := Try.checked) false ⟨#[], #[.agg #[.int .i64 0, .slice none 0 0, .slice none 0 0, .slice none 0 0, .slice none 0 0, .slice none 0 0], .agg #[.int .i64 0, .slice none 0 0, .slice none 0 0, .slice none 0 0, .slice none 0 0, .slice none 0 0]], []⟩ 8 (by kernel_rfl) (by kernel_rfl) (by kernel_rfl) (by kernel_rfl)) ?_
  intro W base args ds gs before hval0 hW _ hsz0 _
  have hsz : (DataW.weightsEach Try.prog (Try.f3.params.toList ++ Rows.fnExactSameNotationSpec.plain.varTypes Try.prog) (ds ++ gs)).all (· ≤ reachBytes) = true := hsz0
  clear hsz0
  have hval : ∀ (j : Nat) t v, Try.f3.params[j]? = some t → args[j]? = some v → Value.okWide Try.prog W .any base t v := hval0
  have hW' := hW
  obtain ⟨p, q, hA0, hV, rfl, _, _⟩ := hW
  have hA : DataW.TrodAll enc Try.prog W 0 (fun _ => true) true Try.f3.params.toList args.toList ds p := hA0
  rw [Try.params3] at hA hval hsz
  obtain ⟨v0, v1, d0, d1, p0, p1, rfl, rfl, rfl, h0, h1⟩ := trodAll_two hA
  obtain ⟨rfl, rfl⟩ := trodVars_none hV
  clear hA0 hval0
  simp only [List.append_nil] at hW'
  have hlt : ∀ x ∈ p0 ++ p1, x.block < W.heap.size := fun x hx => by simpa using hW'.lt x (by simpa using hx)
  have h0k := h0
  obtain ⟨x0, vp0, vm0, vs0, va0, vb0, P0, R0, n0, T0, A0, B0, rfl, hA0⟩ := rdN_open (hval 0 31 v0 rfl rfl) h0 (fun x hx => by have := List.all_eq_true.1 hsz _ (DataW.weights_mem_each (j := 0) (t := 31) rfl rfl x hx); simpa using this)
  have h1k := h1
  obtain ⟨x1, vp1, vm1, vs1, va1, vb1, P1, R1, n1, T1, A1, B1, rfl, hA1⟩ := rdN_open (hval 1 31 v1 rfl rfl) h1 (fun x hx => by have := List.all_eq_true.1 hsz _ (DataW.weights_mem_each (j := 1) (t := 31) rfl rfl x hx); simpa using this)
  refine (fnExactSameNotation_any0 W x0 vp0 vm0 vs0 va0 vb0 P0 R0 n0 T0 A0 B0 hA0 x1 vp1 vm1 vs1 va1 vb1 P1 R1 n1 T1 A1 B1 hA1).mono fun e W' ⟨he, hb⟩ => ?_
  subst he
  exact ⟨_, rfl, _, _, _, [], _, [], hW', trodAll_mk1 (shut_bool Try.underlying4 true), (trodAll_mk2 (Below.trod Try.laidOut (by kernel_rfl) (of_decide_eq_true (by kernel_rfl)) h0k hb (fun x hx => hlt x (by simp [hx]))) (Below.trod Try.laidOut (by kernel_rfl) (of_decide_eq_true (by kernel_rfl)) h1k hb (fun x hx => hlt x (by simp [hx])))), rfl, hb.frame _, fun h => by cases h⟩

theorem fnExactSameNotation_holds : Rows.FnExactSameNotationSaid :=
  OpenClaim.holds_of_wide 3 Try.f3 rfl rfl rfl rfl rfl rfl rfl ⟨rfl, rfl, rfl, rfl, rfl⟩ rfl rfl rfl rfl rfl (by kernel_rfl) Try.func3 (by kernel_rfl)
    (of_decide_eq_true (by kernel_rfl)) (by unfold Func.isWrapper; first | (rw [if_pos (by decide +kernel)]; kernel_rfl) | (rw [if_neg (by decide +kernel)]; exact ⟨rfl, rfl⟩))
    (fun os started H enc _ => fnExactSameNotation_lifted os started H enc)

#print axioms fnExactSameNotation_holds
end Go.Proofs.Ytdagakjeefhimaa
