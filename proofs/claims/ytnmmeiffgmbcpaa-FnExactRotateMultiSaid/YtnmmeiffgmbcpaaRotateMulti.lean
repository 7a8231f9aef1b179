/-
  Proved here: the law FnExactRotateMulti returns true for all inputs. No condition.
-/
import Derived.Test.YtnmmeiffgmbcpaaM10
import Derived.Deep.RegionHeld3
namespace Go.Proofs.Ytnmmeiffgmbcpaa
open Go.ChangeShapes Go.WideShapes Go.ChangeAt Go.RowKit


set_option maxHeartbeats 4000000 in
theorem fnExactRotateMulti_any0 (W : World) (va0 : Value) (R0 : List (List Int)) (hA0 : RdR W va0 R0) (x1 : Int) (_wx1 : (Lit.int .i64 x1).wf = true) : Calls Try.prog 10 #[.agg #[va0], .int .i64 x1] W fun e w' => e = .returned (.bool true) ∧ Below W.heap.size W w' := by
  obtain ⟨sa0, na0, ca0, rfl⟩ := hA0.form'
  have hB : Below W.heap.size W W := Below.refl _ _
  go_enter Try.func10, Try.ntmps10
  go_wp2_with fail
  generalize hW : (World.alloc W _) = w1
  have hb : Below W.heap.size W w1 := by rw [← hW]; exact (Below.refl _ _).alloc (Nat.le_refl _) _
  have hz_1 : W.heap.size + 1 ≤ w1.heap.size := by rw [← hW]; simp
  have cb_aM_0 : w1.cell? ⟨W.heap.size, 0, none⟩ = some (.slice sa0 na0 ca0) := by rw [← hW]; simp
  have lt_aM : W.heap.size < w1.heap.size := by omega
  clear hW
  have hs_1 := hb.size
  replace hB := below_step hB hb hB.size
  clear hb
  by_cases hgz : ((R0.length : Int) + (sumLen R0 R0.length : Int)) ≤ 1048576
  rotate_left
  · with_reducible refine (szMulti_no _ R0 (1048576) _ (hA0.below hB) (by omega) (by omega) (by omega)).mono ?_
    rintro e w' ⟨rfl, hb⟩
    go_wp2
    go_ret
    exact ⟨rfl, below_step hB hb hB.size⟩
  with_reducible refine (szMulti_yes _ R0 (1048576) _ (hA0.below hB) (by omega) (by omega) (by omega)).mono ?_
  rintro e w2 ⟨rfl, hb⟩
  have hs_2 := hb.size
  replace cb_aM_0 := (hb.cell (p := ⟨W.heap.size, 0, none⟩) lt_aM).trans cb_aM_0
  replace lt_aM := Nat.lt_of_lt_of_le lt_aM hb.size
  replace hB := below_step hB hb hB.size
  clear hb
  have hgq_2 : ((R0.length : Int) + (sumLen R0 R0.length : Int)) ≤ 1048576 := by omega
  clear hgz
  go_wp2_with fail
  with_reducible refine (toMulti_any _ R0 _ (hA0.below hB) (by omega)).mono ?_
  rintro e w3 ⟨u1, rfl, h1, hb⟩
  have hs_3 := hb.size
  replace cb_aM_0 := (hb.cell (p := ⟨W.heap.size, 0, none⟩) lt_aM).trans cb_aM_0
  replace lt_aM := Nat.lt_of_lt_of_le lt_aM hb.size
  replace hB := below_step hB hb hB.size
  clear hb
  obtain ⟨s1, n1, c1, rfl⟩ := h1.rd.form'
  go_wp2_with fail
  with_reducible refine (specRotateM_any _ R0 x1 _ h1.rd ).mono ?_
  rintro e w4 ⟨u2, rfl, h2, hb⟩
  have hs_4 := hb.size
  replace h1 := h1.below hb
  replace cb_aM_0 := (hb.cell (p := ⟨W.heap.size, 0, none⟩) lt_aM).trans cb_aM_0
  replace lt_aM := Nat.lt_of_lt_of_le lt_aM hb.size
  replace hB := below_step hB hb hB.size
  clear hb
  obtain ⟨s3, n3, c3, rfl⟩ := h2.rd.form'
  clear h1
  go_wp2_with fail
  generalize hW : (World.alloc w4 _) = w5
  have hb : Below w4.heap.size w4 w5 := by rw [← hW]; exact (Below.refl _ _).alloc (Nat.le_refl _) _
  have hz_5 : w4.heap.size + 1 ≤ w5.heap.size := by rw [← hW]; simp
  have cb_w0_0 : w5.cell? ⟨w4.heap.size, 0, none⟩ = some (.slice s3 n3 c3) := by rw [← hW]; simp
  have lt_w0 : w4.heap.size < w5.heap.size := by omega
  clear hW
  have hs_5 := hb.size
  replace h2 := h2.below hb
  replace cb_aM_0 := (hb.cell (p := ⟨W.heap.size, 0, none⟩) lt_aM).trans cb_aM_0
  replace lt_aM := Nat.lt_of_lt_of_le lt_aM hb.size
  replace hB := below_step hB hb hB.size
  clear hb
  with_reducible refine (toMulti_any _ R0 _ (hA0.below hB) (by omega)).mono ?_
  rintro e w6 ⟨u4, rfl, h4, hb⟩
  have hs_6 := hb.size
  replace h2 := h2.below hb
  replace cb_aM_0 := (hb.cell (p := ⟨W.heap.size, 0, none⟩) lt_aM).trans cb_aM_0
  replace lt_aM := Nat.lt_of_lt_of_le lt_aM hb.size
  replace cb_w0_0 := (hb.cell (p := ⟨w4.heap.size, 0, none⟩) lt_w0).trans cb_w0_0
  replace lt_w0 := Nat.lt_of_lt_of_le lt_w0 hb.size
  replace hB := below_step hB hb hB.size
  clear hb
  obtain ⟨s4, n4, c4, rfl⟩ := h4.rd.form'
  go_wp2_with fail
  generalize hW : (World.alloc w6 _) = w7
  have hb : Below w6.heap.size w6 w7 := by rw [← hW]; exact (Below.refl _ _).alloc (Nat.le_refl _) _
  have hz_7 : w6.heap.size + 1 ≤ w7.heap.size := by rw [← hW]; simp
  have cb_x0_0 : w7.cell? ⟨w6.heap.size, 0, none⟩ = some (.slice s4 n4 c4) := by rw [← hW]; simp
  have lt_x0 : w6.heap.size < w7.heap.size := by omega
  clear hW
  have hs_7 := hb.size
  replace h2 := h2.below hb
  replace h4 := h4.below hb
  replace cb_aM_0 := (hb.cell (p := ⟨W.heap.size, 0, none⟩) lt_aM).trans cb_aM_0
  replace lt_aM := Nat.lt_of_lt_of_le lt_aM hb.size
  replace cb_w0_0 := (hb.cell (p := ⟨w4.heap.size, 0, none⟩) lt_w0).trans cb_w0_0
  replace lt_w0 := Nat.lt_of_lt_of_le lt_w0 hb.size
  replace hB := below_step hB hb hB.size
  clear hb
  with_reducible refine (implRotateM_any _ R0 x1 _ h4.rd ).mono ?_
  rintro e w8 ⟨u5, rfl, h5, hb⟩
  have hs_8 := hb.size
  replace h2 := h2.below hb
  replace h4 := h4.below hb
  replace cb_aM_0 := (hb.cell (p := ⟨W.heap.size, 0, none⟩) lt_aM).trans cb_aM_0
  replace lt_aM := Nat.lt_of_lt_of_le lt_aM hb.size
  replace cb_w0_0 := (hb.cell (p := ⟨w4.heap.size, 0, none⟩) lt_w0).trans cb_w0_0
  replace lt_w0 := Nat.lt_of_lt_of_le lt_w0 hb.size
  replace cb_x0_0 := (hb.cell (p := ⟨w6.heap.size, 0, none⟩) lt_x0).trans cb_x0_0
  replace lt_x0 := Nat.lt_of_lt_of_le lt_x0 hb.size
  replace hB := below_step hB hb hB.size
  clear hb
  obtain ⟨s6, n6, c6, rfl⟩ := h5.rd.form'
  go_wp2_with fail
  generalize hW : (World.alloc w8 _) = w9
  have hb : Below w8.heap.size w8 w9 := by rw [← hW]; exact (Below.refl _ _).alloc (Nat.le_refl _) _
  have hz_9 : w8.heap.size + 1 ≤ w9.heap.size := by rw [← hW]; simp
  have cb_g0_0 : w9.cell? ⟨w8.heap.size, 0, none⟩ = some (.slice s6 n6 c6) := by rw [← hW]; simp
  have lt_g0 : w8.heap.size < w9.heap.size := by omega
  clear hW
  have hs_9 := hb.size
  replace h2 := h2.below hb
  replace h4 := h4.below hb
  replace h5 := h5.below hb
  replace cb_aM_0 := (hb.cell (p := ⟨W.heap.size, 0, none⟩) lt_aM).trans cb_aM_0
  replace lt_aM := Nat.lt_of_lt_of_le lt_aM hb.size
  replace cb_w0_0 := (hb.cell (p := ⟨w4.heap.size, 0, none⟩) lt_w0).trans cb_w0_0
  replace lt_w0 := Nat.lt_of_lt_of_le lt_w0 hb.size
  replace cb_x0_0 := (hb.cell (p := ⟨w6.heap.size, 0, none⟩) lt_x0).trans cb_x0_0
  replace lt_x0 := Nat.lt_of_lt_of_le lt_x0 hb.size
  replace hB := below_step hB hb hB.size
  clear hb
  with_reducible refine (eqMulti_same _ _ _ _ h5.rd h2.rd).mono ?_
  rintro e w10 ⟨rfl, hb⟩
  have hs_10 := hb.size
  replace h2 := h2.below hb
  replace h4 := h4.below hb
  replace h5 := h5.below hb
  replace cb_aM_0 := (hb.cell (p := ⟨W.heap.size, 0, none⟩) lt_aM).trans cb_aM_0
  replace lt_aM := Nat.lt_of_lt_of_le lt_aM hb.size
  replace cb_w0_0 := (hb.cell (p := ⟨w4.heap.size, 0, none⟩) lt_w0).trans cb_w0_0
  replace lt_w0 := Nat.lt_of_lt_of_le lt_w0 hb.size
  replace cb_x0_0 := (hb.cell (p := ⟨w6.heap.size, 0, none⟩) lt_x0).trans cb_x0_0
  replace lt_x0 := Nat.lt_of_lt_of_le lt_x0 hb.size
  replace cb_g0_0 := (hb.cell (p := ⟨w8.heap.size, 0, none⟩) lt_g0).trans cb_g0_0
  replace lt_g0 := Nat.lt_of_lt_of_le lt_g0 hb.size
  replace hB := below_step hB hb hB.size
  clear hb
  go_wp2
  have hBd := hB.drew
  have hda := hA0.below hBd
  go_region_held3 (fun w' => w'.cell? ⟨W.heap.size, 0, none⟩ = some (.slice sa0 na0 ca0) ∧ w'.cell? ⟨w4.heap.size, 0, none⟩ = some (.slice s3 n3 c3) ∧ w'.cell? ⟨w6.heap.size, 0, none⟩ = some (.slice s4 n4 c4) ∧ w'.cell? ⟨w8.heap.size, 0, none⟩ = some (.slice s6 n6 c6))
    (first | go_keep | (go_split_ands; exact ⟨(hba.cell (p := ⟨W.heap.size, 0, none⟩) lt_aM).trans (by assumption), (hba.cell (p := ⟨w4.heap.size, 0, none⟩) lt_w0).trans (by assumption), (hba.cell (p := ⟨w6.heap.size, 0, none⟩) lt_x0).trans (by assumption), (hba.cell (p := ⟨w8.heap.size, 0, none⟩) lt_g0).trans (by assumption)⟩) | (go_split_ands; exact ⟨(hbb.cell (p := ⟨W.heap.size, 0, none⟩) (Nat.lt_of_lt_of_le lt_aM hba.size)).trans (by assumption), (hbb.cell (p := ⟨w4.heap.size, 0, none⟩) (Nat.lt_of_lt_of_le lt_w0 hba.size)).trans (by assumption), (hbb.cell (p := ⟨w6.heap.size, 0, none⟩) (Nat.lt_of_lt_of_le lt_x0 hba.size)).trans (by assumption), (hbb.cell (p := ⟨w8.heap.size, 0, none⟩) (Nat.lt_of_lt_of_le lt_g0 hba.size)).trans (by assumption)⟩))
    (first | (go_at_call 20; (with_reducible refine (toMulti_any _ R0 _ hda (by omega)).mono ?_); rintro e wa7 ⟨u7, rfl, hua, hba⟩; obtain ⟨s7, n7, c7, rfl⟩ := hua.rd.form'; have hxx := OwnR.below (w := w10.drew) h4 hba) | (go_at_call 22; (with_reducible refine (eqMulti_same _ _ R0 _ hxx.rd hua.rd).mono ?_); rintro e w11 ⟨rfl, hbb⟩))
  have hb : Below w10.heap.size w10 w11 := below_step (below_step (Below.refl _ _).drew hba (Nat.le_refl _)) hbb hba.size
  clear hua hba hbb hda hBd hxx
  have hs_11 := hb.size
  replace h2 := h2.below hb
  replace h4 := h4.below hb
  replace h5 := h5.below hb
  replace cb_aM_0 := (hb.cell (p := ⟨W.heap.size, 0, none⟩) lt_aM).trans cb_aM_0
  replace lt_aM := Nat.lt_of_lt_of_le lt_aM hb.size
  replace cb_w0_0 := (hb.cell (p := ⟨w4.heap.size, 0, none⟩) lt_w0).trans cb_w0_0
  replace lt_w0 := Nat.lt_of_lt_of_le lt_w0 hb.size
  replace cb_x0_0 := (hb.cell (p := ⟨w6.heap.size, 0, none⟩) lt_x0).trans cb_x0_0
  replace lt_x0 := Nat.lt_of_lt_of_le lt_x0 hb.size
  replace cb_g0_0 := (hb.cell (p := ⟨w8.heap.size, 0, none⟩) lt_g0).trans cb_g0_0
  replace lt_g0 := Nat.lt_of_lt_of_le lt_g0 hb.size
  replace hB := below_step hB hb hB.size
  clear hb
  go_wp2_with fail
  with_reducible refine (markMulti_any _ R0 _ _ _ _ h4 (by omega) (by omega)).mono ?_
  rintro e w12 ⟨rfl, hm, hc⟩
  have hs_12 := hc.size
  replace h2 := h2.kept hc (by omega)
  replace h5 := h5.kept hc (by omega)
  replace cb_aM_0 := (chg_cell hc lt_aM (by omega) 0).trans cb_aM_0
  replace lt_aM := Nat.lt_of_lt_of_le lt_aM hc.size
  replace cb_w0_0 := (chg_cell hc lt_w0 (by omega) 0).trans cb_w0_0
  replace lt_w0 := Nat.lt_of_lt_of_le lt_w0 hc.size
  replace cb_x0_0 := (chg_cell hc lt_x0 (by omega) 0).trans cb_x0_0
  replace lt_x0 := Nat.lt_of_lt_of_le lt_x0 hc.size
  replace cb_g0_0 := (chg_cell hc lt_g0 (by omega) 0).trans cb_g0_0
  replace lt_g0 := Nat.lt_of_lt_of_le lt_g0 hc.size
  replace hB := below_chg_step hB hc hB.size (by omega)
  clear hc
  clear h4
  have h4 := hm
  clear hm
  have hk_12 : decide ((1 + ((sumLen R0 R0.length : Int))) < 0) = false := by simp; omega
  go_wp2_with fail
  with_reducible refine (eqMulti_same _ _ _ _ h5.rd h2.rd).mono ?_
  rintro e w13 ⟨rfl, hb⟩
  have hs_13 := hb.size
  replace h2 := h2.below hb
  replace h4 := h4.below hb
  replace h5 := h5.below hb
  replace cb_aM_0 := (hb.cell (p := ⟨W.heap.size, 0, none⟩) lt_aM).trans cb_aM_0
  replace lt_aM := Nat.lt_of_lt_of_le lt_aM hb.size
  replace cb_w0_0 := (hb.cell (p := ⟨w4.heap.size, 0, none⟩) lt_w0).trans cb_w0_0
  replace lt_w0 := Nat.lt_of_lt_of_le lt_w0 hb.size
  replace cb_x0_0 := (hb.cell (p := ⟨w6.heap.size, 0, none⟩) lt_x0).trans cb_x0_0
  replace lt_x0 := Nat.lt_of_lt_of_le lt_x0 hb.size
  replace cb_g0_0 := (hb.cell (p := ⟨w8.heap.size, 0, none⟩) lt_g0).trans cb_g0_0
  replace lt_g0 := Nat.lt_of_lt_of_le lt_g0 hb.size
  replace hB := below_step hB hb hB.size
  clear hb
  go_wp2_with fail
  with_reducible refine (markMulti_any _ _ _ _ _ _ h5 (by omega) (by omega)).mono ?_
  rintro e w14 ⟨rfl, hm, hc⟩
  have hs_14 := hc.size
  replace h2 := h2.kept hc (by omega)
  replace h4 := h4.kept hc (by omega)
  replace cb_aM_0 := (chg_cell hc lt_aM (by omega) 0).trans cb_aM_0
  replace lt_aM := Nat.lt_of_lt_of_le lt_aM hc.size
  replace cb_w0_0 := (chg_cell hc lt_w0 (by omega) 0).trans cb_w0_0
  replace lt_w0 := Nat.lt_of_lt_of_le lt_w0 hc.size
  replace cb_x0_0 := (chg_cell hc lt_x0 (by omega) 0).trans cb_x0_0
  replace lt_x0 := Nat.lt_of_lt_of_le lt_x0 hc.size
  replace cb_g0_0 := (chg_cell hc lt_g0 (by omega) 0).trans cb_g0_0
  replace lt_g0 := Nat.lt_of_lt_of_le lt_g0 hc.size
  replace hB := below_chg_step hB hc hB.size (by omega)
  clear hc
  clear h5
  have h5 := hm
  clear hm
  go_wp2_with fail
  with_reducible refine (heldMulti_same _ _ _ _ _ _ h5 (by omega) (by omega)).mono ?_
  rintro e w15 ⟨rfl, hb⟩
  have hs_15 := hb.size
  replace h2 := h2.below hb
  replace h4 := h4.below hb
  replace h5 := h5.below hb
  replace cb_aM_0 := (hb.cell (p := ⟨W.heap.size, 0, none⟩) lt_aM).trans cb_aM_0
  replace lt_aM := Nat.lt_of_lt_of_le lt_aM hb.size
  replace cb_w0_0 := (hb.cell (p := ⟨w4.heap.size, 0, none⟩) lt_w0).trans cb_w0_0
  replace lt_w0 := Nat.lt_of_lt_of_le lt_w0 hb.size
  replace cb_x0_0 := (hb.cell (p := ⟨w6.heap.size, 0, none⟩) lt_x0).trans cb_x0_0
  replace lt_x0 := Nat.lt_of_lt_of_le lt_x0 hb.size
  replace cb_g0_0 := (hb.cell (p := ⟨w8.heap.size, 0, none⟩) lt_g0).trans cb_g0_0
  replace lt_g0 := Nat.lt_of_lt_of_le lt_g0 hb.size
  replace hB := below_step hB hb hB.size
  clear hb
  go_wp2_with fail
  with_reducible refine (toMulti_any _ R0 _ (hA0.below hB) (by omega)).mono ?_
  rintro e w16 ⟨u8, rfl, h8, hb⟩
  have hs_16 := hb.size
  replace h2 := h2.below hb
  replace h4 := h4.below hb
  replace h5 := h5.below hb
  replace cb_aM_0 := (hb.cell (p := ⟨W.heap.size, 0, none⟩) lt_aM).trans cb_aM_0
  replace lt_aM := Nat.lt_of_lt_of_le lt_aM hb.size
  replace cb_w0_0 := (hb.cell (p := ⟨w4.heap.size, 0, none⟩) lt_w0).trans cb_w0_0
  replace lt_w0 := Nat.lt_of_lt_of_le lt_w0 hb.size
  replace cb_x0_0 := (hb.cell (p := ⟨w6.heap.size, 0, none⟩) lt_x0).trans cb_x0_0
  replace lt_x0 := Nat.lt_of_lt_of_le lt_x0 hb.size
  replace cb_g0_0 := (hb.cell (p := ⟨w8.heap.size, 0, none⟩) lt_g0).trans cb_g0_0
  replace lt_g0 := Nat.lt_of_lt_of_le lt_g0 hb.size
  replace hB := below_step hB hb hB.size
  clear hb
  obtain ⟨s8, n8, c8, rfl⟩ := h8.rd.form'
  go_wp2_with fail
  with_reducible refine (implRotateM_any _ R0 x1 _ h8.rd ).mono ?_
  rintro e w17 ⟨u9, rfl, h9, hb⟩
  have hs_17 := hb.size
  replace h2 := h2.below hb
  replace h4 := h4.below hb
  replace h5 := h5.below hb
  replace h8 := h8.below hb
  replace cb_aM_0 := (hb.cell (p := ⟨W.heap.size, 0, none⟩) lt_aM).trans cb_aM_0
  replace lt_aM := Nat.lt_of_lt_of_le lt_aM hb.size
  replace cb_w0_0 := (hb.cell (p := ⟨w4.heap.size, 0, none⟩) lt_w0).trans cb_w0_0
  replace lt_w0 := Nat.lt_of_lt_of_le lt_w0 hb.size
  replace cb_x0_0 := (hb.cell (p := ⟨w6.heap.size, 0, none⟩) lt_x0).trans cb_x0_0
  replace lt_x0 := Nat.lt_of_lt_of_le lt_x0 hb.size
  replace cb_g0_0 := (hb.cell (p := ⟨w8.heap.size, 0, none⟩) lt_g0).trans cb_g0_0
  replace lt_g0 := Nat.lt_of_lt_of_le lt_g0 hb.size
  replace hB := below_step hB hb hB.size
  clear hb
  obtain ⟨s10, n10, c10, rfl⟩ := h9.rd.form'
  clear h8
  go_wp2_with fail
  generalize hW : (World.alloc w17 _) = w18
  have hb : Below w17.heap.size w17 w18 := by rw [← hW]; exact (Below.refl _ _).alloc (Nat.le_refl _) _
  have hz_18 : w17.heap.size + 1 ≤ w18.heap.size := by rw [← hW]; simp
  have cb_h0_0 : w18.cell? ⟨w17.heap.size, 0, none⟩ = some (.slice s10 n10 c10) := by rw [← hW]; simp
  have lt_h0 : w17.heap.size < w18.heap.size := by omega
  clear hW
  have hs_18 := hb.size
  replace h2 := h2.below hb
  replace h4 := h4.below hb
  replace h5 := h5.below hb
  replace h9 := h9.below hb
  replace cb_aM_0 := (hb.cell (p := ⟨W.heap.size, 0, none⟩) lt_aM).trans cb_aM_0
  replace lt_aM := Nat.lt_of_lt_of_le lt_aM hb.size
  replace cb_w0_0 := (hb.cell (p := ⟨w4.heap.size, 0, none⟩) lt_w0).trans cb_w0_0
  replace lt_w0 := Nat.lt_of_lt_of_le lt_w0 hb.size
  replace cb_x0_0 := (hb.cell (p := ⟨w6.heap.size, 0, none⟩) lt_x0).trans cb_x0_0
  replace lt_x0 := Nat.lt_of_lt_of_le lt_x0 hb.size
  replace cb_g0_0 := (hb.cell (p := ⟨w8.heap.size, 0, none⟩) lt_g0).trans cb_g0_0
  replace lt_g0 := Nat.lt_of_lt_of_le lt_g0 hb.size
  replace hB := below_step hB hb hB.size
  clear hb
  with_reducible refine (eqMulti_same _ _ _ _ h9.rd h2.rd).mono ?_
  rintro e w19 ⟨rfl, hb⟩
  have hs_19 := hb.size
  replace h2 := h2.below hb
  replace h4 := h4.below hb
  replace h5 := h5.below hb
  replace h9 := h9.below hb
  replace cb_aM_0 := (hb.cell (p := ⟨W.heap.size, 0, none⟩) lt_aM).trans cb_aM_0
  replace lt_aM := Nat.lt_of_lt_of_le lt_aM hb.size
  replace cb_w0_0 := (hb.cell (p := ⟨w4.heap.size, 0, none⟩) lt_w0).trans cb_w0_0
  replace lt_w0 := Nat.lt_of_lt_of_le lt_w0 hb.size
  replace cb_x0_0 := (hb.cell (p := ⟨w6.heap.size, 0, none⟩) lt_x0).trans cb_x0_0
  replace lt_x0 := Nat.lt_of_lt_of_le lt_x0 hb.size
  replace cb_g0_0 := (hb.cell (p := ⟨w8.heap.size, 0, none⟩) lt_g0).trans cb_g0_0
  replace lt_g0 := Nat.lt_of_lt_of_le lt_g0 hb.size
  replace cb_h0_0 := (hb.cell (p := ⟨w17.heap.size, 0, none⟩) lt_h0).trans cb_h0_0
  replace lt_h0 := Nat.lt_of_lt_of_le lt_h0 hb.size
  replace hB := below_step hB hb hB.size
  clear hb
  go_wp2_with fail
  with_reducible refine (heldMulti_same _ _ _ _ _ _ h5 (by omega) (by omega)).mono ?_
  rintro e w20 ⟨rfl, hb⟩
  have hs_20 := hb.size
  replace h2 := h2.below hb
  replace h4 := h4.below hb
  replace h5 := h5.below hb
  replace h9 := h9.below hb
  replace cb_aM_0 := (hb.cell (p := ⟨W.heap.size, 0, none⟩) lt_aM).trans cb_aM_0
  replace lt_aM := Nat.lt_of_lt_of_le lt_aM hb.size
  replace cb_w0_0 := (hb.cell (p := ⟨w4.heap.size, 0, none⟩) lt_w0).trans cb_w0_0
  replace lt_w0 := Nat.lt_of_lt_of_le lt_w0 hb.size
  replace cb_x0_0 := (hb.cell (p := ⟨w6.heap.size, 0, none⟩) lt_x0).trans cb_x0_0
  replace lt_x0 := Nat.lt_of_lt_of_le lt_x0 hb.size
  replace cb_g0_0 := (hb.cell (p := ⟨w8.heap.size, 0, none⟩) lt_g0).trans cb_g0_0
  replace lt_g0 := Nat.lt_of_lt_of_le lt_g0 hb.size
  replace cb_h0_0 := (hb.cell (p := ⟨w17.heap.size, 0, none⟩) lt_h0).trans cb_h0_0
  replace lt_h0 := Nat.lt_of_lt_of_le lt_h0 hb.size
  replace hB := below_step hB hb hB.size
  clear hb
  go_wp2
  go_ret
  exact ⟨rfl, hB⟩

set_option maxRecDepth 100000 in
theorem fnExactRotateMulti_lifted (os : Os) (started : os.Started) (H : Type) (enc : TypeId × Value → H) :
    ReturnsInHanded {} Try.checked os 10 .any (Rows.fnExactRotateMultiSpec.pre6 enc Try.prog Try.f10 Rows.fnExactRotateMultiRow.domain false) (Rows.fnExactRotateMultiSpec.post enc Try.prog Try.f10 false true false false) := by
  refine returnsInHanded_of_change_sized (C := Try.checked) Try.own started (by kernel_rfl) Try.func10
    (ChangeSpec.witness6 (enc := enc) (C := Try.checked) false ⟨#[], #[.agg #[.slice none 0 0], .int .i64 0], []⟩ 8 (by kernel_rfl) (by kernel_rfl) (by kernel_rfl) (by kernel_rfl)) ?_
  intro W base args ds gs before hval0 hW _ hsz0 _
  have hsz : (DataW.weightsEach Try.prog (Try.f10.params.toList ++ Rows.fnExactRotateMultiSpec.plain.varTypes Try.prog) (ds ++ gs)).all (· ≤ reachBytes) = true := hsz0
  clear hsz0
  have hval : ∀ (j : Nat) t v, Try.f10.params[j]? = some t → args[j]? = some v → Value.okWide Try.prog W .any base t v := hval0
  have hW' := hW
  obtain ⟨p, q, hA0, hV, rfl, _, _⟩ := hW
  have hA : DataW.TrodAll enc Try.prog W 0 (fun _ => true) true Try.f10.params.toList args.toList ds p := hA0
  rw [Try.params10] at hA hval hsz
  obtain ⟨v0, v1, d0, d1, p0, p1, rfl, rfl, rfl, h0, h1⟩ := trodAll_two hA
  obtain ⟨rfl, rfl⟩ := trodVars_none hV
  clear hA0 hval0
  simp only [List.append_nil] at hW'
  have hlt : ∀ x ∈ p0 ++ p1, x.block < W.heap.size := fun x hx => by simpa using hW'.lt x (by simpa using hx)
  have h0k := h0
  obtain ⟨va0, R0, rfl, hA0⟩ := rdM_open (hval 0 31 v0 rfl rfl) h0 (fun x hx => by have := List.all_eq_true.1 hsz _ (DataW.weights_mem_each (j := 0) (t := 31) rfl rfl x hx); simpa using this)
  have h1k := h1
  obtain ⟨x1, rfl, rfl, rfl, wx1⟩ := open_int Try.underlying2 (hval 1 2 v1 rfl rfl) h1
  refine (fnExactRotateMulti_any0 W va0 R0 hA0 x1 wx1).mono fun e W' ⟨he, hb⟩ => ?_
  subst he
  exact ⟨_, rfl, _, _, _, [], _, [], hW', trodAll_mk1 (shut_bool Try.underlying4 true), (trodAll_mk2 (Below.trod Try.laidOut (by kernel_rfl) (of_decide_eq_true (by kernel_rfl)) h0k hb (fun x hx => hlt x (by simp [hx]))) (Below.trod Try.laidOut (by kernel_rfl) (of_decide_eq_true (by kernel_rfl)) h1k hb (fun x hx => by cases hx))), rfl, hb.frame _, fun h => by cases h⟩

theorem fnExactRotateMulti_holds : Rows.FnExactRotateMultiSaid :=
  OpenClaim.holds_of_wide 10 Try.f10 rfl rfl rfl rfl rfl rfl rfl ⟨rfl, rfl, rfl, rfl, rfl⟩ rfl rfl rfl rfl rfl (by kernel_rfl) Try.func10 (by kernel_rfl)
    (of_decide_eq_true (by kernel_rfl)) (by unfold Func.isWrapper; first | (rw [if_pos (by decide +kernel)]; kernel_rfl) | (rw [if_neg (by decide +kernel)]; exact ⟨rfl, rfl⟩))
    (fun os started H enc _ => fnExactRotateMulti_lifted os started H enc)

#print axioms fnExactRotateMulti_holds
end Go.Proofs.Ytnmmeiffgmbcpaa
