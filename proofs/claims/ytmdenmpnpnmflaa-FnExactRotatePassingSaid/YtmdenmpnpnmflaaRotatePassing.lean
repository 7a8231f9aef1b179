/-
  Proved here: the law FnExactRotatePassing returns true for all inputs. No condition.
-/
import Derived.Test.YtmdenmpnpnmflaaP11
import Derived.Deep.RegionHeld3
namespace Go.Proofs.Ytmdenmpnpnmflaa
open Go.ChangeShapes Go.WideShapes Go.ChangeAt Go.RowKit


set_option maxHeartbeats 4000000 in
theorem fnExactRotatePassing_any0 (W : World) (va0 vb0 : Value) (A0 B0 : List Th) (hA0 : RdP W va0 vb0 A0 B0) (_hwa0 : ∀ k, k < A0.length → (Lit.int .i64 (gt A0 k).1).wf = true) (_hwb0 : ∀ k, k < B0.length → (Lit.int .i64 (gt B0 k).1).wf = true) (x1 : Int) (_wx1 : (Lit.int .i64 x1).wf = true) : Calls Try.prog 3 #[.agg #[va0, vb0], .int .i64 x1] W fun e w' => e = .returned (.bool true) ∧ Below W.heap.size W w' := by
  obtain ⟨sa0, na0, ca0, sb0, nb0, cb0, rfl, rfl⟩ := hA0.form'
  have hB : Below W.heap.size W W := Below.refl _ _
  go_enter Try.func3, Try.ntmps3
  go_wp2_with fail
  generalize hW : (World.alloc W _) = w1
  have hb : Below W.heap.size W w1 := by rw [← hW]; exact (Below.refl _ _).alloc (Nat.le_refl _) _
  have hz_1 : W.heap.size + 1 ≤ w1.heap.size := by rw [← hW]; simp
  have cb_aP_0 : w1.cell? ⟨W.heap.size, 0, none⟩ = some (.slice sa0 na0 ca0) := by rw [← hW]; simp
  have cb_aP_1 : w1.cell? ⟨W.heap.size, 1, none⟩ = some (.slice sb0 nb0 cb0) := by rw [← hW]; simp
  have lt_aP : W.heap.size < w1.heap.size := by omega
  clear hW
  have hs_1 := hb.size
  replace hB := below_step hB hb hB.size
  clear hb
  by_cases hgz : ((A0.length : Int) + (B0.length : Int)) ≤ 1048576
  rotate_left
  · with_reducible refine (szPassing_no _ _ A0 B0 (1048576) _ (hA0.below hB) (by omega) (by omega) (by omega)).mono ?_
    rintro e w' ⟨rfl, hb⟩
    go_wp2
    go_ret
    exact ⟨rfl, below_step hB hb hB.size⟩
  with_reducible refine (szPassing_yes _ _ A0 B0 (1048576) _ (hA0.below hB) (by omega) (by omega) (by omega)).mono ?_
  rintro e w2 ⟨rfl, hb⟩
  have hs_2 := hb.size
  replace cb_aP_0 := (hb.cell (p := ⟨W.heap.size, 0, none⟩) lt_aP).trans cb_aP_0
  replace cb_aP_1 := (hb.cell (p := ⟨W.heap.size, 1, none⟩) lt_aP).trans cb_aP_1
  replace lt_aP := Nat.lt_of_lt_of_le lt_aP hb.size
  replace hB := below_step hB hb hB.size
  clear hb
  have hgq_2 : ((A0.length : Int) + (B0.length : Int)) ≤ 1048576 := by omega
  clear hgz
  go_wp2_with fail
  with_reducible refine (toPassing_any _ _ A0 B0 _ (hA0.below hB)).mono ?_
  rintro e w3 ⟨u1, u1b, rfl, h1, hb⟩
  have hs_3 := hb.size
  replace cb_aP_0 := (hb.cell (p := ⟨W.heap.size, 0, none⟩) lt_aP).trans cb_aP_0
  replace cb_aP_1 := (hb.cell (p := ⟨W.heap.size, 1, none⟩) lt_aP).trans cb_aP_1
  replace lt_aP := Nat.lt_of_lt_of_le lt_aP hb.size
  replace hB := below_step hB hb hB.size
  clear hb
  obtain ⟨s1, n1, c1, s1b, n1b, c1b, rfl, rfl⟩ := h1.rd.form'
  go_wp2_with fail
  with_reducible refine (specRotateP_any _ _ A0 B0 x1 _ h1.rd ).mono ?_
  rintro e w4 ⟨u2, u2b, rfl, h2, hb⟩
  have hs_4 := hb.size
  replace h1 := h1.below hb
  replace cb_aP_0 := (hb.cell (p := ⟨W.heap.size, 0, none⟩) lt_aP).trans cb_aP_0
  replace cb_aP_1 := (hb.cell (p := ⟨W.heap.size, 1, none⟩) lt_aP).trans cb_aP_1
  replace lt_aP := Nat.lt_of_lt_of_le lt_aP hb.size
  replace hB := below_step hB hb hB.size
  clear hb
  obtain ⟨s3, n3, c3, s3b, n3b, c3b, rfl, rfl⟩ := h2.rd.form'
  clear h1
  go_wp2_with fail
  generalize hW : (World.alloc w4 _) = w5
  have hb : Below w4.heap.size w4 w5 := by rw [← hW]; exact (Below.refl _ _).alloc (Nat.le_refl _) _
  have hz_5 : w4.heap.size + 1 ≤ w5.heap.size := by rw [← hW]; simp
  have cb_w0_0 : w5.cell? ⟨w4.heap.size, 0, none⟩ = some (.slice s3 n3 c3) := by rw [← hW]; simp
  have cb_w0_1 : w5.cell? ⟨w4.heap.size, 1, none⟩ = some (.slice s3b n3b c3b) := by rw [← hW]; simp
  have lt_w0 : w4.heap.size < w5.heap.size := by omega
  clear hW
  have hs_5 := hb.size
  replace h2 := h2.below hb
  replace cb_aP_0 := (hb.cell (p := ⟨W.heap.size, 0, none⟩) lt_aP).trans cb_aP_0
  replace cb_aP_1 := (hb.cell (p := ⟨W.heap.size, 1, none⟩) lt_aP).trans cb_aP_1
  replace lt_aP := Nat.lt_of_lt_of_le lt_aP hb.size
  replace hB := below_step hB hb hB.size
  clear hb
  with_reducible refine (toPassing_any _ _ A0 B0 _ (hA0.below hB)).mono ?_
  rintro e w6 ⟨u4, u4b, rfl, h4, hb⟩
  have hs_6 := hb.size
  replace h2 := h2.below hb
  replace cb_aP_0 := (hb.cell (p := ⟨W.heap.size, 0, none⟩) lt_aP).trans cb_aP_0
  replace cb_aP_1 := (hb.cell (p := ⟨W.heap.size, 1, none⟩) lt_aP).trans cb_aP_1
  replace lt_aP := Nat.lt_of_lt_of_le lt_aP hb.size
  replace cb_w0_0 := (hb.cell (p := ⟨w4.heap.size, 0, none⟩) lt_w0).trans cb_w0_0
  replace cb_w0_1 := (hb.cell (p := ⟨w4.heap.size, 1, none⟩) lt_w0).trans cb_w0_1
  replace lt_w0 := Nat.lt_of_lt_of_le lt_w0 hb.size
  replace hB := below_step hB hb hB.size
  clear hb
  obtain ⟨s4, n4, c4, s4b, n4b, c4b, rfl, rfl⟩ := h4.rd.form'
  go_wp2_with fail
  generalize hW : (World.alloc w6 _) = w7
  have hb : Below w6.heap.size w6 w7 := by rw [← hW]; exact (Below.refl _ _).alloc (Nat.le_refl _) _
  have hz_7 : w6.heap.size + 1 ≤ w7.heap.size := by rw [← hW]; simp
  have cb_x0_0 : w7.cell? ⟨w6.heap.size, 0, none⟩ = some (.slice s4 n4 c4) := by rw [← hW]; simp
  have cb_x0_1 : w7.cell? ⟨w6.heap.size, 1, none⟩ = some (.slice s4b n4b c4b) := by rw [← hW]; simp
  have lt_x0 : w6.heap.size < w7.heap.size := by omega
  clear hW
  have hs_7 := hb.size
  replace h2 := h2.below hb
  replace h4 := h4.below hb
  replace cb_aP_0 := (hb.cell (p := ⟨W.heap.size, 0, none⟩) lt_aP).trans cb_aP_0
  replace cb_aP_1 := (hb.cell (p := ⟨W.heap.size, 1, none⟩) lt_aP).trans cb_aP_1
  replace lt_aP := Nat.lt_of_lt_of_le lt_aP hb.size
  replace cb_w0_0 := (hb.cell (p := ⟨w4.heap.size, 0, none⟩) lt_w0).trans cb_w0_0
  replace cb_w0_1 := (hb.cell (p := ⟨w4.heap.size, 1, none⟩) lt_w0).trans cb_w0_1
  replace lt_w0 := Nat.lt_of_lt_of_le lt_w0 hb.size
  replace hB := below_step hB hb hB.size
  clear hb
  with_reducible refine (implRotateP_any _ _ A0 B0 x1 _ h4.rd ).mono ?_
  rintro e w8 ⟨u5, u5b, rfl, h5, hb⟩
  have hs_8 := hb.size
  replace h2 := h2.below hb
  replace h4 := h4.below hb
  replace cb_aP_0 := (hb.cell (p := ⟨W.heap.size, 0, none⟩) lt_aP).trans cb_aP_0
  replace cb_aP_1 := (hb.cell (p := ⟨W.heap.size, 1, none⟩) lt_aP).trans cb_aP_1
  replace lt_aP := Nat.lt_of_lt_of_le lt_aP hb.size
  replace cb_w0_0 := (hb.cell (p := ⟨w4.heap.size, 0, none⟩) lt_w0).trans cb_w0_0
  replace cb_w0_1 := (hb.cell (p := ⟨w4.heap.size, 1, none⟩) lt_w0).trans cb_w0_1
  replace lt_w0 := Nat.lt_of_lt_of_le lt_w0 hb.size
  replace cb_x0_0 := (hb.cell (p := ⟨w6.heap.size, 0, none⟩) lt_x0).trans cb_x0_0
  replace cb_x0_1 := (hb.cell (p := ⟨w6.heap.size, 1, none⟩) lt_x0).trans cb_x0_1
  replace lt_x0 := Nat.lt_of_lt_of_le lt_x0 hb.size
  replace hB := below_step hB hb hB.size
  clear hb
  obtain ⟨s6, n6, c6, s6b, n6b, c6b, rfl, rfl⟩ := h5.rd.form'
  go_wp2_with fail
  generalize hW : (World.alloc w8 _) = w9
  have hb : Below w8.heap.size w8 w9 := by rw [← hW]; exact (Below.refl _ _).alloc (Nat.le_refl _) _
  have hz_9 : w8.heap.size + 1 ≤ w9.heap.size := by rw [← hW]; simp
  have cb_g0_0 : w9.cell? ⟨w8.heap.size, 0, none⟩ = some (.slice s6 n6 c6) := by rw [← hW]; simp
  have cb_g0_1 : w9.cell? ⟨w8.heap.size, 1, none⟩ = some (.slice s6b n6b c6b) := by rw [← hW]; simp
  have lt_g0 : w8.heap.size < w9.heap.size := by omega
  clear hW
  have hs_9 := hb.size
  replace h2 := h2.below hb
  replace h4 := h4.below hb
  replace h5 := h5.below hb
  replace cb_aP_0 := (hb.cell (p := ⟨W.heap.size, 0, none⟩) lt_aP).trans cb_aP_0
  replace cb_aP_1 := (hb.cell (p := ⟨W.heap.size, 1, none⟩) lt_aP).trans cb_aP_1
  replace lt_aP := Nat.lt_of_lt_of_le lt_aP hb.size
  replace cb_w0_0 := (hb.cell (p := ⟨w4.heap.size, 0, none⟩) lt_w0).trans cb_w0_0
  replace cb_w0_1 := (hb.cell (p := ⟨w4.heap.size, 1, none⟩) lt_w0).trans cb_w0_1
  replace lt_w0 := Nat.lt_of_lt_of_le lt_w0 hb.size
  replace cb_x0_0 := (hb.cell (p := ⟨w6.heap.size, 0, none⟩) lt_x0).trans cb_x0_0
  replace cb_x0_1 := (hb.cell (p := ⟨w6.heap.size, 1, none⟩) lt_x0).trans cb_x0_1
  replace lt_x0 := Nat.lt_of_lt_of_le lt_x0 hb.size
  replace hB := below_step hB hb hB.size
  clear hb
  with_reducible refine (eqPassing_same _ _ _ _ _ _ _ h5.rd h2.rd).mono ?_
  rintro e w10 ⟨rfl, hb⟩
  have hs_10 := hb.size
  replace h2 := h2.below hb
  replace h4 := h4.below hb
  replace h5 := h5.below hb
  replace cb_aP_0 := (hb.cell (p := ⟨W.heap.size, 0, none⟩) lt_aP).trans cb_aP_0
  replace cb_aP_1 := (hb.cell (p := ⟨W.heap.size, 1, none⟩) lt_aP).trans cb_aP_1
  replace lt_aP := Nat.lt_of_lt_of_le lt_aP hb.size
  replace cb_w0_0 := (hb.cell (p := ⟨w4.heap.size, 0, none⟩) lt_w0).trans cb_w0_0
  replace cb_w0_1 := (hb.cell (p := ⟨w4.heap.size, 1, none⟩) lt_w0).trans cb_w0_1
  replace lt_w0 := Nat.lt_of_lt_of_le lt_w0 hb.size
  replace cb_x0_0 := (hb.cell (p := ⟨w6.heap.size, 0, none⟩) lt_x0).trans cb_x0_0
  replace cb_x0_1 := (hb.cell (p := ⟨w6.heap.size, 1, none⟩) lt_x0).trans cb_x0_1
  replace lt_x0 := Nat.lt_of_lt_of_le lt_x0 hb.size
  replace cb_g0_0 := (hb.cell (p := ⟨w8.heap.size, 0, none⟩) lt_g0).trans cb_g0_0
  replace cb_g0_1 := (hb.cell (p := ⟨w8.heap.size, 1, none⟩) lt_g0).trans cb_g0_1
  replace lt_g0 := Nat.lt_of_lt_of_le lt_g0 hb.size
  replace hB := below_step hB hb hB.size
  clear hb
  go_wp2
  have hBd := hB.drew
  have hda := hA0.below hBd
  go_region_held3 (fun w' => w'.cell? ⟨W.heap.size, 0, none⟩ = some (.slice sa0 na0 ca0) ∧ w'.cell? ⟨W.heap.size, 1, none⟩ = some (.slice sb0 nb0 cb0) ∧ w'.cell? ⟨w4.heap.size, 0, none⟩ = some (.slice s3 n3 c3) ∧ w'.cell? ⟨w4.heap.size, 1, none⟩ = some (.slice s3b n3b c3b) ∧ w'.cell? ⟨w6.heap.size, 0, none⟩ = some (.slice s4 n4 c4) ∧ w'.cell? ⟨w6.heap.size, 1, none⟩ = some (.slice s4b n4b c4b) ∧ w'.cell? ⟨w8.heap.size, 0, none⟩ = some (.slice s6 n6 c6) ∧ w'.cell? ⟨w8.heap.size, 1, none⟩ = some (.slice s6b n6b c6b))
    (first | go_keep | (go_split_ands; exact ⟨(hba.cell (p := ⟨W.heap.size, 0, none⟩) lt_aP).trans (by assumption), (hba.cell (p := ⟨W.heap.size, 1, none⟩) lt_aP).trans (by assumption), (hba.cell (p := ⟨w4.heap.size, 0, none⟩) lt_w0).trans (by assumption), (hba.cell (p := ⟨w4.heap.size, 1, none⟩) lt_w0).trans (by assumption), (hba.cell (p := ⟨w6.heap.size, 0, none⟩) lt_x0).trans (by assumption), (hba.cell (p := ⟨w6.heap.size, 1, none⟩) lt_x0).trans (by assumption), (hba.cell (p := ⟨w8.heap.size, 0, none⟩) lt_g0).trans (by assumption), (hba.cell (p := ⟨w8.heap.size, 1, none⟩) lt_g0).trans (by assumption)⟩) | (go_split_ands; exact ⟨(hbb.cell (p := ⟨W.heap.size, 0, none⟩) (Nat.lt_of_lt_of_le lt_aP hba.size)).trans (by assumption), (hbb.cell (p := ⟨W.heap.size, 1, none⟩) (Nat.lt_of_lt_of_le lt_aP hba.size)).trans (by assumption), (hbb.cell (p := ⟨w4.heap.size, 0, none⟩) (Nat.lt_of_lt_of_le lt_w0 hba.size)).trans (by assumption), (hbb.cell (p := ⟨w4.heap.size, 1, none⟩) (Nat.lt_of_lt_of_le lt_w0 hba.size)).trans (by assumption), (hbb.cell (p := ⟨w6.heap.size, 0, none⟩) (Nat.lt_of_lt_of_le lt_x0 hba.size)).trans (by assumption), (hbb.cell (p := ⟨w6.heap.size, 1, none⟩) (Nat.lt_of_lt_of_le lt_x0 hba.size)).trans (by assumption), (hbb.cell (p := ⟨w8.heap.size, 0, none⟩) (Nat.lt_of_lt_of_le lt_g0 hba.size)).trans (by assumption), (hbb.cell (p := ⟨w8.heap.size, 1, none⟩) (Nat.lt_of_lt_of_le lt_g0 hba.size)).trans (by assumption)⟩))
    (first | (go_at_call 7; (with_reducible refine (toPassing_any _ _ A0 B0 _ hda).mono ?_); rintro e wa7 ⟨u7, u7b, rfl, hua, hba⟩; obtain ⟨s7, n7, c7, s7b, n7b, c7b, rfl, rfl⟩ := hua.rd.form'; have hxx := OwnP.below (w := w10.drew) h4 hba) | (go_at_call 9; (with_reducible refine (eqPassing_same _ _ _ _ A0 B0 _ hxx.rd hua.rd).mono ?_); rintro e w11 ⟨rfl, hbb⟩))
  have hb : Below w10.heap.size w10 w11 := below_step (below_step (Below.refl _ _).drew hba (Nat.le_refl _)) hbb hba.size
  clear hua hba hbb hda hBd hxx
  have hs_11 := hb.size
  replace h2 := h2.below hb
  replace h4 := h4.below hb
  replace h5 := h5.below hb
  replace cb_aP_0 := (hb.cell (p := ⟨W.heap.size, 0, none⟩) lt_aP).trans cb_aP_0
  replace cb_aP_1 := (hb.cell (p := ⟨W.heap.size, 1, none⟩) lt_aP).trans cb_aP_1
  replace lt_aP := Nat.lt_of_lt_of_le lt_aP hb.size
  replace cb_w0_0 := (hb.cell (p := ⟨w4.heap.size, 0, none⟩) lt_w0).trans cb_w0_0
  replace cb_w0_1 := (hb.cell (p := ⟨w4.heap.size, 1, none⟩) lt_w0).trans cb_w0_1
  replace lt_w0 := Nat.lt_of_lt_of_le lt_w0 hb.size
  replace cb_x0_0 := (hb.cell (p := ⟨w6.heap.size, 0, none⟩) lt_x0).trans cb_x0_0
  replace cb_x0_1 := (hb.cell (p := ⟨w6.heap.size, 1, none⟩) lt_x0).trans cb_x0_1
  replace lt_x0 := Nat.lt_of_lt_of_le lt_x0 hb.size
  replace cb_g0_0 := (hb.cell (p := ⟨w8.heap.size, 0, none⟩) lt_g0).trans cb_g0_0
  replace cb_g0_1 := (hb.cell (p := ⟨w8.heap.size, 1, none⟩) lt_g0).trans cb_g0_1
  replace lt_g0 := Nat.lt_of_lt_of_le lt_g0 hb.size
  replace hB := below_step hB hb hB.size
  clear hb
  go_wp2_with fail
  with_reducible refine (markPassing_any _ _ A0 B0 _ _ _ _ h4 (by omega) (by omega)).mono ?_
  rintro e w12 ⟨rfl, hm, hc⟩
  have hs_12 := hc.size
  replace h2 := h2.kept hc (by omega)
  replace h5 := h5.kept hc (by omega)
  replace cb_aP_0 := (chg_cell hc lt_aP (by omega) 0).trans cb_aP_0
  replace cb_aP_1 := (chg_cell hc lt_aP (by omega) 1).trans cb_aP_1
  replace lt_aP := Nat.lt_of_lt_of_le lt_aP hc.size
  replace cb_w0_0 := (chg_cell hc lt_w0 (by omega) 0).trans cb_w0_0
  replace cb_w0_1 := (chg_cell hc lt_w0 (by omega) 1).trans cb_w0_1
  replace lt_w0 := Nat.lt_of_lt_of_le lt_w0 hc.size
  replace cb_x0_0 := (chg_cell hc lt_x0 (by omega) 0).trans cb_x0_0
  replace cb_x0_1 := (chg_cell hc lt_x0 (by omega) 1).trans cb_x0_1
  replace lt_x0 := Nat.lt_of_lt_of_le lt_x0 hc.size
  replace cb_g0_0 := (chg_cell hc lt_g0 (by omega) 0).trans cb_g0_0
  replace cb_g0_1 := (chg_cell hc lt_g0 (by omega) 1).trans cb_g0_1
  replace lt_g0 := Nat.lt_of_lt_of_le lt_g0 hc.size
  replace hB := below_chg_step hB hc hB.size (by omega)
  clear hc
  clear h4
  have h4 := hm
  clear hm
  have hk_12 : decide ((1 + (2 * (A0.length : Int) + 2 * (B0.length : Int))) < 0) = false := by simp; omega
  go_wp2_with fail
  with_reducible refine (eqPassing_same _ _ _ _ _ _ _ h5.rd h2.rd).mono ?_
  rintro e w13 ⟨rfl, hb⟩
  have hs_13 := hb.size
  replace h2 := h2.below hb
  replace h4 := h4.below hb
  replace h5 := h5.below hb
  replace cb_aP_0 := (hb.cell (p := ⟨W.heap.size, 0, none⟩) lt_aP).trans cb_aP_0
  replace cb_aP_1 := (hb.cell (p := ⟨W.heap.size, 1, none⟩) lt_aP).trans cb_aP_1
  replace lt_aP := Nat.lt_of_lt_of_le lt_aP hb.size
  replace cb_w0_0 := (hb.cell (p := ⟨w4.heap.size, 0, none⟩) lt_w0).trans cb_w0_0
  replace cb_w0_1 := (hb.cell (p := ⟨w4.heap.size, 1, none⟩) lt_w0).trans cb_w0_1
  replace lt_w0 := Nat.lt_of_lt_of_le lt_w0 hb.size
  replace cb_x0_0 := (hb.cell (p := ⟨w6.heap.size, 0, none⟩) lt_x0).trans cb_x0_0
  replace cb_x0_1 := (hb.cell (p := ⟨w6.heap.size, 1, none⟩) lt_x0).trans cb_x0_1
  replace lt_x0 := Nat.lt_of_lt_of_le lt_x0 hb.size
  replace cb_g0_0 := (hb.cell (p := ⟨w8.heap.size, 0, none⟩) lt_g0).trans cb_g0_0
  replace cb_g0_1 := (hb.cell (p := ⟨w8.heap.size, 1, none⟩) lt_g0).trans cb_g0_1
  replace lt_g0 := Nat.lt_of_lt_of_le lt_g0 hb.size
  replace hB := below_step hB hb hB.size
  clear hb
  go_wp2_with fail
  with_reducible refine (markPassing_any _ _ _ _ _ _ _ _ h5 (by omega) (by omega)).mono ?_
  rintro e w14 ⟨rfl, hm, hc⟩
  have hs_14 := hc.size
  replace h2 := h2.kept hc (by omega)
  replace h4 := h4.kept hc (by omega)
  replace cb_aP_0 := (chg_cell hc lt_aP (by omega) 0).trans cb_aP_0
  replace cb_aP_1 := (chg_cell hc lt_aP (by omega) 1).trans cb_aP_1
  replace lt_aP := Nat.lt_of_lt_of_le lt_aP hc.size
  replace cb_w0_0 := (chg_cell hc lt_w0 (by omega) 0).trans cb_w0_0
  replace cb_w0_1 := (chg_cell hc lt_w0 (by omega) 1).trans cb_w0_1
  replace lt_w0 := Nat.lt_of_lt_of_le lt_w0 hc.size
  replace cb_x0_0 := (chg_cell hc lt_x0 (by omega) 0).trans cb_x0_0
  replace cb_x0_1 := (chg_cell hc lt_x0 (by omega) 1).trans cb_x0_1
  replace lt_x0 := Nat.lt_of_lt_of_le lt_x0 hc.size
  replace cb_g0_0 := (chg_cell hc lt_g0 (by omega) 0).trans cb_g0_0
  replace cb_g0_1 := (chg_cell hc lt_g0 (by omega) 1).trans cb_g0_1
  replace lt_g0 := Nat.lt_of_lt_of_le lt_g0 hc.size
  replace hB := below_chg_step hB hc hB.size (by omega)
  clear hc
  clear h5
  have h5 := hm
  clear hm
  go_wp2_with fail
  with_reducible refine (heldPassing_same _ _ _ _ _ _ _ _ h5 (by omega) (by omega)).mono ?_
  rintro e w15 ⟨rfl, hb⟩
  have hs_15 := hb.size
  replace h2 := h2.below hb
  replace h4 := h4.below hb
  replace h5 := h5.below hb
  replace cb_aP_0 := (hb.cell (p := ⟨W.heap.size, 0, none⟩) lt_aP).trans cb_aP_0
  replace cb_aP_1 := (hb.cell (p := ⟨W.heap.size, 1, none⟩) lt_aP).trans cb_aP_1
  replace lt_aP := Nat.lt_of_lt_of_le lt_aP hb.size
  replace cb_w0_0 := (hb.cell (p := ⟨w4.heap.size, 0, none⟩) lt_w0).trans cb_w0_0
  replace cb_w0_1 := (hb.cell (p := ⟨w4.heap.size, 1, none⟩) lt_w0).trans cb_w0_1
  replace lt_w0 := Nat.lt_of_lt_of_le lt_w0 hb.size
  replace cb_x0_0 := (hb.cell (p := ⟨w6.heap.size, 0, none⟩) lt_x0).trans cb_x0_0
  replace cb_x0_1 := (hb.cell (p := ⟨w6.heap.size, 1, none⟩) lt_x0).trans cb_x0_1
  replace lt_x0 := Nat.lt_of_lt_of_le lt_x0 hb.size
  replace cb_g0_0 := (hb.cell (p := ⟨w8.heap.size, 0, none⟩) lt_g0).trans cb_g0_0
  replace cb_g0_1 := (hb.cell (p := ⟨w8.heap.size, 1, none⟩) lt_g0).trans cb_g0_1
  replace lt_g0 := Nat.lt_of_lt_of_le lt_g0 hb.size
  replace hB := below_step hB hb hB.size
  clear hb
  go_wp2_with fail
  with_reducible refine (toPassing_any _ _ A0 B0 _ (hA0.below hB)).mono ?_
  rintro e w16 ⟨u8, u8b, rfl, h8, hb⟩
  have hs_16 := hb.size
  replace h2 := h2.below hb
  replace h4 := h4.below hb
  replace h5 := h5.below hb
  replace cb_aP_0 := (hb.cell (p := ⟨W.heap.size, 0, none⟩) lt_aP).trans cb_aP_0
  replace cb_aP_1 := (hb.cell (p := ⟨W.heap.size, 1, none⟩) lt_aP).trans cb_aP_1
  replace lt_aP := Nat.lt_of_lt_of_le lt_aP hb.size
  replace cb_w0_0 := (hb.cell (p := ⟨w4.heap.size, 0, none⟩) lt_w0).trans cb_w0_0
  replace cb_w0_1 := (hb.cell (p := ⟨w4.heap.size, 1, none⟩) lt_w0).trans cb_w0_1
  replace lt_w0 := Nat.lt_of_lt_of_le lt_w0 hb.size
  replace cb_x0_0 := (hb.cell (p := ⟨w6.heap.size, 0, none⟩) lt_x0).trans cb_x0_0
  replace cb_x0_1 := (hb.cell (p := ⟨w6.heap.size, 1, none⟩) lt_x0).trans cb_x0_1
  replace lt_x0 := Nat.lt_of_lt_of_le lt_x0 hb.size
  replace cb_g0_0 := (hb.cell (p := ⟨w8.heap.size, 0, none⟩) lt_g0).trans cb_g0_0
  replace cb_g0_1 := (hb.cell (p := ⟨w8.heap.size, 1, none⟩) lt_g0).trans cb_g0_1
  replace lt_g0 := Nat.lt_of_lt_of_le lt_g0 hb.size
  replace hB := below_step hB hb hB.size
  clear hb
  obtain ⟨s8, n8, c8, s8b, n8b, c8b, rfl, rfl⟩ := h8.rd.form'
  go_wp2_with fail
  with_reducible refine (implRotateP_any _ _ A0 B0 x1 _ h8.rd ).mono ?_
  rintro e w17 ⟨u9, u9b, rfl, h9, hb⟩
  have hs_17 := hb.size
  replace h2 := h2.below hb
  replace h4 := h4.below hb
  replace h5 := h5.below hb
  replace h8 := h8.below hb
  replace cb_aP_0 := (hb.cell (p := ⟨W.heap.size, 0, none⟩) lt_aP).trans cb_aP_0
  replace cb_aP_1 := (hb.cell (p := ⟨W.heap.size, 1, none⟩) lt_aP).trans cb_aP_1
  replace lt_aP := Nat.lt_of_lt_of_le lt_aP hb.size
  replace cb_w0_0 := (hb.cell (p := ⟨w4.heap.size, 0, none⟩) lt_w0).trans cb_w0_0
  replace cb_w0_1 := (hb.cell (p := ⟨w4.heap.size, 1, none⟩) lt_w0).trans cb_w0_1
  replace lt_w0 := Nat.lt_of_lt_of_le lt_w0 hb.size
  replace cb_x0_0 := (hb.cell (p := ⟨w6.heap.size, 0, none⟩) lt_x0).trans cb_x0_0
  replace cb_x0_1 := (hb.cell (p := ⟨w6.heap.size, 1, none⟩) lt_x0).trans cb_x0_1
  replace lt_x0 := Nat.lt_of_lt_of_le lt_x0 hb.size
  replace cb_g0_0 := (hb.cell (p := ⟨w8.heap.size, 0, none⟩) lt_g0).trans cb_g0_0
  replace cb_g0_1 := (hb.cell (p := ⟨w8.heap.size, 1, none⟩) lt_g0).trans cb_g0_1
  replace lt_g0 := Nat.lt_of_lt_of_le lt_g0 hb.size
  replace hB := below_step hB hb hB.size
  clear hb
  obtain ⟨s10, n10, c10, s10b, n10b, c10b, rfl, rfl⟩ := h9.rd.form'
  clear h8
  go_wp2_with fail
  generalize hW : (World.alloc w17 _) = w18
  have hb : Below w17.heap.size w17 w18 := by rw [← hW]; exact (Below.refl _ _).alloc (Nat.le_refl _) _
  have hz_18 : w17.heap.size + 1 ≤ w18.heap.size := by rw [← hW]; simp
  have cb_h0_0 : w18.cell? ⟨w17.heap.size, 0, none⟩ = some (.slice s10 n10 c10) := by rw [← hW]; simp
  have cb_h0_1 : w18.cell? ⟨w17.heap.size, 1, none⟩ = some (.slice s10b n10b c10b) := by rw [← hW]; simp
  have lt_h0 : w17.heap.size < w18.heap.size := by omega
  clear hW
  have hs_18 := hb.size
  replace h2 := h2.below hb
  replace h4 := h4.below hb
  replace h5 := h5.below hb
  replace h9 := h9.below hb
  replace cb_aP_0 := (hb.cell (p := ⟨W.heap.size, 0, none⟩) lt_aP).trans cb_aP_0
  replace cb_aP_1 := (hb.cell (p := ⟨W.heap.size, 1, none⟩) lt_aP).trans cb_aP_1
  replace lt_aP := Nat.lt_of_lt_of_le lt_aP hb.size
  replace cb_w0_0 := (hb.cell (p := ⟨w4.heap.size, 0, none⟩) lt_w0).trans cb_w0_0
  replace cb_w0_1 := (hb.cell (p := ⟨w4.heap.size, 1, none⟩) lt_w0).trans cb_w0_1
  replace lt_w0 := Nat.lt_of_lt_of_le lt_w0 hb.size
  replace cb_x0_0 := (hb.cell (p := ⟨w6.heap.size, 0, none⟩) lt_x0).trans cb_x0_0
  replace cb_x0_1 := (hb.cell (p := ⟨w6.heap.size, 1, none⟩) lt_x0).trans cb_x0_1
  replace lt_x0 := Nat.lt_of_lt_of_le lt_x0 hb.size
  replace cb_g0_0 := (hb.cell (p := ⟨w8.heap.size, 0, none⟩) lt_g0).trans cb_g0_0
  replace cb_g0_1 := (hb.cell (p := ⟨w8.heap.size, 1, none⟩) lt_g0).trans cb_g0_1
  replace lt_g0 := Nat.lt_of_lt_of_le lt_g0 hb.size
  replace hB := below_step hB hb hB.size
  clear hb
  with_reducible refine (eqPassing_same _ _ _ _ _ _ _ h9.rd h2.rd).mono ?_
  rintro e w19 ⟨rfl, hb⟩
  have hs_19 := hb.size
  replace h2 := h2.below hb
  replace h4 := h4.below hb
  replace h5 := h5.below hb
  replace h9 := h9.below hb
  replace cb_aP_0 := (hb.cell (p := ⟨W.heap.size, 0, none⟩) lt_aP).trans cb_aP_0
  replace cb_aP_1 := (hb.cell (p := ⟨W.heap.size, 1, none⟩) lt_aP).trans cb_aP_1
  replace lt_aP := Nat.lt_of_lt_of_le lt_aP hb.size
  replace cb_w0_0 := (hb.cell (p := ⟨w4.heap.size, 0, none⟩) lt_w0).trans cb_w0_0
  replace cb_w0_1 := (hb.cell (p := ⟨w4.heap.size, 1, none⟩) lt_w0).trans cb_w0_1
  replace lt_w0 := Nat.lt_of_lt_of_le lt_w0 hb.size
  replace cb_x0_0 := (hb.cell (p := ⟨w6.heap.size, 0, none⟩) lt_x0).trans cb_x0_0
  replace cb_x0_1 := (hb.cell (p := ⟨w6.heap.size, 1, none⟩) lt_x0).trans cb_x0_1
  replace lt_x0 := Nat.lt_of_lt_of_le lt_x0 hb.size
  replace cb_g0_0 := (hb.cell (p := ⟨w8.heap.size, 0, none⟩) lt_g0).trans cb_g0_0
  replace cb_g0_1 := (hb.cell (p := ⟨w8.heap.size, 1, none⟩) lt_g0).trans cb_g0_1
  replace lt_g0 := Nat.lt_of_lt_of_le lt_g0 hb.size
  replace cb_h0_0 := (hb.cell (p := ⟨w17.heap.size, 0, none⟩) lt_h0).trans cb_h0_0
  replace cb_h0_1 := (hb.cell (p := ⟨w17.heap.size, 1, none⟩) lt_h0).trans cb_h0_1
  replace lt_h0 := Nat.lt_of_lt_of_le lt_h0 hb.size
  replace hB := below_step hB hb hB.size
  clear hb
  go_wp2_with fail
  with_reducible refine (heldPassing_same _ _ _ _ _ _ _ _ h5 (by omega) (by omega)).mono ?_
  rintro e w20 ⟨rfl, hb⟩
  have hs_20 := hb.size
  replace h2 := h2.below hb
  replace h4 := h4.below hb
  replace h5 := h5.below hb
  replace h9 := h9.below hb
  replace cb_aP_0 := (hb.cell (p := ⟨W.heap.size, 0, none⟩) lt_aP).trans cb_aP_0
  replace cb_aP_1 := (hb.cell (p := ⟨W.heap.size, 1, none⟩) lt_aP).trans cb_aP_1
  replace lt_aP := Nat.lt_of_lt_of_le lt_aP hb.size
  replace cb_w0_0 := (hb.cell (p := ⟨w4.heap.size, 0, none⟩) lt_w0).trans cb_w0_0
  replace cb_w0_1 := (hb.cell (p := ⟨w4.heap.size, 1, none⟩) lt_w0).trans cb_w0_1
  replace lt_w0 := Nat.lt_of_lt_of_le lt_w0 hb.size
  replace cb_x0_0 := (hb.cell (p := ⟨w6.heap.size, 0, none⟩) lt_x0).trans cb_x0_0
  replace cb_x0_1 := (hb.cell (p := ⟨w6.heap.size, 1, none⟩) lt_x0).trans cb_x0_1
  replace lt_x0 := Nat.lt_of_lt_of_le lt_x0 hb.size
  replace cb_g0_0 := (hb.cell (p := ⟨w8.heap.size, 0, none⟩) lt_g0).trans cb_g0_0
  replace cb_g0_1 := (hb.cell (p := ⟨w8.heap.size, 1, none⟩) lt_g0).trans cb_g0_1
  replace lt_g0 := Nat.lt_of_lt_of_le lt_g0 hb.size
  replace cb_h0_0 := (hb.cell (p := ⟨w17.heap.size, 0, none⟩) lt_h0).trans cb_h0_0
  replace cb_h0_1 := (hb.cell (p := ⟨w17.heap.size, 1, none⟩) lt_h0).trans cb_h0_1
  replace lt_h0 := Nat.lt_of_lt_of_le lt_h0 hb.size
  replace hB := below_step hB hb hB.size
  clear hb
  go_wp2
  go_ret
  exact ⟨rfl, hB⟩

set_option maxRecDepth 100000 in
theorem fnExactRotatePassing_lifted (os : Os) (started : os.Started) (H : Type) (enc : TypeId × Value → H) :
    ReturnsInHanded {} Try.checked os 3 .any (Rows.fnExactRotatePassingSpec.pre6 enc Try.prog Try.f3 Rows.fnExactRotatePassingRow.domain false) (Rows.fnExactRotatePassingSpec.post enc Try.prog Try.f3 false true false false) := by
  refine returnsInHanded_of_change_sized (C := Try.checked) Try.own started (by kernel_rfl) Try.func3
    (ChangeSpec.witness6 (enc := enc) (C := Try.checked) false ⟨#[], #[.agg #[.slice none 0 0, .slice none 0 0], .int .i64 0], []⟩ 8 (by kernel_rfl) (by kernel_rfl) (by kernel_rfl) (by kernel_rfl)) ?_
  intro W base args ds gs before hval0 hW _ hsz0 _
  have hsz : (DataW.weightsEach Try.prog (Try.f3.params.toList ++ Rows.fnExactRotatePassingSpec.plain.varTypes Try.prog) (ds ++ gs)).all (· ≤ reachBytes) = true := hsz0
  clear hsz0
  have hval : ∀ (j : Nat) t v, Try.f3.params[j]? = some t → args[j]? = some v → Value.okWide Try.prog W .any base t v := hval0
  have hW' := hW
  obtain ⟨p, q, hA0, hV, rfl, _, _⟩ := hW
  have hA : DataW.TrodAll enc Try.prog W 0 (fun _ => true) true Try.f3.params.toList args.toList ds p := hA0
  rw [Try.params3] at hA hval hsz
  obtain ⟨v0, v1, d0, d1, p0, p1, rfl, rfl, rfl, h0, h1⟩ := trodAll_two hA
  obtain ⟨rfl, rfl⟩ := trodVars_none hV
  clear hA0 hval0
  simp only [List.append_nil] at hW'
  have hlt : ∀ x ∈ p0 ++ p1, x.block < W.heap.size := fun x hx => by simpa using hW'.lt x (by simpa using hx)
  have h0k := h0
  obtain ⟨va0, vb0, A0, B0, rfl, hA0, hwa0, hwb0⟩ := rdP_open (hval 0 24 v0 rfl rfl) h0 (fun x hx => by have := List.all_eq_true.1 hsz _ (DataW.weights_mem_each (j := 0) (t := 24) rfl rfl x hx); simpa using this)
  have h1k := h1
  obtain ⟨x1, rfl, rfl, rfl, wx1⟩ := open_int Try.underlying2 (hval 1 2 v1 rfl rfl) h1
  refine (fnExactRotatePassing_any0 W va0 vb0 A0 B0 hA0 hwa0 hwb0 x1 wx1).mono fun e W' ⟨he, hb⟩ => ?_
  subst he
  exact ⟨_, rfl, _, _, _, [], _, [], hW', trodAll_mk1 (shut_bool Try.underlying4 true), (trodAll_mk2 (Below.trod Try.laidOut (by kernel_rfl) (of_decide_eq_true (by kernel_rfl)) h0k hb (fun x hx => hlt x (by simp [hx]))) (Below.trod Try.laidOut (by kernel_rfl) (of_decide_eq_true (by kernel_rfl)) h1k hb (fun x hx => by cases hx))), rfl, hb.frame _, fun h => by cases h⟩

theorem fnExactRotatePassing_holds : Rows.FnExactRotatePassingSaid :=
  OpenClaim.holds_of_wide 3 Try.f3 rfl rfl rfl rfl rfl rfl rfl ⟨rfl, rfl, rfl, rfl, rfl⟩ rfl rfl rfl rfl rfl (by kernel_rfl) Try.func3 (by kernel_rfl)
    (of_decide_eq_true (by kernel_rfl)) (by unfold Func.isWrapper; first | (rw [if_pos (by decide +kernel)]; kernel_rfl) | (rw [if_neg (by decide +kernel)]; exact ⟨rfl, rfl⟩))
    (fun os started H enc _ => fnExactRotatePassing_lifted os started H enc)

#print axioms fnExactRotatePassing_holds
end Go.Proofs.Ytmdenmpnpnmflaa
