/-
  Proved here: the law FnExactApartOf returns true for all inputs. No condition.
-/
import Derived.Test.YtfepgbpblbccbaaP7
import Derived.Deep.RegionHeld3
namespace Go.Proofs.Ytfepgbpblbccbaa
open Go.ChangeShapes Go.WideShapes Go.ChangeAt Go.RowKit


set_option maxHeartbeats 4000000 in
theorem fnExactApartOf_any0 (W : World) (va0 vb0 : Value) (A0 B0 : List Th) (hA0 : RdP W va0 vb0 A0 B0) (_hwa0 : ∀ k, k < A0.length → (Lit.int .i64 (gt A0 k).1).wf = true) (_hwb0 : ∀ k, k < B0.length → (Lit.int .i64 (gt B0 k).1).wf = true) : Calls Try.prog 8 #[.agg #[va0, vb0]] W fun e w' => e = .returned (.bool true) ∧ Below W.heap.size W w' := by
  obtain ⟨sa0, na0, ca0, sb0, nb0, cb0, rfl, rfl⟩ := hA0.form'
  have hB : Below W.heap.size W W := Below.refl _ _
  go_enter Try.func8, Try.ntmps8
  go_wp2_with fail
  generalize hW : (World.alloc W _) = w1
  have hb : Below W.heap.size W w1 := by rw [← hW]; exact (Below.refl _ _).alloc (Nat.le_refl _) _
  have hz_1 : W.heap.size + 1 ≤ w1.heap.size := by rw [← hW]; simp
  have cb_aP_0 : w1.cell? ⟨W.heap.size, 0, none⟩ = some (.slice sa0 na0 ca0) := by rw [← hW]; simp
  have cb_aP_1 : w1.cell? ⟨W.heap.size, 1, none⟩ = some (.slice sb0 nb0 cb0) := by rw [← hW]; simp
  have lt_aP : W.heap.size < w1.heap.size := by omega
  clear hW
  have hs_1 := hb.size
  replace hB := below_step hB hb hB.size
  clear hb
  by_cases hgz : ((A0.length : Int) + (B0.length : Int)) ≤ 1048576
  rotate_left
  · with_reducible refine (szPassing_no _ _ A0 B0 (1048576) _ (hA0.below hB) (by omega) (by omega) (by omega)).mono ?_
    rintro e w' ⟨rfl, hb⟩
    go_wp2
    go_ret
    exact ⟨rfl, below_step hB hb hB.size⟩
  with_reducible refine (szPassing_yes _ _ A0 B0 (1048576) _ (hA0.below hB) (by omega) (by omega) (by omega)).mono ?_
  rintro e w2 ⟨rfl, hb⟩
  have hs_2 := hb.size
  replace cb_aP_0 := (hb.cell (p := ⟨W.heap.size, 0, none⟩) lt_aP).trans cb_aP_0
  replace cb_aP_1 := (hb.cell (p := ⟨W.heap.size, 1, none⟩) lt_aP).trans cb_aP_1
  replace lt_aP := Nat.lt_of_lt_of_le lt_aP hb.size
  replace hB := below_step hB hb hB.size
  clear hb
  have hgq_2 : ((A0.length : Int) + (B0.length : Int)) ≤ 1048576 := by omega
  clear hgz
  go_wp2_with fail
  with_reducible refine (toPassing_any _ _ A0 B0 _ (hA0.below hB)).mono ?_
  rintro e w3 ⟨u1, u1b, rfl, h1, hb⟩
  have hs_3 := hb.size
  replace cb_aP_0 := (hb.cell (p := ⟨W.heap.size, 0, none⟩) lt_aP).trans cb_aP_0
  replace cb_aP_1 := (hb.cell (p := ⟨W.heap.size, 1, none⟩) lt_aP).trans cb_aP_1
  replace lt_aP := Nat.lt_of_lt_of_le lt_aP hb.size
  replace hB := below_step hB hb hB.size
  clear hb
  obtain ⟨s1, n1, c1, s1b, n1b, c1b, rfl, rfl⟩ := h1.rd.form'
  go_wp2_with fail
  with_reducible refine (specApart_any _ _ A0 B0 _ h1.rd ).mono ?_
  rintro e w4 ⟨u2, u3, mid4, rfl, h2, h3, hm1_4, hm2_4, hb⟩
  have hs_4 := hb.size
  replace h1 := h1.below hb
  replace cb_aP_0 := (hb.cell (p := ⟨W.heap.size, 0, none⟩) lt_aP).trans cb_aP_0
  replace cb_aP_1 := (hb.cell (p := ⟨W.heap.size, 1, none⟩) lt_aP).trans cb_aP_1
  replace lt_aP := Nat.lt_of_lt_of_le lt_aP hb.size
  replace hB := below_step hB hb hB.size
  clear hb
  have hlb_h2 := h2.1
  have hlb_h3 := h3.1
  clear h1
  go_wp2_with fail
  with_reducible refine (toPassing_any _ _ A0 B0 _ (hA0.below hB)).mono ?_
  rintro e w5 ⟨u6, u6b, rfl, h6, hb⟩
  have hs_5 := hb.size
  replace h2 := h2.below hb
  replace h3 := h3.below hb
  replace cb_aP_0 := (hb.cell (p := ⟨W.heap.size, 0, none⟩) lt_aP).trans cb_aP_0
  replace cb_aP_1 := (hb.cell (p := ⟨W.heap.size, 1, none⟩) lt_aP).trans cb_aP_1
  replace lt_aP := Nat.lt_of_lt_of_le lt_aP hb.size
  replace hB := below_step hB hb hB.size
  clear hb
  obtain ⟨s6, n6, c6, s6b, n6b, c6b, rfl, rfl⟩ := h6.rd.form'
  go_wp2_with fail
  generalize hW : (World.alloc w5 _) = w6
  have hb : Below w5.heap.size w5 w6 := by rw [← hW]; exact (Below.refl _ _).alloc (Nat.le_refl _) _
  have hz_6 : w5.heap.size + 1 ≤ w6.heap.size := by rw [← hW]; simp
  have cb_x0_0 : w6.cell? ⟨w5.heap.size, 0, none⟩ = some (.slice s6 n6 c6) := by rw [← hW]; simp
  have cb_x0_1 : w6.cell? ⟨w5.heap.size, 1, none⟩ = some (.slice s6b n6b c6b) := by rw [← hW]; simp
  have lt_x0 : w5.heap.size < w6.heap.size := by omega
  clear hW
  have hs_6 := hb.size
  replace h2 := h2.below hb
  replace h3 := h3.below hb
  replace h6 := h6.below hb
  replace cb_aP_0 := (hb.cell (p := ⟨W.heap.size, 0, none⟩) lt_aP).trans cb_aP_0
  replace cb_aP_1 := (hb.cell (p := ⟨W.heap.size, 1, none⟩) lt_aP).trans cb_aP_1
  replace lt_aP := Nat.lt_of_lt_of_le lt_aP hb.size
  replace hB := below_step hB hb hB.size
  clear hb
  with_reducible refine (implApart_any _ _ A0 B0 _ h6.rd ).mono ?_
  rintro e w7 ⟨u7, u8, mid7, rfl, h7, h8, hm1_7, hm2_7, hb⟩
  have hs_7 := hb.size
  replace h2 := h2.below hb
  replace h3 := h3.below hb
  replace h6 := h6.below hb
  replace cb_aP_0 := (hb.cell (p := ⟨W.heap.size, 0, none⟩) lt_aP).trans cb_aP_0
  replace cb_aP_1 := (hb.cell (p := ⟨W.heap.size, 1, none⟩) lt_aP).trans cb_aP_1
  replace lt_aP := Nat.lt_of_lt_of_le lt_aP hb.size
  replace cb_x0_0 := (hb.cell (p := ⟨w5.heap.size, 0, none⟩) lt_x0).trans cb_x0_0
  replace cb_x0_1 := (hb.cell (p := ⟨w5.heap.size, 1, none⟩) lt_x0).trans cb_x0_1
  replace lt_x0 := Nat.lt_of_lt_of_le lt_x0 hb.size
  replace hB := below_step hB hb hB.size
  clear hb
  have hlb_h7 := h7.1
  have hlb_h8 := h8.1
  go_wp2_with fail
  with_reducible refine (eqInt64S_same _ _ _ _ h7.rd h2.rd).mono ?_
  rintro e w8 ⟨rfl, hb⟩
  have hs_8 := hb.size
  replace h2 := h2.below hb
  replace h3 := h3.below hb
  replace h6 := h6.below hb
  replace h7 := h7.below hb
  replace h8 := h8.below hb
  replace cb_aP_0 := (hb.cell (p := ⟨W.heap.size, 0, none⟩) lt_aP).trans cb_aP_0
  replace cb_aP_1 := (hb.cell (p := ⟨W.heap.size, 1, none⟩) lt_aP).trans cb_aP_1
  replace lt_aP := Nat.lt_of_lt_of_le lt_aP hb.size
  replace cb_x0_0 := (hb.cell (p := ⟨w5.heap.size, 0, none⟩) lt_x0).trans cb_x0_0
  replace cb_x0_1 := (hb.cell (p := ⟨w5.heap.size, 1, none⟩) lt_x0).trans cb_x0_1
  replace lt_x0 := Nat.lt_of_lt_of_le lt_x0 hb.size
  replace hB := below_step hB hb hB.size
  clear hb
  go_wp2_with fail
  with_reducible refine (eqInt64S_same _ _ _ _ h8.rd h3.rd).mono ?_
  rintro e w9 ⟨rfl, hb⟩
  have hs_9 := hb.size
  replace h2 := h2.below hb
  replace h3 := h3.below hb
  replace h6 := h6.below hb
  replace h7 := h7.below hb
  replace h8 := h8.below hb
  replace cb_aP_0 := (hb.cell (p := ⟨W.heap.size, 0, none⟩) lt_aP).trans cb_aP_0
  replace cb_aP_1 := (hb.cell (p := ⟨W.heap.size, 1, none⟩) lt_aP).trans cb_aP_1
  replace lt_aP := Nat.lt_of_lt_of_le lt_aP hb.size
  replace cb_x0_0 := (hb.cell (p := ⟨w5.heap.size, 0, none⟩) lt_x0).trans cb_x0_0
  replace cb_x0_1 := (hb.cell (p := ⟨w5.heap.size, 1, none⟩) lt_x0).trans cb_x0_1
  replace lt_x0 := Nat.lt_of_lt_of_le lt_x0 hb.size
  replace hB := below_step hB hb hB.size
  clear hb
  go_wp2
  have hBd := hB.drew
  have hda := hA0.below hBd
  go_region_held3 (fun w' => w'.cell? ⟨W.heap.size, 0, none⟩ = some (.slice sa0 na0 ca0) ∧ w'.cell? ⟨W.heap.size, 1, none⟩ = some (.slice sb0 nb0 cb0) ∧ w'.cell? ⟨w5.heap.size, 0, none⟩ = some (.slice s6 n6 c6) ∧ w'.cell? ⟨w5.heap.size, 1, none⟩ = some (.slice s6b n6b c6b))
    (first | go_keep | (go_split_ands; exact ⟨(hba.cell (p := ⟨W.heap.size, 0, none⟩) lt_aP).trans (by assumption), (hba.cell (p := ⟨W.heap.size, 1, none⟩) lt_aP).trans (by assumption), (hba.cell (p := ⟨w5.heap.size, 0, none⟩) lt_x0).trans (by assumption), (hba.cell (p := ⟨w5.heap.size, 1, none⟩) lt_x0).trans (by assumption)⟩) | (go_split_ands; exact ⟨(hbb.cell (p := ⟨W.heap.size, 0, none⟩) (Nat.lt_of_lt_of_le lt_aP hba.size)).trans (by assumption), (hbb.cell (p := ⟨W.heap.size, 1, none⟩) (Nat.lt_of_lt_of_le lt_aP hba.size)).trans (by assumption), (hbb.cell (p := ⟨w5.heap.size, 0, none⟩) (Nat.lt_of_lt_of_le lt_x0 hba.size)).trans (by assumption), (hbb.cell (p := ⟨w5.heap.size, 1, none⟩) (Nat.lt_of_lt_of_le lt_x0 hba.size)).trans (by assumption)⟩))
    (first | (go_at_call 15; (with_reducible refine (toPassing_any _ _ A0 B0 _ hda).mono ?_); rintro e wa11 ⟨u11, u11b, rfl, hua, hba⟩; obtain ⟨s11, n11, c11, s11b, n11b, c11b, rfl, rfl⟩ := hua.rd.form'; have hxx := OwnP.below (w := w9.drew) h6 hba) | (go_at_call 17; (with_reducible refine (eqPassing_same _ _ _ _ A0 B0 _ hxx.rd hua.rd).mono ?_); rintro e w10 ⟨rfl, hbb⟩))
  have hb : Below w9.heap.size w9 w10 := below_step (below_step (Below.refl _ _).drew hba (Nat.le_refl _)) hbb hba.size
  clear hua hba hbb hda hBd hxx
  have hs_10 := hb.size
  replace h2 := h2.below hb
  replace h3 := h3.below hb
  replace h6 := h6.below hb
  replace h7 := h7.below hb
  replace h8 := h8.below hb
  replace cb_aP_0 := (hb.cell (p := ⟨W.heap.size, 0, none⟩) lt_aP).trans cb_aP_0
  replace cb_aP_1 := (hb.cell (p := ⟨W.heap.size, 1, none⟩) lt_aP).trans cb_aP_1
  replace lt_aP := Nat.lt_of_lt_of_le lt_aP hb.size
  replace cb_x0_0 := (hb.cell (p := ⟨w5.heap.size, 0, none⟩) lt_x0).trans cb_x0_0
  replace cb_x0_1 := (hb.cell (p := ⟨w5.heap.size, 1, none⟩) lt_x0).trans cb_x0_1
  replace lt_x0 := Nat.lt_of_lt_of_le lt_x0 hb.size
  replace hB := below_step hB hb hB.size
  clear hb
  go_wp2_with fail
  with_reducible refine (markPassing_any _ _ A0 B0 _ _ _ _ h6 (by omega) (by omega)).mono ?_
  rintro e w11 ⟨rfl, hm, hc⟩
  have hs_11 := hc.size
  replace h2 := h2.kept hc (by omega)
  replace h3 := h3.kept hc (by omega)
  replace h7 := h7.kept hc (by omega)
  replace h8 := h8.kept hc (by omega)
  replace cb_aP_0 := (chg_cell hc lt_aP (by omega) 0).trans cb_aP_0
  replace cb_aP_1 := (chg_cell hc lt_aP (by omega) 1).trans cb_aP_1
  replace lt_aP := Nat.lt_of_lt_of_le lt_aP hc.size
  replace cb_x0_0 := (chg_cell hc lt_x0 (by omega) 0).trans cb_x0_0
  replace cb_x0_1 := (chg_cell hc lt_x0 (by omega) 1).trans cb_x0_1
  replace lt_x0 := Nat.lt_of_lt_of_le lt_x0 hc.size
  replace hB := below_chg_step hB hc hB.size (by omega)
  clear hc
  clear h6
  have h6 := hm
  clear hm
  have hk_11 : decide ((1 + (2 * (A0.length : Int) + 2 * (B0.length : Int))) < 0) = false := by simp; omega
  go_wp2_with fail
  with_reducible refine (eqInt64S_same _ _ _ _ h7.rd h2.rd).mono ?_
  rintro e w12 ⟨rfl, hb⟩
  have hs_12 := hb.size
  replace h2 := h2.below hb
  replace h3 := h3.below hb
  replace h6 := h6.below hb
  replace h7 := h7.below hb
  replace h8 := h8.below hb
  replace cb_aP_0 := (hb.cell (p := ⟨W.heap.size, 0, none⟩) lt_aP).trans cb_aP_0
  replace cb_aP_1 := (hb.cell (p := ⟨W.heap.size, 1, none⟩) lt_aP).trans cb_aP_1
  replace lt_aP := Nat.lt_of_lt_of_le lt_aP hb.size
  replace cb_x0_0 := (hb.cell (p := ⟨w5.heap.size, 0, none⟩) lt_x0).trans cb_x0_0
  replace cb_x0_1 := (hb.cell (p := ⟨w5.heap.size, 1, none⟩) lt_x0).trans cb_x0_1
  replace lt_x0 := Nat.lt_of_lt_of_le lt_x0 hb.size
  replace hB := below_step hB hb hB.size
  clear hb
  go_wp2_with fail
  with_reducible refine (eqInt64S_same _ _ _ _ h8.rd h3.rd).mono ?_
  rintro e w13 ⟨rfl, hb⟩
  have hs_13 := hb.size
  replace h2 := h2.below hb
  replace h3 := h3.below hb
  replace h6 := h6.below hb
  replace h7 := h7.below hb
  replace h8 := h8.below hb
  replace cb_aP_0 := (hb.cell (p := ⟨W.heap.size, 0, none⟩) lt_aP).trans cb_aP_0
  replace cb_aP_1 := (hb.cell (p := ⟨W.heap.size, 1, none⟩) lt_aP).trans cb_aP_1
  replace lt_aP := Nat.lt_of_lt_of_le lt_aP hb.size
  replace cb_x0_0 := (hb.cell (p := ⟨w5.heap.size, 0, none⟩) lt_x0).trans cb_x0_0
  replace cb_x0_1 := (hb.cell (p := ⟨w5.heap.size, 1, none⟩) lt_x0).trans cb_x0_1
  replace lt_x0 := Nat.lt_of_lt_of_le lt_x0 hb.size
  replace hB := below_step hB hb hB.size
  clear hb
  go_wp2_with fail
  with_reducible refine (markInt64S_any _ _ _ _ _ _ h7 (by omega) (by omega)).mono ?_
  rintro e w14 ⟨rfl, hm, hc⟩
  have hs_14 := hc.size
  replace h2 := h2.kept hc (by omega)
  replace h3 := h3.kept hc (by omega)
  replace h6 := h6.kept hc (by omega)
  replace h8 := h8.kept hc (by omega)
  replace cb_aP_0 := (chg_cell hc lt_aP (by omega) 0).trans cb_aP_0
  replace cb_aP_1 := (chg_cell hc lt_aP (by omega) 1).trans cb_aP_1
  replace lt_aP := Nat.lt_of_lt_of_le lt_aP hc.size
  replace cb_x0_0 := (chg_cell hc lt_x0 (by omega) 0).trans cb_x0_0
  replace cb_x0_1 := (chg_cell hc lt_x0 (by omega) 1).trans cb_x0_1
  replace lt_x0 := Nat.lt_of_lt_of_le lt_x0 hc.size
  replace hB := below_chg_step hB hc hB.size (by omega)
  clear hc
  clear h7
  have h7 := hm
  clear hm
  go_wp2_with fail
  with_reducible refine (markInt64S_any _ _ _ _ _ _ h8 (by omega) (by omega)).mono ?_
  rintro e w15 ⟨rfl, hm, hc⟩
  have hs_15 := hc.size
  replace h2 := h2.kept hc (by omega)
  replace h3 := h3.kept hc (by omega)
  replace h6 := h6.kept hc (by omega)
  replace h7 := h7.kept hc (by omega)
  replace cb_aP_0 := (chg_cell hc lt_aP (by omega) 0).trans cb_aP_0
  replace cb_aP_1 := (chg_cell hc lt_aP (by omega) 1).trans cb_aP_1
  replace lt_aP := Nat.lt_of_lt_of_le lt_aP hc.size
  replace cb_x0_0 := (chg_cell hc lt_x0 (by omega) 0).trans cb_x0_0
  replace cb_x0_1 := (chg_cell hc lt_x0 (by omega) 1).trans cb_x0_1
  replace lt_x0 := Nat.lt_of_lt_of_le lt_x0 hc.size
  replace hB := below_chg_step hB hc hB.size (by omega)
  clear hc
  clear h8
  have h8 := hm
  clear hm
  go_wp2_with fail
  with_reducible refine (heldInt64S_same _ _ _ _ _ _ h7 (by omega) (by omega)).mono ?_
  rintro e w16 ⟨rfl, hb⟩
  have hs_16 := hb.size
  replace h2 := h2.below hb
  replace h3 := h3.below hb
  replace h6 := h6.below hb
  replace h7 := h7.below hb
  replace h8 := h8.below hb
  replace cb_aP_0 := (hb.cell (p := ⟨W.heap.size, 0, none⟩) lt_aP).trans cb_aP_0
  replace cb_aP_1 := (hb.cell (p := ⟨W.heap.size, 1, none⟩) lt_aP).trans cb_aP_1
  replace lt_aP := Nat.lt_of_lt_of_le lt_aP hb.size
  replace cb_x0_0 := (hb.cell (p := ⟨w5.heap.size, 0, none⟩) lt_x0).trans cb_x0_0
  replace cb_x0_1 := (hb.cell (p := ⟨w5.heap.size, 1, none⟩) lt_x0).trans cb_x0_1
  replace lt_x0 := Nat.lt_of_lt_of_le lt_x0 hb.size
  replace hB := below_step hB hb hB.size
  clear hb
  go_wp2_with fail
  with_reducible refine (heldInt64S_same _ _ _ _ _ _ h8 (by omega) (by omega)).mono ?_
  rintro e w17 ⟨rfl, hb⟩
  have hs_17 := hb.size
  replace h2 := h2.below hb
  replace h3 := h3.below hb
  replace h6 := h6.below hb
  replace h7 := h7.below hb
  replace h8 := h8.below hb
  replace cb_aP_0 := (hb.cell (p := ⟨W.heap.size, 0, none⟩) lt_aP).trans cb_aP_0
  replace cb_aP_1 := (hb.cell (p := ⟨W.heap.size, 1, none⟩) lt_aP).trans cb_aP_1
  replace lt_aP := Nat.lt_of_lt_of_le lt_aP hb.size
  replace cb_x0_0 := (hb.cell (p := ⟨w5.heap.size, 0, none⟩) lt_x0).trans cb_x0_0
  replace cb_x0_1 := (hb.cell (p := ⟨w5.heap.size, 1, none⟩) lt_x0).trans cb_x0_1
  replace lt_x0 := Nat.lt_of_lt_of_le lt_x0 hb.size
  replace hB := below_step hB hb hB.size
  clear hb
  go_wp2_with fail
  with_reducible refine (toPassing_any _ _ A0 B0 _ (hA0.below hB)).mono ?_
  rintro e w18 ⟨u12, u12b, rfl, h12, hb⟩
  have hs_18 := hb.size
  replace h2 := h2.below hb
  replace h3 := h3.below hb
  replace h6 := h6.below hb
  replace h7 := h7.below hb
  replace h8 := h8.below hb
  replace cb_aP_0 := (hb.cell (p := ⟨W.heap.size, 0, none⟩) lt_aP).trans cb_aP_0
  replace cb_aP_1 := (hb.cell (p := ⟨W.heap.size, 1, none⟩) lt_aP).trans cb_aP_1
  replace lt_aP := Nat.lt_of_lt_of_le lt_aP hb.size
  replace cb_x0_0 := (hb.cell (p := ⟨w5.heap.size, 0, none⟩) lt_x0).trans cb_x0_0
  replace cb_x0_1 := (hb.cell (p := ⟨w5.heap.size, 1, none⟩) lt_x0).trans cb_x0_1
  replace lt_x0 := Nat.lt_of_lt_of_le lt_x0 hb.size
  replace hB := below_step hB hb hB.size
  clear hb
  obtain ⟨s12, n12, c12, s12b, n12b, c12b, rfl, rfl⟩ := h12.rd.form'
  go_wp2_with fail
  with_reducible refine (implApart_any _ _ A0 B0 _ h12.rd ).mono ?_
  rintro e w19 ⟨u13, u14, mid19, rfl, h13, h14, hm1_19, hm2_19, hb⟩
  have hs_19 := hb.size
  replace h2 := h2.below hb
  replace h3 := h3.below hb
  replace h6 := h6.below hb
  replace h7 := h7.below hb
  replace h8 := h8.below hb
  replace h12 := h12.below hb
  replace cb_aP_0 := (hb.cell (p := ⟨W.heap.size, 0, none⟩) lt_aP).trans cb_aP_0
  replace cb_aP_1 := (hb.cell (p := ⟨W.heap.size, 1, none⟩) lt_aP).trans cb_aP_1
  replace lt_aP := Nat.lt_of_lt_of_le lt_aP hb.size
  replace cb_x0_0 := (hb.cell (p := ⟨w5.heap.size, 0, none⟩) lt_x0).trans cb_x0_0
  replace cb_x0_1 := (hb.cell (p := ⟨w5.heap.size, 1, none⟩) lt_x0).trans cb_x0_1
  replace lt_x0 := Nat.lt_of_lt_of_le lt_x0 hb.size
  replace hB := below_step hB hb hB.size
  clear hb
  have hlb_h13 := h13.1
  have hlb_h14 := h14.1
  clear h12
  go_wp2_with fail
  with_reducible refine (eqInt64S_same _ _ _ _ h13.rd h2.rd).mono ?_
  rintro e w20 ⟨rfl, hb⟩
  have hs_20 := hb.size
  replace h2 := h2.below hb
  replace h3 := h3.below hb
  replace h6 := h6.below hb
  replace h7 := h7.below hb
  replace h8 := h8.below hb
  replace h13 := h13.below hb
  replace h14 := h14.below hb
  replace cb_aP_0 := (hb.cell (p := ⟨W.heap.size, 0, none⟩) lt_aP).trans cb_aP_0
  replace cb_aP_1 := (hb.cell (p := ⟨W.heap.size, 1, none⟩) lt_aP).trans cb_aP_1
  replace lt_aP := Nat.lt_of_lt_of_le lt_aP hb.size
  replace cb_x0_0 := (hb.cell (p := ⟨w5.heap.size, 0, none⟩) lt_x0).trans cb_x0_0
  replace cb_x0_1 := (hb.cell (p := ⟨w5.heap.size, 1, none⟩) lt_x0).trans cb_x0_1
  replace lt_x0 := Nat.lt_of_lt_of_le lt_x0 hb.size
  replace hB := below_step hB hb hB.size
  clear hb
  go_wp2_with fail
  with_reducible refine (eqInt64S_same _ _ _ _ h14.rd h3.rd).mono ?_
  rintro e w21 ⟨rfl, hb⟩
  have hs_21 := hb.size
  replace h2 := h2.below hb
  replace h3 := h3.below hb
  replace h6 := h6.below hb
  replace h7 := h7.below hb
  replace h8 := h8.below hb
  replace h13 := h13.below hb
  replace h14 := h14.below hb
  replace cb_aP_0 := (hb.cell (p := ⟨W.heap.size, 0, none⟩) lt_aP).trans cb_aP_0
  replace cb_aP_1 := (hb.cell (p := ⟨W.heap.size, 1, none⟩) lt_aP).trans cb_aP_1
  replace lt_aP := Nat.lt_of_lt_of_le lt_aP hb.size
  replace cb_x0_0 := (hb.cell (p := ⟨w5.heap.size, 0, none⟩) lt_x0).trans cb_x0_0
  replace cb_x0_1 := (hb.cell (p := ⟨w5.heap.size, 1, none⟩) lt_x0).trans cb_x0_1
  replace lt_x0 := Nat.lt_of_lt_of_le lt_x0 hb.size
  replace hB := below_step hB hb hB.size
  clear hb
  go_wp2_with fail
  with_reducible refine (heldInt64S_same _ _ _ _ _ _ h7 (by omega) (by omega)).mono ?_
  rintro e w22 ⟨rfl, hb⟩
  have hs_22 := hb.size
  replace h2 := h2.below hb
  replace h3 := h3.below hb
  replace h6 := h6.below hb
  replace h7 := h7.below hb
  replace h8 := h8.below hb
  replace h13 := h13.below hb
  replace h14 := h14.below hb
  replace cb_aP_0 := (hb.cell (p := ⟨W.heap.size, 0, none⟩) lt_aP).trans cb_aP_0
  replace cb_aP_1 := (hb.cell (p := ⟨W.heap.size, 1, none⟩) lt_aP).trans cb_aP_1
  replace lt_aP := Nat.lt_of_lt_of_le lt_aP hb.size
  replace cb_x0_0 := (hb.cell (p := ⟨w5.heap.size, 0, none⟩) lt_x0).trans cb_x0_0
  replace cb_x0_1 := (hb.cell (p := ⟨w5.heap.size, 1, none⟩) lt_x0).trans cb_x0_1
  replace lt_x0 := Nat.lt_of_lt_of_le lt_x0 hb.size
  replace hB := below_step hB hb hB.size
  clear hb
  go_wp2_with fail
  with_reducible refine (heldInt64S_same _ _ _ _ _ _ h8 (by omega) (by omega)).mono ?_
  rintro e w23 ⟨rfl, hb⟩
  have hs_23 := hb.size
  replace h2 := h2.below hb
  replace h3 := h3.below hb
  replace h6 := h6.below hb
  replace h7 := h7.below hb
  replace h8 := h8.below hb
  replace h13 := h13.below hb
  replace h14 := h14.below hb
  replace cb_aP_0 := (hb.cell (p := ⟨W.heap.size, 0, none⟩) lt_aP).trans cb_aP_0
  replace cb_aP_1 := (hb.cell (p := ⟨W.heap.size, 1, none⟩) lt_aP).trans cb_aP_1
  replace lt_aP := Nat.lt_of_lt_of_le lt_aP hb.size
  replace cb_x0_0 := (hb.cell (p := ⟨w5.heap.size, 0, none⟩) lt_x0).trans cb_x0_0
  replace cb_x0_1 := (hb.cell (p := ⟨w5.heap.size, 1, none⟩) lt_x0).trans cb_x0_1
  replace lt_x0 := Nat.lt_of_lt_of_le lt_x0 hb.size
  replace hB := below_step hB hb hB.size
  clear hb
  go_wp2
  go_ret
  exact ⟨rfl, hB⟩

set_option maxRecDepth 100000 in
theorem fnExactApartOf_lifted (os : Os) (started : os.Started) (H : Type) (enc : TypeId × Value → H) :
    ReturnsInHanded {} Try.checked os 8 .any (Rows.fnExactApartOfSpec.pre6 enc Try.prog Try.f8 Rows.fnExactApartOfRow.domain false) (Rows.fnExactApartOfSpec.post enc Try.prog Try.f8 false true false false) := by
  refine returnsInHanded_of_change_sized (C := Try.checked) Try.own started (by kernel_rfl) Try.func8
    (ChangeSpec.witness6 (enc := enc) (C := Try.checked) false ⟨#[], #[.agg #[.slice none 0 0, .slice none 0 0]], []⟩ 8 (by kernel_rfl) (by kernel_rfl) (by kernel_rfl) (by kernel_rfl)) ?_
  intro W base args ds gs before hval0 hW _ hsz0 _
  have hsz : (DataW.weightsEach Try.prog (Try.f8.params.toList ++ Rows.fnExactApartOfSpec.plain.varTypes Try.prog) (ds ++ gs)).all (· ≤ reachBytes) = true := hsz0
  clear hsz0
  have hval : ∀ (j : Nat) t v, Try.f8.params[j]? = some t → args[j]? = some v → Value.okWide Try.prog W .any base t v := hval0
  have hW' := hW
  obtain ⟨p, q, hA0, hV, rfl, _, _⟩ := hW
  have hA : DataW.TrodAll enc Try.prog W 0 (fun _ => true) true Try.f8.params.toList args.toList ds p := hA0
  rw [Try.params8] at hA hval hsz
  obtain ⟨v0, d0, rfl, rfl, h0⟩ := trodAll_one hA
  obtain ⟨rfl, rfl⟩ := trodVars_none hV
  clear hA0 hval0
  simp only [List.append_nil] at hW'
  have hlt : ∀ x ∈ p, x.block < W.heap.size := fun x hx => by simpa using hW'.lt x (by simpa using hx)
  have h0k := h0
  obtain ⟨va0, vb0, A0, B0, rfl, hA0, hwa0, hwb0⟩ := rdP_open (hval 0 24 v0 rfl rfl) h0 (fun x hx => by have := List.all_eq_true.1 hsz _ (DataW.weights_mem_each (j := 0) (t := 24) rfl rfl x hx); simpa using this)
  refine (fnExactApartOf_any0 W va0 vb0 A0 B0 hA0 hwa0 hwb0).mono fun e W' ⟨he, hb⟩ => ?_
  subst he
  exact ⟨_, rfl, _, _, _, [], _, [], hW', trodAll_mk1 (shut_bool Try.underlying4 true), (trodAll_mk1 (Below.trod Try.laidOut (by kernel_rfl) (of_decide_eq_true (by kernel_rfl)) h0k hb (fun x hx => hlt x (by simp [hx])))), rfl, hb.frame _, fun h => by cases h⟩

theorem fnExactApartOf_holds : Rows.FnExactApartOfSaid :=
  OpenClaim.holds_of_wide 8 Try.f8 rfl rfl rfl rfl rfl rfl rfl ⟨rfl, rfl, rfl, rfl, rfl⟩ rfl rfl rfl rfl rfl (by kernel_rfl) Try.func8 (by kernel_rfl)
    (of_decide_eq_true (by kernel_rfl)) (by unfold Func.isWrapper; first | (rw [if_pos (by decide +kernel)]; kernel_rfl) | (rw [if_neg (by decide +kernel)]; exact ⟨rfl, rfl⟩))
    (fun os started H enc _ => fnExactApartOf_lifted os started H enc)

#print axioms fnExactApartOf_holds
end Go.Proofs.Ytfepgbpblbccbaa
