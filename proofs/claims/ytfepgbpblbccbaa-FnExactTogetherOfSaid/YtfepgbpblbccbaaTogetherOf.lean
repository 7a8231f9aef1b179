/-
  Proved here: the law FnExactTogetherOf returns true for all inputs. No condition.
-/
import Derived.Test.YtfepgbpblbccbaaP8
import Derived.Deep.RegionHeld3
namespace Go.Proofs.Ytfepgbpblbccbaa
open Go.ChangeShapes Go.WideShapes Go.ChangeAt Go.RowKit


set_option maxHeartbeats 4000000 in
theorem fnExactTogetherOf_any0 (W : World) (v0 : Value) (A0 : List Int) (hA0 : Rd W v0 A0) (_hw0 : ∀ n ∈ A0, (Lit.int .i64 n).wf = true) (v1 : Value) (A1 : List Int) (hA1 : Rd W v1 A1) (_hw1 : ∀ n ∈ A1, (Lit.int .i64 n).wf = true) : Calls Try.prog 7 #[v0, v1] W fun e w' => e = .returned (.bool true) ∧ Below W.heap.size W w' := by
  obtain ⟨hl0, a0, c0, rfl, hc0⟩ := hA0
  have hA0 : Rd W (.slice a0 A0.length c0) A0 := ⟨hl0, a0, c0, rfl, hc0⟩
  clear hc0
  obtain ⟨hl1, a1, c1, rfl, hc1⟩ := hA1
  have hA1 : Rd W (.slice a1 A1.length c1) A1 := ⟨hl1, a1, c1, rfl, hc1⟩
  clear hc1
  by_cases hg0 : A0.length ≤ 1048576
  rotate_left
  · go_enter Try.func7, Try.ntmps7
    go_wp2
    go_ret
    exact ⟨rfl, Below.refl _ _⟩
  by_cases hg1 : A1.length ≤ 1048576
  rotate_left
  · go_enter Try.func7, Try.ntmps7
    go_wp2
    go_ret
    exact ⟨rfl, Below.refl _ _⟩
  have hB : Below W.heap.size W W := Below.refl _ _
  go_enter Try.func7, Try.ntmps7
  go_wp2_with fail
  with_reducible refine (toInt64S_any _ A0 _ (hA0.below hB)).mono ?_
  rintro e w1 ⟨u1, rfl, h1, hb⟩
  have hs_1 := hb.size
  replace hB := below_step hB hb hB.size
  clear hb
  go_wp2_with fail
  with_reducible refine (toInt64S_any _ A1 _ (hA1.below hB)).mono ?_
  rintro e w2 ⟨u2, rfl, h2, hb⟩
  have hs_2 := hb.size
  replace h1 := h1.below hb
  replace hB := below_step hB hb hB.size
  clear hb
  go_wp2_with fail
  with_reducible refine (specTogether_any _ A0 _ A1 _ h1.rd h2.rd ).mono ?_
  rintro e w3 ⟨u3, u3b, rfl, h3, hb⟩
  have hs_3 := hb.size
  replace h1 := h1.below hb
  replace h2 := h2.below hb
  replace hB := below_step hB hb hB.size
  clear hb
  obtain ⟨s4, n4, c4, s4b, n4b, c4b, rfl, rfl⟩ := h3.rd.form'
  clear h1
  clear h2
  go_wp2_with fail
  generalize hW : (World.alloc w3 _) = w4
  have hb : Below w3.heap.size w3 w4 := by rw [← hW]; exact (Below.refl _ _).alloc (Nat.le_refl _) _
  have hz_4 : w3.heap.size + 1 ≤ w4.heap.size := by rw [← hW]; simp
  have cb_w0_0 : w4.cell? ⟨w3.heap.size, 0, none⟩ = some (.slice s4 n4 c4) := by rw [← hW]; simp
  have cb_w0_1 : w4.cell? ⟨w3.heap.size, 1, none⟩ = some (.slice s4b n4b c4b) := by rw [← hW]; simp
  have lt_w0 : w3.heap.size < w4.heap.size := by omega
  clear hW
  have hs_4 := hb.size
  replace h3 := h3.below hb
  replace hB := below_step hB hb hB.size
  clear hb
  with_reducible refine (toInt64S_any _ A0 _ (hA0.below hB)).mono ?_
  rintro e w5 ⟨u5, rfl, h5, hb⟩
  have hs_5 := hb.size
  replace h3 := h3.below hb
  replace cb_w0_0 := (hb.cell (p := ⟨w3.heap.size, 0, none⟩) lt_w0).trans cb_w0_0
  replace cb_w0_1 := (hb.cell (p := ⟨w3.heap.size, 1, none⟩) lt_w0).trans cb_w0_1
  replace lt_w0 := Nat.lt_of_lt_of_le lt_w0 hb.size
  replace hB := below_step hB hb hB.size
  clear hb
  go_wp2_with fail
  with_reducible refine (toInt64S_any _ A1 _ (hA1.below hB)).mono ?_
  rintro e w6 ⟨u6, rfl, h6, hb⟩
  have hs_6 := hb.size
  replace h3 := h3.below hb
  replace h5 := h5.below hb
  replace cb_w0_0 := (hb.cell (p := ⟨w3.heap.size, 0, none⟩) lt_w0).trans cb_w0_0
  replace cb_w0_1 := (hb.cell (p := ⟨w3.heap.size, 1, none⟩) lt_w0).trans cb_w0_1
  replace lt_w0 := Nat.lt_of_lt_of_le lt_w0 hb.size
  replace hB := below_step hB hb hB.size
  clear hb
  go_wp2_with fail
  with_reducible refine (implTogether_any _ A0 _ A1 _ h5.rd h6.rd ).mono ?_
  rintro e w7 ⟨u7, u7b, rfl, h7, hb⟩
  have hs_7 := hb.size
  replace h3 := h3.below hb
  replace h5 := h5.below hb
  replace h6 := h6.below hb
  replace cb_w0_0 := (hb.cell (p := ⟨w3.heap.size, 0, none⟩) lt_w0).trans cb_w0_0
  replace cb_w0_1 := (hb.cell (p := ⟨w3.heap.size, 1, none⟩) lt_w0).trans cb_w0_1
  replace lt_w0 := Nat.lt_of_lt_of_le lt_w0 hb.size
  replace hB := below_step hB hb hB.size
  clear hb
  obtain ⟨s8, n8, c8, s8b, n8b, c8b, rfl, rfl⟩ := h7.rd.form'
  go_wp2_with fail
  generalize hW : (World.alloc w7 _) = w8
  have hb : Below w7.heap.size w7 w8 := by rw [← hW]; exact (Below.refl _ _).alloc (Nat.le_refl _) _
  have hz_8 : w7.heap.size + 1 ≤ w8.heap.size := by rw [← hW]; simp
  have cb_g0_0 : w8.cell? ⟨w7.heap.size, 0, none⟩ = some (.slice s8 n8 c8) := by rw [← hW]; simp
  have cb_g0_1 : w8.cell? ⟨w7.heap.size, 1, none⟩ = some (.slice s8b n8b c8b) := by rw [← hW]; simp
  have lt_g0 : w7.heap.size < w8.heap.size := by omega
  clear hW
  have hs_8 := hb.size
  replace h3 := h3.below hb
  replace h5 := h5.below hb
  replace h6 := h6.below hb
  replace h7 := h7.below hb
  replace cb_w0_0 := (hb.cell (p := ⟨w3.heap.size, 0, none⟩) lt_w0).trans cb_w0_0
  replace cb_w0_1 := (hb.cell (p := ⟨w3.heap.size, 1, none⟩) lt_w0).trans cb_w0_1
  replace lt_w0 := Nat.lt_of_lt_of_le lt_w0 hb.size
  replace hB := below_step hB hb hB.size
  clear hb
  with_reducible refine (eqPassing_same _ _ _ _ _ _ _ h7.rd h3.rd).mono ?_
  rintro e w9 ⟨rfl, hb⟩
  have hs_9 := hb.size
  replace h3 := h3.below hb
  replace h5 := h5.below hb
  replace h6 := h6.below hb
  replace h7 := h7.below hb
  replace cb_w0_0 := (hb.cell (p := ⟨w3.heap.size, 0, none⟩) lt_w0).trans cb_w0_0
  replace cb_w0_1 := (hb.cell (p := ⟨w3.heap.size, 1, none⟩) lt_w0).trans cb_w0_1
  replace lt_w0 := Nat.lt_of_lt_of_le lt_w0 hb.size
  replace cb_g0_0 := (hb.cell (p := ⟨w7.heap.size, 0, none⟩) lt_g0).trans cb_g0_0
  replace cb_g0_1 := (hb.cell (p := ⟨w7.heap.size, 1, none⟩) lt_g0).trans cb_g0_1
  replace lt_g0 := Nat.lt_of_lt_of_le lt_g0 hb.size
  replace hB := below_step hB hb hB.size
  clear hb
  go_wp2_with fail
  with_reducible refine (toInt64S_any _ A0 _ (hA0.below hB)).mono ?_
  rintro e w10 ⟨u9, rfl, h9, hb⟩
  have hs_10 := hb.size
  replace h3 := h3.below hb
  replace h5 := h5.below hb
  replace h6 := h6.below hb
  replace h7 := h7.below hb
  replace cb_w0_0 := (hb.cell (p := ⟨w3.heap.size, 0, none⟩) lt_w0).trans cb_w0_0
  replace cb_w0_1 := (hb.cell (p := ⟨w3.heap.size, 1, none⟩) lt_w0).trans cb_w0_1
  replace lt_w0 := Nat.lt_of_lt_of_le lt_w0 hb.size
  replace cb_g0_0 := (hb.cell (p := ⟨w7.heap.size, 0, none⟩) lt_g0).trans cb_g0_0
  replace cb_g0_1 := (hb.cell (p := ⟨w7.heap.size, 1, none⟩) lt_g0).trans cb_g0_1
  replace lt_g0 := Nat.lt_of_lt_of_le lt_g0 hb.size
  replace hB := below_step hB hb hB.size
  clear hb
  go_wp2_with fail
  with_reducible refine (eqInt64S_same _ _ A0 _ h5.rd h9.rd).mono ?_
  rintro e w11 ⟨rfl, hb⟩
  have hs_11 := hb.size
  replace h3 := h3.below hb
  replace h5 := h5.below hb
  replace h6 := h6.below hb
  replace h7 := h7.below hb
  replace h9 := h9.below hb
  replace cb_w0_0 := (hb.cell (p := ⟨w3.heap.size, 0, none⟩) lt_w0).trans cb_w0_0
  replace cb_w0_1 := (hb.cell (p := ⟨w3.heap.size, 1, none⟩) lt_w0).trans cb_w0_1
  replace lt_w0 := Nat.lt_of_lt_of_le lt_w0 hb.size
  replace cb_g0_0 := (hb.cell (p := ⟨w7.heap.size, 0, none⟩) lt_g0).trans cb_g0_0
  replace cb_g0_1 := (hb.cell (p := ⟨w7.heap.size, 1, none⟩) lt_g0).trans cb_g0_1
  replace lt_g0 := Nat.lt_of_lt_of_le lt_g0 hb.size
  replace hB := below_step hB hb hB.size
  clear hb
  clear h9
  go_wp2_with fail
  with_reducible refine (toInt64S_any _ A1 _ (hA1.below hB)).mono ?_
  rintro e w12 ⟨u10, rfl, h10, hb⟩
  have hs_12 := hb.size
  replace h3 := h3.below hb
  replace h5 := h5.below hb
  replace h6 := h6.below hb
  replace h7 := h7.below hb
  replace cb_w0_0 := (hb.cell (p := ⟨w3.heap.size, 0, none⟩) lt_w0).trans cb_w0_0
  replace cb_w0_1 := (hb.cell (p := ⟨w3.heap.size, 1, none⟩) lt_w0).trans cb_w0_1
  replace lt_w0 := Nat.lt_of_lt_of_le lt_w0 hb.size
  replace cb_g0_0 := (hb.cell (p := ⟨w7.heap.size, 0, none⟩) lt_g0).trans cb_g0_0
  replace cb_g0_1 := (hb.cell (p := ⟨w7.heap.size, 1, none⟩) lt_g0).trans cb_g0_1
  replace lt_g0 := Nat.lt_of_lt_of_le lt_g0 hb.size
  replace hB := below_step hB hb hB.size
  clear hb
  go_wp2_with fail
  with_reducible refine (eqInt64S_same _ _ A1 _ h6.rd h10.rd).mono ?_
  rintro e w13 ⟨rfl, hb⟩
  have hs_13 := hb.size
  replace h3 := h3.below hb
  replace h5 := h5.below hb
  replace h6 := h6.below hb
  replace h7 := h7.below hb
  replace h10 := h10.below hb
  replace cb_w0_0 := (hb.cell (p := ⟨w3.heap.size, 0, none⟩) lt_w0).trans cb_w0_0
  replace cb_w0_1 := (hb.cell (p := ⟨w3.heap.size, 1, none⟩) lt_w0).trans cb_w0_1
  replace lt_w0 := Nat.lt_of_lt_of_le lt_w0 hb.size
  replace cb_g0_0 := (hb.cell (p := ⟨w7.heap.size, 0, none⟩) lt_g0).trans cb_g0_0
  replace cb_g0_1 := (hb.cell (p := ⟨w7.heap.size, 1, none⟩) lt_g0).trans cb_g0_1
  replace lt_g0 := Nat.lt_of_lt_of_le lt_g0 hb.size
  replace hB := below_step hB hb hB.size
  clear hb
  clear h10
  go_wp2_with fail
  with_reducible refine (markInt64S_any _ A0 _ _ _ _ h5 (by omega) (by omega)).mono ?_
  rintro e w14 ⟨rfl, hm, hc⟩
  have hs_14 := hc.size
  replace h3 := h3.kept hc (by omega)
  replace h6 := h6.kept hc (by omega)
  replace h7 := h7.kept hc (by omega)
  replace cb_w0_0 := (chg_cell hc lt_w0 (by omega) 0).trans cb_w0_0
  replace cb_w0_1 := (chg_cell hc lt_w0 (by omega) 1).trans cb_w0_1
  replace lt_w0 := Nat.lt_of_lt_of_le lt_w0 hc.size
  replace cb_g0_0 := (chg_cell hc lt_g0 (by omega) 0).trans cb_g0_0
  replace cb_g0_1 := (chg_cell hc lt_g0 (by omega) 1).trans cb_g0_1
  replace lt_g0 := Nat.lt_of_lt_of_le lt_g0 hc.size
  replace hB := below_chg_step hB hc hB.size (by omega)
  clear hc
  clear h5
  have h5 := hm
  clear hm
  have hk_14 : decide ((1 + ((A0.length : Int))) < 0) = false := by simp; omega
  go_wp2_with fail
  with_reducible refine (markInt64S_any _ A1 _ _ _ _ h6 (by omega) (by omega)).mono ?_
  rintro e w15 ⟨rfl, hm, hc⟩
  have hs_15 := hc.size
  replace h3 := h3.kept hc (by omega)
  replace h5 := h5.kept hc (by omega)
  replace h7 := h7.kept hc (by omega)
  replace cb_w0_0 := (chg_cell hc lt_w0 (by omega) 0).trans cb_w0_0
  replace cb_w0_1 := (chg_cell hc lt_w0 (by omega) 1).trans cb_w0_1
  replace lt_w0 := Nat.lt_of_lt_of_le lt_w0 hc.size
  replace cb_g0_0 := (chg_cell hc lt_g0 (by omega) 0).trans cb_g0_0
  replace cb_g0_1 := (chg_cell hc lt_g0 (by omega) 1).trans cb_g0_1
  replace lt_g0 := Nat.lt_of_lt_of_le lt_g0 hc.size
  replace hB := below_chg_step hB hc hB.size (by omega)
  clear hc
  clear h6
  have h6 := hm
  clear hm
  have hk_15 : decide (((1 + ((A0.length : Int))) + ((A1.length : Int))) < 0) = false := by simp; omega
  go_wp2_with fail
  with_reducible refine (eqPassing_same _ _ _ _ _ _ _ h7.rd h3.rd).mono ?_
  rintro e w16 ⟨rfl, hb⟩
  have hs_16 := hb.size
  replace h3 := h3.below hb
  replace h5 := h5.below hb
  replace h6 := h6.below hb
  replace h7 := h7.below hb
  replace cb_w0_0 := (hb.cell (p := ⟨w3.heap.size, 0, none⟩) lt_w0).trans cb_w0_0
  replace cb_w0_1 := (hb.cell (p := ⟨w3.heap.size, 1, none⟩) lt_w0).trans cb_w0_1
  replace lt_w0 := Nat.lt_of_lt_of_le lt_w0 hb.size
  replace cb_g0_0 := (hb.cell (p := ⟨w7.heap.size, 0, none⟩) lt_g0).trans cb_g0_0
  replace cb_g0_1 := (hb.cell (p := ⟨w7.heap.size, 1, none⟩) lt_g0).trans cb_g0_1
  replace lt_g0 := Nat.lt_of_lt_of_le lt_g0 hb.size
  replace hB := below_step hB hb hB.size
  clear hb
  go_wp2_with fail
  with_reducible refine (markPassing_any _ _ _ _ _ _ _ _ h7 (by omega) (by omega)).mono ?_
  rintro e w17 ⟨rfl, hm, hc⟩
  have hs_17 := hc.size
  replace h3 := h3.kept hc (by omega)
  replace h5 := h5.kept hc (by omega)
  replace h6 := h6.kept hc (by omega)
  replace cb_w0_0 := (chg_cell hc lt_w0 (by omega) 0).trans cb_w0_0
  replace cb_w0_1 := (chg_cell hc lt_w0 (by omega) 1).trans cb_w0_1
  replace lt_w0 := Nat.lt_of_lt_of_le lt_w0 hc.size
  replace cb_g0_0 := (chg_cell hc lt_g0 (by omega) 0).trans cb_g0_0
  replace cb_g0_1 := (chg_cell hc lt_g0 (by omega) 1).trans cb_g0_1
  replace lt_g0 := Nat.lt_of_lt_of_le lt_g0 hc.size
  replace hB := below_chg_step hB hc hB.size (by omega)
  clear hc
  clear h7
  have h7 := hm
  clear hm
  go_wp2_with fail
  with_reducible refine (heldPassing_same _ _ _ _ _ _ _ _ h7 (by omega) (by omega)).mono ?_
  rintro e w18 ⟨rfl, hb⟩
  have hs_18 := hb.size
  replace h3 := h3.below hb
  replace h5 := h5.below hb
  replace h6 := h6.below hb
  replace h7 := h7.below hb
  replace cb_w0_0 := (hb.cell (p := ⟨w3.heap.size, 0, none⟩) lt_w0).trans cb_w0_0
  replace cb_w0_1 := (hb.cell (p := ⟨w3.heap.size, 1, none⟩) lt_w0).trans cb_w0_1
  replace lt_w0 := Nat.lt_of_lt_of_le lt_w0 hb.size
  replace cb_g0_0 := (hb.cell (p := ⟨w7.heap.size, 0, none⟩) lt_g0).trans cb_g0_0
  replace cb_g0_1 := (hb.cell (p := ⟨w7.heap.size, 1, none⟩) lt_g0).trans cb_g0_1
  replace lt_g0 := Nat.lt_of_lt_of_le lt_g0 hb.size
  replace hB := below_step hB hb hB.size
  clear hb
  go_wp2_with fail
  with_reducible refine (toInt64S_any _ A0 _ (hA0.below hB)).mono ?_
  rintro e w19 ⟨u11, rfl, h11, hb⟩
  have hs_19 := hb.size
  replace h3 := h3.below hb
  replace h5 := h5.below hb
  replace h6 := h6.below hb
  replace h7 := h7.below hb
  replace cb_w0_0 := (hb.cell (p := ⟨w3.heap.size, 0, none⟩) lt_w0).trans cb_w0_0
  replace cb_w0_1 := (hb.cell (p := ⟨w3.heap.size, 1, none⟩) lt_w0).trans cb_w0_1
  replace lt_w0 := Nat.lt_of_lt_of_le lt_w0 hb.size
  replace cb_g0_0 := (hb.cell (p := ⟨w7.heap.size, 0, none⟩) lt_g0).trans cb_g0_0
  replace cb_g0_1 := (hb.cell (p := ⟨w7.heap.size, 1, none⟩) lt_g0).trans cb_g0_1
  replace lt_g0 := Nat.lt_of_lt_of_le lt_g0 hb.size
  replace hB := below_step hB hb hB.size
  clear hb
  go_wp2_with fail
  with_reducible refine (toInt64S_any _ A1 _ (hA1.below hB)).mono ?_
  rintro e w20 ⟨u12, rfl, h12, hb⟩
  have hs_20 := hb.size
  replace h3 := h3.below hb
  replace h5 := h5.below hb
  replace h6 := h6.below hb
  replace h7 := h7.below hb
  replace h11 := h11.below hb
  replace cb_w0_0 := (hb.cell (p := ⟨w3.heap.size, 0, none⟩) lt_w0).trans cb_w0_0
  replace cb_w0_1 := (hb.cell (p := ⟨w3.heap.size, 1, none⟩) lt_w0).trans cb_w0_1
  replace lt_w0 := Nat.lt_of_lt_of_le lt_w0 hb.size
  replace cb_g0_0 := (hb.cell (p := ⟨w7.heap.size, 0, none⟩) lt_g0).trans cb_g0_0
  replace cb_g0_1 := (hb.cell (p := ⟨w7.heap.size, 1, none⟩) lt_g0).trans cb_g0_1
  replace lt_g0 := Nat.lt_of_lt_of_le lt_g0 hb.size
  replace hB := below_step hB hb hB.size
  clear hb
  go_wp2_with fail
  with_reducible refine (implTogether_any _ A0 _ A1 _ h11.rd h12.rd ).mono ?_
  rintro e w21 ⟨u13, u13b, rfl, h13, hb⟩
  have hs_21 := hb.size
  replace h3 := h3.below hb
  replace h5 := h5.below hb
  replace h6 := h6.below hb
  replace h7 := h7.below hb
  replace h11 := h11.below hb
  replace h12 := h12.below hb
  replace cb_w0_0 := (hb.cell (p := ⟨w3.heap.size, 0, none⟩) lt_w0).trans cb_w0_0
  replace cb_w0_1 := (hb.cell (p := ⟨w3.heap.size, 1, none⟩) lt_w0).trans cb_w0_1
  replace lt_w0 := Nat.lt_of_lt_of_le lt_w0 hb.size
  replace cb_g0_0 := (hb.cell (p := ⟨w7.heap.size, 0, none⟩) lt_g0).trans cb_g0_0
  replace cb_g0_1 := (hb.cell (p := ⟨w7.heap.size, 1, none⟩) lt_g0).trans cb_g0_1
  replace lt_g0 := Nat.lt_of_lt_of_le lt_g0 hb.size
  replace hB := below_step hB hb hB.size
  clear hb
  obtain ⟨s14, n14, c14, s14b, n14b, c14b, rfl, rfl⟩ := h13.rd.form'
  clear h11
  clear h12
  go_wp2_with fail
  generalize hW : (World.alloc w21 _) = w22
  have hb : Below w21.heap.size w21 w22 := by rw [← hW]; exact (Below.refl _ _).alloc (Nat.le_refl _) _
  have hz_22 : w21.heap.size + 1 ≤ w22.heap.size := by rw [← hW]; simp
  have cb_h0_0 : w22.cell? ⟨w21.heap.size, 0, none⟩ = some (.slice s14 n14 c14) := by rw [← hW]; simp
  have cb_h0_1 : w22.cell? ⟨w21.heap.size, 1, none⟩ = some (.slice s14b n14b c14b) := by rw [← hW]; simp
  have lt_h0 : w21.heap.size < w22.heap.size := by omega
  clear hW
  have hs_22 := hb.size
  replace h3 := h3.below hb
  replace h5 := h5.below hb
  replace h6 := h6.below hb
  replace h7 := h7.below hb
  replace h13 := h13.below hb
  replace cb_w0_0 := (hb.cell (p := ⟨w3.heap.size, 0, none⟩) lt_w0).trans cb_w0_0
  replace cb_w0_1 := (hb.cell (p := ⟨w3.heap.size, 1, none⟩) lt_w0).trans cb_w0_1
  replace lt_w0 := Nat.lt_of_lt_of_le lt_w0 hb.size
  replace cb_g0_0 := (hb.cell (p := ⟨w7.heap.size, 0, none⟩) lt_g0).trans cb_g0_0
  replace cb_g0_1 := (hb.cell (p := ⟨w7.heap.size, 1, none⟩) lt_g0).trans cb_g0_1
  replace lt_g0 := Nat.lt_of_lt_of_le lt_g0 hb.size
  replace hB := below_step hB hb hB.size
  clear hb
  with_reducible refine (eqPassing_same _ _ _ _ _ _ _ h13.rd h3.rd).mono ?_
  rintro e w23 ⟨rfl, hb⟩
  have hs_23 := hb.size
  replace h3 := h3.below hb
  replace h5 := h5.below hb
  replace h6 := h6.below hb
  replace h7 := h7.below hb
  replace h13 := h13.below hb
  replace cb_w0_0 := (hb.cell (p := ⟨w3.heap.size, 0, none⟩) lt_w0).trans cb_w0_0
  replace cb_w0_1 := (hb.cell (p := ⟨w3.heap.size, 1, none⟩) lt_w0).trans cb_w0_1
  replace lt_w0 := Nat.lt_of_lt_of_le lt_w0 hb.size
  replace cb_g0_0 := (hb.cell (p := ⟨w7.heap.size, 0, none⟩) lt_g0).trans cb_g0_0
  replace cb_g0_1 := (hb.cell (p := ⟨w7.heap.size, 1, none⟩) lt_g0).trans cb_g0_1
  replace lt_g0 := Nat.lt_of_lt_of_le lt_g0 hb.size
  replace cb_h0_0 := (hb.cell (p := ⟨w21.heap.size, 0, none⟩) lt_h0).trans cb_h0_0
  replace cb_h0_1 := (hb.cell (p := ⟨w21.heap.size, 1, none⟩) lt_h0).trans cb_h0_1
  replace lt_h0 := Nat.lt_of_lt_of_le lt_h0 hb.size
  replace hB := below_step hB hb hB.size
  clear hb
  go_wp2_with fail
  with_reducible refine (heldPassing_same _ _ _ _ _ _ _ _ h7 (by omega) (by omega)).mono ?_
  rintro e w24 ⟨rfl, hb⟩
  have hs_24 := hb.size
  replace h3 := h3.below hb
  replace h5 := h5.below hb
  replace h6 := h6.below hb
  replace h7 := h7.below hb
  replace h13 := h13.below hb
  replace cb_w0_0 := (hb.cell (p := ⟨w3.heap.size, 0, none⟩) lt_w0).trans cb_w0_0
  replace cb_w0_1 := (hb.cell (p := ⟨w3.heap.size, 1, none⟩) lt_w0).trans cb_w0_1
  replace lt_w0 := Nat.lt_of_lt_of_le lt_w0 hb.size
  replace cb_g0_0 := (hb.cell (p := ⟨w7.heap.size, 0, none⟩) lt_g0).trans cb_g0_0
  replace cb_g0_1 := (hb.cell (p := ⟨w7.heap.size, 1, none⟩) lt_g0).trans cb_g0_1
  replace lt_g0 := Nat.lt_of_lt_of_le lt_g0 hb.size
  replace cb_h0_0 := (hb.cell (p := ⟨w21.heap.size, 0, none⟩) lt_h0).trans cb_h0_0
  replace cb_h0_1 := (hb.cell (p := ⟨w21.heap.size, 1, none⟩) lt_h0).trans cb_h0_1
  replace lt_h0 := Nat.lt_of_lt_of_le lt_h0 hb.size
  replace hB := below_step hB hb hB.size
  clear hb
  go_wp2
  go_ret
  exact ⟨rfl, hB⟩

set_option maxRecDepth 100000 in
theorem fnExactTogetherOf_lifted (os : Os) (started : os.Started) (H : Type) (enc : TypeId × Value → H) :
    ReturnsInHanded {} Try.checked os 7 .any (Rows.fnExactTogetherOfSpec.pre6 enc Try.prog Try.f7 Rows.fnExactTogetherOfRow.domain false) (Rows.fnExactTogetherOfSpec.post enc Try.prog Try.f7 false true false false) := by
  refine returnsInHanded_of_change_sized (C := Try.checked) Try.own started (by kernel_rfl) Try.func7
    (ChangeSpec.witness6 (enc := enc) (C := Try.checked) false ⟨#[], #[.slice none 0 0, .slice none 0 0], []⟩ 8 (by kernel_rfl) (by kernel_rfl) (by kernel_rfl) (by kernel_rfl)) ?_
  intro W base args ds gs before hval0 hW _ hsz0 _
  have hsz : (DataW.weightsEach Try.prog (Try.f7.params.toList ++ Rows.fnExactTogetherOfSpec.plain.varTypes Try.prog) (ds ++ gs)).all (· ≤ reachBytes) = true := hsz0
  clear hsz0
  have hval : ∀ (j : Nat) t v, Try.f7.params[j]? = some t → args[j]? = some v → Value.okWide Try.prog W .any base t v := hval0
  have hW' := hW
  obtain ⟨p, q, hA0, hV, rfl, _, _⟩ := hW
  have hA : DataW.TrodAll enc Try.prog W 0 (fun _ => true) true Try.f7.params.toList args.toList ds p := hA0
  rw [Try.params7] at hA hval hsz
  obtain ⟨v0, v1, d0, d1, p0, p1, rfl, rfl, rfl, h0, h1⟩ := trodAll_two hA
  obtain ⟨rfl, rfl⟩ := trodVars_none hV
  clear hA0 hval0
  simp only [List.append_nil] at hW'
  have hlt : ∀ x ∈ p0 ++ p1, x.block < W.heap.size := fun x hx => by simpa using hW'.lt x (by simpa using hx)
  have h0k := h0
  obtain ⟨A0, hA0, hw0⟩ := rd_open (hval 0 37 v0 rfl rfl) h0 (fun el sp he => sized_slice hsz (j := 0) (t := 37) (e := 2) rfl (by rw [he]; rfl) Try.underlying37)
  have h1k := h1
  obtain ⟨A1, hA1, hw1⟩ := rd_open (hval 1 37 v1 rfl rfl) h1 (fun el sp he => sized_slice hsz (j := 1) (t := 37) (e := 2) rfl (by rw [he]; rfl) Try.underlying37)
  refine (fnExactTogetherOf_any0 W v0 A0 hA0 hw0 v1 A1 hA1 hw1).mono fun e W' ⟨he, hb⟩ => ?_
  subst he
  exact ⟨_, rfl, _, _, _, [], _, [], hW', trodAll_mk1 (shut_bool Try.underlying4 true), (trodAll_mk2 (Below.trod Try.laidOut (by kernel_rfl) (of_decide_eq_true (by kernel_rfl)) h0k hb (fun x hx => hlt x (by simp [hx]))) (Below.trod Try.laidOut (by kernel_rfl) (of_decide_eq_true (by kernel_rfl)) h1k hb (fun x hx => hlt x (by simp [hx])))), rfl, hb.frame _, fun h => by cases h⟩

theorem fnExactTogetherOf_holds : Rows.FnExactTogetherOfSaid :=
  OpenClaim.holds_of_wide 7 Try.f7 rfl rfl rfl rfl rfl rfl rfl ⟨rfl, rfl, rfl, rfl, rfl⟩ rfl rfl rfl rfl rfl (by kernel_rfl) Try.func7 (by kernel_rfl)
    (of_decide_eq_true (by kernel_rfl)) (by unfold Func.isWrapper; first | (rw [if_pos (by decide +kernel)]; kernel_rfl) | (rw [if_neg (by decide +kernel)]; exact ⟨rfl, rfl⟩))
    (fun os started H enc _ => fnExactTogetherOf_lifted os started H enc)

#print axioms fnExactTogetherOf_holds
end Go.Proofs.Ytfepgbpblbccbaa
