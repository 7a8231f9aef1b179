/-
  Proved here: the law FnExactAddMulti returns true for all inputs. No condition.
-/
import Derived.Test.YtloebbeaccjgjaaAd2
import Derived.Deep.RegionHeld3
import Derived.Deep.DeepCutAuto
namespace Go.Proofs.Ytloebbeaccjgjaa
open Go.ChangeShapes Go.WideShapes Go.ChangeAt Go.RowKit


set_option maxRecDepth 20000 in
set_option maxHeartbeats 4000000 in
theorem fnExactAddMulti_any0 (W : World) (va0 : Value) (R0 : List (List Int)) (hA0 : RdR W va0 R0) (va1 : Value) (R1 : List (List Int)) (hA1 : RdR W va1 R1) : Calls Try.prog 4 #[.agg #[va0], .agg #[va1]] W fun e w' => e = .returned (.bool true) ∧ Below W.heap.size W w' := by
  obtain ⟨sa0, na0, ca0, rfl⟩ := hA0.form'
  obtain ⟨sa1, na1, ca1, rfl⟩ := hA1.form'
  have hB : Below W.heap.size W W := Below.refl _ _
  go_enter Try.func4, Try.ntmps4
  go_wp2_with fail
  generalize hW : (World.alloc (World.alloc W _) _) = w1
  have hb : Below W.heap.size W w1 := by rw [← hW]; exact ((Below.refl _ _).alloc (Nat.le_refl _) _).alloc (by simp) _
  have hz_1 : W.heap.size + 2 ≤ w1.heap.size := by rw [← hW]; simp
  have cb_aA_0 : w1.cell? ⟨W.heap.size, 0, none⟩ = some (.slice sa0 na0 ca0) := by rw [← hW]; simp
  have lt_aA : W.heap.size < w1.heap.size := by omega
  have cb_aB_0 : w1.cell? ⟨W.heap.size + 1, 0, none⟩ = some (.slice sa1 na1 ca1) := by rw [← hW]; simp
  have lt_aB : W.heap.size + 1 < w1.heap.size := by omega
  clear hW
  have hs_1 := hb.size
  replace hB := below_step hB hb hB.size
  clear hb
  by_cases hgz : ((R0.length : Int) + (sumLen R0 R0.length : Int)) ≤ 1048576
  rotate_left
  · with_reducible refine (szMulti_no _ R0 (1048576) _ (hA0.below hB) (by omega) (by omega) (by omega)).mono ?_
    rintro e w' ⟨rfl, hb⟩
    go_wp2
    go_ret
    exact ⟨rfl, below_step hB hb hB.size⟩
  with_reducible refine (szMulti_yes _ R0 (1048576) _ (hA0.below hB) (by omega) (by omega) (by omega)).mono ?_
  rintro e w2 ⟨rfl, hb⟩
  have hs_2 := hb.size
  replace cb_aA_0 := (hb.cell (p := ⟨W.heap.size, 0, none⟩) lt_aA).trans cb_aA_0
  replace lt_aA := Nat.lt_of_lt_of_le lt_aA hb.size
  replace cb_aB_0 := (hb.cell (p := ⟨W.heap.size + 1, 0, none⟩) lt_aB).trans cb_aB_0
  replace lt_aB := Nat.lt_of_lt_of_le lt_aB hb.size
  replace hB := below_step hB hb hB.size
  clear hb
  have hgq_2 : ((R0.length : Int) + (sumLen R0 R0.length : Int)) ≤ 1048576 := by omega
  clear hgz
  go_wp2_with fail
  by_cases hgz : ((R1.length : Int) + (sumLen R1 R1.length : Int)) ≤ (1048576 - ((R0.length : Int) + (sumLen R0 R0.length : Int)))
  rotate_left
  · with_reducible refine (szMulti_no _ R1 ((1048576 - ((R0.length : Int) + (sumLen R0 R0.length : Int)))) _ (hA1.below hB) (by omega) (by omega) (by omega)).mono ?_
    rintro e w' ⟨rfl, hb⟩
    go_wp2
    go_ret
    exact ⟨rfl, below_step hB hb hB.size⟩
  with_reducible refine (szMulti_yes _ R1 ((1048576 - ((R0.length : Int) + (sumLen R0 R0.length : Int)))) _ (hA1.below hB) (by omega) (by omega) (by omega)).mono ?_
  rintro e w3 ⟨rfl, hb⟩
  have hs_3 := hb.size
  replace cb_aA_0 := (hb.cell (p := ⟨W.heap.size, 0, none⟩) lt_aA).trans cb_aA_0
  replace lt_aA := Nat.lt_of_lt_of_le lt_aA hb.size
  replace cb_aB_0 := (hb.cell (p := ⟨W.heap.size + 1, 0, none⟩) lt_aB).trans cb_aB_0
  replace lt_aB := Nat.lt_of_lt_of_le lt_aB hb.size
  replace hB := below_step hB hb hB.size
  clear hb
  have hgq_3 : ((R1.length : Int) + (sumLen R1 R1.length : Int)) ≤ (1048576 - ((R0.length : Int) + (sumLen R0 R0.length : Int))) := by omega
  clear hgz
  go_wp2_with fail
  go_cut [6, 7] (fun b c wx => ∃ (B : Nat) (s : Option Addr) (n cc : Nat), b = .pointer (some ⟨B, 0, none⟩) ∧ c = .int .i64 (adC R0 R1) ∧ w3.heap.size ≤ B ∧ B < wx.heap.size ∧ wx.cell? ⟨B, 0, none⟩ = some (.slice s n cc) ∧ OwnR wx w3.heap.size wx.heap.size (.slice s n cc) (adL R0 R1) ∧ Below w3.heap.size w3 wx)
  case first =>
    go_region_held3 (fun w' => w'.cell? ⟨W.heap.size, 0, none⟩ = some (.slice sa0 na0 ca0) ∧ w'.cell? ⟨W.heap.size + 1, 0, none⟩ = some (.slice sa1 na1 ca1))
      (exact ⟨(Below.cell (p := ⟨W.heap.size, 0, none⟩) ((by (repeat' first | assumption | exact Below.refl _ _ | refine Below.drew ?_ | refine Below.alloc ?_ ?_ _ | refine Below.setCell ?_ ?_ _) <;> first | (simp; done) | (simp; omega) | omega) : Below w3.heap.size w3 _) lt_aA).trans cb_aA_0, (Below.cell (p := ⟨W.heap.size + 1, 0, none⟩) ((by (repeat' first | assumption | exact Below.refl _ _ | refine Below.drew ?_ | refine Below.alloc ?_ ?_ _ | refine Below.setCell ?_ ?_ _) <;> first | (simp; done) | (simp; omega) | omega) : Below w3.heap.size w3 _) lt_aB).trans cb_aB_0⟩)
      (first | (go_at_call 14; first | (with_reducible refine (toMulti_any _ R0 w3.drew (hA0.below (below_step hB (by (repeat' first | assumption | exact Below.refl _ _ | refine Below.drew ?_ | refine Below.alloc ?_ ?_ _ | refine Below.setCell ?_ ?_ _) <;> first | (simp; done) | (simp; omega) | omega) hB.size)) (by omega)).mono ?_; rintro e wa ⟨u1, rfl, hua, hba⟩; have hCa : Below w3.heap.size w3 wa := below_step (by (repeat' first | assumption | exact Below.refl _ _ | refine Below.drew ?_ | refine Below.alloc ?_ ?_ _ | refine Below.setCell ?_ ?_ _) <;> first | (simp; done) | (simp; omega) | omega) hba (by simp); have hsa := hCa.size; obtain ⟨s1, n1, c1, rfl⟩ := hua.rd.form') | (with_reducible refine (toMulti_any _ R0 _ (hA0.below (below_step hB (by (repeat' first | assumption | exact Below.refl _ _ | refine Below.drew ?_ | refine Below.alloc ?_ ?_ _ | refine Below.setCell ?_ ?_ _) <;> first | (simp; done) | (simp; omega) | omega) hB.size)) (by omega)).mono ?_; rintro e wa ⟨u1, rfl, hua, hba⟩; have hCa : Below w3.heap.size w3 wa := below_step (by (repeat' first | assumption | exact Below.refl _ _ | refine Below.drew ?_ | refine Below.alloc ?_ ?_ _ | refine Below.setCell ?_ ?_ _) <;> first | (simp; done) | (simp; omega) | omega) hba (by simp); have hsa := hCa.size; obtain ⟨s1, n1, c1, rfl⟩ := hua.rd.form'; have fB := (hba.cell (p := ⟨w3.heap.size, 0, none⟩) (by simp)).trans (show World.cell? _ _ = some (Value.slice none 0 0) by simp); have zB := (hba.frozen (p := ⟨w3.heap.size, 0, none⟩) (by simp)).trans (show World.frozen? _ _ = false by simp); have ltB : w3.heap.size < wa.heap.size := by (have := hba.size; simp at this; omega))) | (go_at_call 14; first | (with_reducible refine (toMulti_any _ R1 wa (hA1.below (below_step hB (by (repeat' first | assumption | exact Below.refl _ _ | refine Below.drew ?_ | refine Below.alloc ?_ ?_ _ | refine Below.setCell ?_ ?_ _) <;> first | (simp; done) | (simp; omega) | omega) hB.size)) (by omega)).mono ?_; rintro e wb ⟨u2, rfl, hub, hbb⟩; have hCb : Below w3.heap.size w3 wb := below_step hCa hbb hCa.size; have hsb := hCb.size; obtain ⟨s2, n2, c2, rfl⟩ := hub.rd.form'; have hua2 := hua.below hbb; try (replace fB := (hbb.cell (p := ⟨_, 0, none⟩) ltB).trans fB; replace zB := (hbb.frozen (p := ⟨_, 0, none⟩) ltB).trans zB; replace ltB := Nat.lt_of_lt_of_le ltB hbb.size)) | (with_reducible refine (toMulti_any _ R1 _ (hA1.below (below_step hB (by (repeat' first | assumption | exact Below.refl _ _ | refine Below.drew ?_ | refine Below.alloc ?_ ?_ _ | refine Below.setCell ?_ ?_ _) <;> first | (simp; done) | (simp; omega) | omega) hB.size)) (by omega)).mono ?_; rintro e wb ⟨u2, rfl, hub, hbb⟩; have hCb : Below w3.heap.size w3 wb := below_step (by (repeat' first | assumption | exact Below.refl _ _ | refine Below.drew ?_ | refine Below.alloc ?_ ?_ _ | refine Below.setCell ?_ ?_ _) <;> first | (simp; done) | (simp; omega) | omega) hbb (by simp; omega); have hsb := hCb.size; obtain ⟨s2, n2, c2, rfl⟩ := hub.rd.form'; have hua2 := (hua.below ((Below.refl wa.heap.size wa).alloc (Nat.le_refl _) _)).below hbb; have fB := (hbb.cell (p := ⟨wa.heap.size, 0, none⟩) (by simp)).trans (show World.cell? _ _ = some (Value.slice none 0 0) by simp); have zB := (hbb.frozen (p := ⟨wa.heap.size, 0, none⟩) (by simp)).trans (show World.frozen? _ _ = false by simp); have ltB : wa.heap.size < wb.heap.size := by (have := hbb.size; simp at this; omega))) | (go_at_call 13; first | (with_reducible refine (specAdd_any _ R0 _ R1 wb hua2.rd hub.rd).mono ?_; rintro e wc9 ⟨u3, rfl, huc, hbc⟩; have hCc : Below w3.heap.size w3 wc9 := below_step hCb hbc hCb.size; have hsc := hCc.size; obtain ⟨s3, n3, c3, rfl⟩ := huc.rd.form'; try (replace fB := (hbc.cell (p := ⟨_, 0, none⟩) ltB).trans fB; replace zB := (hbc.frozen (p := ⟨_, 0, none⟩) ltB).trans zB; replace ltB := Nat.lt_of_lt_of_le ltB hbc.size)) | (with_reducible refine (specAdd_any _ R0 _ R1 _ (hua2.below ((Below.refl wb.heap.size wb).alloc (Nat.le_refl _) _)).rd (hub.below ((Below.refl wb.heap.size wb).alloc (Nat.le_refl _) _)).rd).mono ?_; rintro e wc9 ⟨u3, rfl, huc, hbc⟩; have hCc : Below w3.heap.size w3 wc9 := below_step (by (repeat' first | assumption | exact Below.refl _ _ | refine Below.drew ?_ | refine Below.alloc ?_ ?_ _ | refine Below.setCell ?_ ?_ _) <;> first | (simp; done) | (simp; omega) | omega) hbc (by simp; omega); have hsc := hCc.size; obtain ⟨s3, n3, c3, rfl⟩ := huc.rd.form'; have fB := (hbc.cell (p := ⟨wb.heap.size, 0, none⟩) (by simp)).trans (show World.cell? _ _ = some (Value.slice none 0 0) by simp); have zB := (hbc.frozen (p := ⟨wb.heap.size, 0, none⟩) (by simp)).trans (show World.frozen? _ _ = false by simp); have ltB : wb.heap.size < wc9.heap.size := by (have := hbc.size; simp at this; omega))) | fail)
    all_goals
      go_wp2_with fail
      go_meet
      case rel =>
        have hq1 := hba.size
        have hq2 := hbb.size
        have hq3 := hbc.size
        try simp at hq1
        try simp at hq2
        try simp at hq3
        first | exact ⟨_, s3, n3, c3, rfl, rfl, hsc, by simp, by simp, (huc.below ((Below.refl wc9.heap.size wc9).alloc (Nat.le_refl _) _)).mono (by first | (simp; done) | (simp; omega) | omega) (by simp), hCc.alloc hsc _⟩ | exact ⟨_, s3, n3, c3, rfl, rfl, by omega, by simpa using ltB, World.cell?_setCell_same _ _ _ fB, (huc.kept ((Chg.refl _ _ _).setCell _ _ (Nat.le_refl _) (Nat.lt_succ_self _)) (.inr (by first | (simp; done) | (simp; omega) | omega))).mono (by first | (simp; done) | (simp; omega) | omega) (by simp), hCc.setCell (by first | (simp; done) | (simp; omega)) _⟩
  obtain ⟨B_3, s3, n3, c3, rfl, rfl, hBl_3, lt_w0, cb_w0_0, h3, hb⟩ := hcut
  obtain ⟨w4, hww⟩ : ∃ ww, ww = wc := ⟨_, rfl⟩
  subst hww
  have hBw_3 := lt_w0
  have hs_4 := hb.size
  replace cb_aA_0 := (hb.cell (p := ⟨W.heap.size, 0, none⟩) lt_aA).trans cb_aA_0
  replace lt_aA := Nat.lt_of_lt_of_le lt_aA hb.size
  replace cb_aB_0 := (hb.cell (p := ⟨W.heap.size + 1, 0, none⟩) lt_aB).trans cb_aB_0
  replace lt_aB := Nat.lt_of_lt_of_le lt_aB hb.size
  replace hB := below_step hB hb hB.size
  clear hb
  go_wp2_with fail
  with_reducible refine (toMulti_any _ R0 _ (hA0.below hB) (by omega)).mono ?_
  rintro e w5 ⟨u4, rfl, h4, hb⟩
  have hs_5 := hb.size
  replace h3 := h3.below hb
  replace cb_aA_0 := (hb.cell (p := ⟨W.heap.size, 0, none⟩) lt_aA).trans cb_aA_0
  replace lt_aA := Nat.lt_of_lt_of_le lt_aA hb.size
  replace cb_aB_0 := (hb.cell (p := ⟨W.heap.size + 1, 0, none⟩) lt_aB).trans cb_aB_0
  replace lt_aB := Nat.lt_of_lt_of_le lt_aB hb.size
  replace cb_w0_0 := (hb.cell (p := ⟨B_3, 0, none⟩) lt_w0).trans cb_w0_0
  replace lt_w0 := Nat.lt_of_lt_of_le lt_w0 hb.size
  replace hB := below_step hB hb hB.size
  clear hb
  obtain ⟨s4, n4, c4, rfl⟩ := h4.rd.form'
  go_wp2_with fail
  generalize hW : (World.alloc w5 _) = w6
  have hb : Below w5.heap.size w5 w6 := by rw [← hW]; exact (Below.refl _ _).alloc (Nat.le_refl _) _
  have hz_6 : w5.heap.size + 1 ≤ w6.heap.size := by rw [← hW]; simp
  have cb_x0_0 : w6.cell? ⟨w5.heap.size, 0, none⟩ = some (.slice s4 n4 c4) := by rw [← hW]; simp
  have lt_x0 : w5.heap.size < w6.heap.size := by omega
  clear hW
  have hs_6 := hb.size
  replace h3 := h3.below hb
  replace h4 := h4.below hb
  replace cb_aA_0 := (hb.cell (p := ⟨W.heap.size, 0, none⟩) lt_aA).trans cb_aA_0
  replace lt_aA := Nat.lt_of_lt_of_le lt_aA hb.size
  replace cb_aB_0 := (hb.cell (p := ⟨W.heap.size + 1, 0, none⟩) lt_aB).trans cb_aB_0
  replace lt_aB := Nat.lt_of_lt_of_le lt_aB hb.size
  replace cb_w0_0 := (hb.cell (p := ⟨B_3, 0, none⟩) lt_w0).trans cb_w0_0
  replace lt_w0 := Nat.lt_of_lt_of_le lt_w0 hb.size
  replace hB := below_step hB hb hB.size
  clear hb
  with_reducible refine (toMulti_any _ R1 _ (hA1.below hB) (by omega)).mono ?_
  rintro e w7 ⟨u5, rfl, h5, hb⟩
  have hs_7 := hb.size
  replace h3 := h3.below hb
  replace h4 := h4.below hb
  replace cb_aA_0 := (hb.cell (p := ⟨W.heap.size, 0, none⟩) lt_aA).trans cb_aA_0
  replace lt_aA := Nat.lt_of_lt_of_le lt_aA hb.size
  replace cb_aB_0 := (hb.cell (p := ⟨W.heap.size + 1, 0, none⟩) lt_aB).trans cb_aB_0
  replace lt_aB := Nat.lt_of_lt_of_le lt_aB hb.size
  replace cb_w0_0 := (hb.cell (p := ⟨B_3, 0, none⟩) lt_w0).trans cb_w0_0
  replace lt_w0 := Nat.lt_of_lt_of_le lt_w0 hb.size
  replace cb_x0_0 := (hb.cell (p := ⟨w5.heap.size, 0, none⟩) lt_x0).trans cb_x0_0
  replace lt_x0 := Nat.lt_of_lt_of_le lt_x0 hb.size
  replace hB := below_step hB hb hB.size
  clear hb
  obtain ⟨s5, n5, c5, rfl⟩ := h5.rd.form'
  go_wp2_with fail
  generalize hW : (World.alloc w7 _) = w8
  have hb : Below w7.heap.size w7 w8 := by rw [← hW]; exact (Below.refl _ _).alloc (Nat.le_refl _) _
  have hz_8 : w7.heap.size + 1 ≤ w8.heap.size := by rw [← hW]; simp
  have cb_x1_0 : w8.cell? ⟨w7.heap.size, 0, none⟩ = some (.slice s5 n5 c5) := by rw [← hW]; simp
  have lt_x1 : w7.heap.size < w8.heap.size := by omega
  clear hW
  have hs_8 := hb.size
  replace h3 := h3.below hb
  replace h4 := h4.below hb
  replace h5 := h5.below hb
  replace cb_aA_0 := (hb.cell (p := ⟨W.heap.size, 0, none⟩) lt_aA).trans cb_aA_0
  replace lt_aA := Nat.lt_of_lt_of_le lt_aA hb.size
  replace cb_aB_0 := (hb.cell (p := ⟨W.heap.size + 1, 0, none⟩) lt_aB).trans cb_aB_0
  replace lt_aB := Nat.lt_of_lt_of_le lt_aB hb.size
  replace cb_w0_0 := (hb.cell (p := ⟨B_3, 0, none⟩) lt_w0).trans cb_w0_0
  replace lt_w0 := Nat.lt_of_lt_of_le lt_w0 hb.size
  replace cb_x0_0 := (hb.cell (p := ⟨w5.heap.size, 0, none⟩) lt_x0).trans cb_x0_0
  replace lt_x0 := Nat.lt_of_lt_of_le lt_x0 hb.size
  replace hB := below_step hB hb hB.size
  clear hb
  with_reducible refine (implAdd_any _ R0 _ R1 _ h4.rd h5.rd ).mono ?_
  rintro e w9 ⟨u6, rfl, h6, hb⟩
  have hs_9 := hb.size
  replace h3 := h3.below hb
  replace h4 := h4.below hb
  replace h5 := h5.below hb
  replace cb_aA_0 := (hb.cell (p := ⟨W.heap.size, 0, none⟩) lt_aA).trans cb_aA_0
  replace lt_aA := Nat.lt_of_lt_of_le lt_aA hb.size
  replace cb_aB_0 := (hb.cell (p := ⟨W.heap.size + 1, 0, none⟩) lt_aB).trans cb_aB_0
  replace lt_aB := Nat.lt_of_lt_of_le lt_aB hb.size
  replace cb_w0_0 := (hb.cell (p := ⟨B_3, 0, none⟩) lt_w0).trans cb_w0_0
  replace lt_w0 := Nat.lt_of_lt_of_le lt_w0 hb.size
  replace cb_x0_0 := (hb.cell (p := ⟨w5.heap.size, 0, none⟩) lt_x0).trans cb_x0_0
  replace lt_x0 := Nat.lt_of_lt_of_le lt_x0 hb.size
  replace cb_x1_0 := (hb.cell (p := ⟨w7.heap.size, 0, none⟩) lt_x1).trans cb_x1_0
  replace lt_x1 := Nat.lt_of_lt_of_le lt_x1 hb.size
  replace hB := below_step hB hb hB.size
  clear hb
  obtain ⟨s7, n7, c7, rfl⟩ := h6.rd.form'
  go_wp2_with fail
  generalize hW : (World.alloc w9 _) = w10
  have hb : Below w9.heap.size w9 w10 := by rw [← hW]; exact (Below.refl _ _).alloc (Nat.le_refl _) _
  have hz_10 : w9.heap.size + 1 ≤ w10.heap.size := by rw [← hW]; simp
  have cb_g0_0 : w10.cell? ⟨w9.heap.size, 0, none⟩ = some (.slice s7 n7 c7) := by rw [← hW]; simp
  have lt_g0 : w9.heap.size < w10.heap.size := by omega
  clear hW
  have hs_10 := hb.size
  replace h3 := h3.below hb
  replace h4 := h4.below hb
  replace h5 := h5.below hb
  replace h6 := h6.below hb
  replace cb_aA_0 := (hb.cell (p := ⟨W.heap.size, 0, none⟩) lt_aA).trans cb_aA_0
  replace lt_aA := Nat.lt_of_lt_of_le lt_aA hb.size
  replace cb_aB_0 := (hb.cell (p := ⟨W.heap.size + 1, 0, none⟩) lt_aB).trans cb_aB_0
  replace lt_aB := Nat.lt_of_lt_of_le lt_aB hb.size
  replace cb_w0_0 := (hb.cell (p := ⟨B_3, 0, none⟩) lt_w0).trans cb_w0_0
  replace lt_w0 := Nat.lt_of_lt_of_le lt_w0 hb.size
  replace cb_x0_0 := (hb.cell (p := ⟨w5.heap.size, 0, none⟩) lt_x0).trans cb_x0_0
  replace lt_x0 := Nat.lt_of_lt_of_le lt_x0 hb.size
  replace cb_x1_0 := (hb.cell (p := ⟨w7.heap.size, 0, none⟩) lt_x1).trans cb_x1_0
  replace lt_x1 := Nat.lt_of_lt_of_le lt_x1 hb.size
  replace hB := below_step hB hb hB.size
  clear hb
  with_reducible refine (eqMulti_same _ _ _ _ h6.rd h3.rd).mono ?_
  rintro e w11 ⟨rfl, hb⟩
  have hs_11 := hb.size
  replace h3 := h3.below hb
  replace h4 := h4.below hb
  replace h5 := h5.below hb
  replace h6 := h6.below hb
  replace cb_aA_0 := (hb.cell (p := ⟨W.heap.size, 0, none⟩) lt_aA).trans cb_aA_0
  replace lt_aA := Nat.lt_of_lt_of_le lt_aA hb.size
  replace cb_aB_0 := (hb.cell (p := ⟨W.heap.size + 1, 0, none⟩) lt_aB).trans cb_aB_0
  replace lt_aB := Nat.lt_of_lt_of_le lt_aB hb.size
  replace cb_w0_0 := (hb.cell (p := ⟨B_3, 0, none⟩) lt_w0).trans cb_w0_0
  replace lt_w0 := Nat.lt_of_lt_of_le lt_w0 hb.size
  replace cb_x0_0 := (hb.cell (p := ⟨w5.heap.size, 0, none⟩) lt_x0).trans cb_x0_0
  replace lt_x0 := Nat.lt_of_lt_of_le lt_x0 hb.size
  replace cb_x1_0 := (hb.cell (p := ⟨w7.heap.size, 0, none⟩) lt_x1).trans cb_x1_0
  replace lt_x1 := Nat.lt_of_lt_of_le lt_x1 hb.size
  replace cb_g0_0 := (hb.cell (p := ⟨w9.heap.size, 0, none⟩) lt_g0).trans cb_g0_0
  replace lt_g0 := Nat.lt_of_lt_of_le lt_g0 hb.size
  replace hB := below_step hB hb hB.size
  clear hb
  go_wp2
  have hBd := hB.drew
  have hda := hA0.below hBd
  go_region_held3 (fun w' => w'.cell? ⟨W.heap.size, 0, none⟩ = some (.slice sa0 na0 ca0) ∧ w'.cell? ⟨W.heap.size + 1, 0, none⟩ = some (.slice sa1 na1 ca1) ∧ w'.cell? ⟨B_3, 0, none⟩ = some (.slice s3 n3 c3) ∧ w'.cell? ⟨w5.heap.size, 0, none⟩ = some (.slice s4 n4 c4) ∧ w'.cell? ⟨w7.heap.size, 0, none⟩ = some (.slice s5 n5 c5) ∧ w'.cell? ⟨w9.heap.size, 0, none⟩ = some (.slice s7 n7 c7))
    (first | go_keep | (go_split_ands; exact ⟨(hba.cell (p := ⟨W.heap.size, 0, none⟩) lt_aA).trans (by assumption), (hba.cell (p := ⟨W.heap.size + 1, 0, none⟩) lt_aB).trans (by assumption), (hba.cell (p := ⟨B_3, 0, none⟩) lt_w0).trans (by assumption), (hba.cell (p := ⟨w5.heap.size, 0, none⟩) lt_x0).trans (by assumption), (hba.cell (p := ⟨w7.heap.size, 0, none⟩) lt_x1).trans (by assumption), (hba.cell (p := ⟨w9.heap.size, 0, none⟩) lt_g0).trans (by assumption)⟩) | (go_split_ands; exact ⟨(hbb.cell (p := ⟨W.heap.size, 0, none⟩) (Nat.lt_of_lt_of_le lt_aA hba.size)).trans (by assumption), (hbb.cell (p := ⟨W.heap.size + 1, 0, none⟩) (Nat.lt_of_lt_of_le lt_aB hba.size)).trans (by assumption), (hbb.cell (p := ⟨B_3, 0, none⟩) (Nat.lt_of_lt_of_le lt_w0 hba.size)).trans (by assumption), (hbb.cell (p := ⟨w5.heap.size, 0, none⟩) (Nat.lt_of_lt_of_le lt_x0 hba.size)).trans (by assumption), (hbb.cell (p := ⟨w7.heap.size, 0, none⟩) (Nat.lt_of_lt_of_le lt_x1 hba.size)).trans (by assumption), (hbb.cell (p := ⟨w9.heap.size, 0, none⟩) (Nat.lt_of_lt_of_le lt_g0 hba.size)).trans (by assumption)⟩))
    (first | (go_at_call 14; (with_reducible refine (toMulti_any _ R0 _ hda (by omega)).mono ?_); rintro e wa8 ⟨u8, rfl, hua, hba⟩; obtain ⟨s8, n8, c8, rfl⟩ := hua.rd.form'; have hxx := OwnR.below (w := w11.drew) h4 hba) | (go_at_call 16; (with_reducible refine (eqMulti_same _ _ R0 _ hxx.rd hua.rd).mono ?_); rintro e w12 ⟨rfl, hbb⟩))
  have hb : Below w11.heap.size w11 w12 := below_step (below_step (Below.refl _ _).drew hba (Nat.le_refl _)) hbb hba.size
  clear hua hba hbb hda hBd hxx
  have hs_12 := hb.size
  replace h3 := h3.below hb
  replace h4 := h4.below hb
  replace h5 := h5.below hb
  replace h6 := h6.below hb
  replace cb_aA_0 := (hb.cell (p := ⟨W.heap.size, 0, none⟩) lt_aA).trans cb_aA_0
  replace lt_aA := Nat.lt_of_lt_of_le lt_aA hb.size
  replace cb_aB_0 := (hb.cell (p := ⟨W.heap.size + 1, 0, none⟩) lt_aB).trans cb_aB_0
  replace lt_aB := Nat.lt_of_lt_of_le lt_aB hb.size
  replace cb_w0_0 := (hb.cell (p := ⟨B_3, 0, none⟩) lt_w0).trans cb_w0_0
  replace lt_w0 := Nat.lt_of_lt_of_le lt_w0 hb.size
  replace cb_x0_0 := (hb.cell (p := ⟨w5.heap.size, 0, none⟩) lt_x0).trans cb_x0_0
  replace lt_x0 := Nat.lt_of_lt_of_le lt_x0 hb.size
  replace cb_x1_0 := (hb.cell (p := ⟨w7.heap.size, 0, none⟩) lt_x1).trans cb_x1_0
  replace lt_x1 := Nat.lt_of_lt_of_le lt_x1 hb.size
  replace cb_g0_0 := (hb.cell (p := ⟨w9.heap.size, 0, none⟩) lt_g0).trans cb_g0_0
  replace lt_g0 := Nat.lt_of_lt_of_le lt_g0 hb.size
  replace hB := below_step hB hb hB.size
  clear hb
  go_wp2
  have hBd := hB.drew
  have hda := hA1.below hBd
  go_region_held3 (fun w' => w'.cell? ⟨W.heap.size, 0, none⟩ = some (.slice sa0 na0 ca0) ∧ w'.cell? ⟨W.heap.size + 1, 0, none⟩ = some (.slice sa1 na1 ca1) ∧ w'.cell? ⟨B_3, 0, none⟩ = some (.slice s3 n3 c3) ∧ w'.cell? ⟨w5.heap.size, 0, none⟩ = some (.slice s4 n4 c4) ∧ w'.cell? ⟨w7.heap.size, 0, none⟩ = some (.slice s5 n5 c5) ∧ w'.cell? ⟨w9.heap.size, 0, none⟩ = some (.slice s7 n7 c7))
    (first | go_keep | (go_split_ands; exact ⟨(hba.cell (p := ⟨W.heap.size, 0, none⟩) lt_aA).trans (by assumption), (hba.cell (p := ⟨W.heap.size + 1, 0, none⟩) lt_aB).trans (by assumption), (hba.cell (p := ⟨B_3, 0, none⟩) lt_w0).trans (by assumption), (hba.cell (p := ⟨w5.heap.size, 0, none⟩) lt_x0).trans (by assumption), (hba.cell (p := ⟨w7.heap.size, 0, none⟩) lt_x1).trans (by assumption), (hba.cell (p := ⟨w9.heap.size, 0, none⟩) lt_g0).trans (by assumption)⟩) | (go_split_ands; exact ⟨(hbb.cell (p := ⟨W.heap.size, 0, none⟩) (Nat.lt_of_lt_of_le lt_aA hba.size)).trans (by assumption), (hbb.cell (p := ⟨W.heap.size + 1, 0, none⟩) (Nat.lt_of_lt_of_le lt_aB hba.size)).trans (by assumption), (hbb.cell (p := ⟨B_3, 0, none⟩) (Nat.lt_of_lt_of_le lt_w0 hba.size)).trans (by assumption), (hbb.cell (p := ⟨w5.heap.size, 0, none⟩) (Nat.lt_of_lt_of_le lt_x0 hba.size)).trans (by assumption), (hbb.cell (p := ⟨w7.heap.size, 0, none⟩) (Nat.lt_of_lt_of_le lt_x1 hba.size)).trans (by assumption), (hbb.cell (p := ⟨w9.heap.size, 0, none⟩) (Nat.lt_of_lt_of_le lt_g0 hba.size)).trans (by assumption)⟩))
    (first | (go_at_call 14; (with_reducible refine (toMulti_any _ R1 _ hda (by omega)).mono ?_); rintro e wa9 ⟨u9, rfl, hua, hba⟩; obtain ⟨s9, n9, c9, rfl⟩ := hua.rd.form'; have hxx := OwnR.below (w := w12.drew) h5 hba) | (go_at_call 16; (with_reducible refine (eqMulti_same _ _ R1 _ hxx.rd hua.rd).mono ?_); rintro e w13 ⟨rfl, hbb⟩))
  have hb : Below w12.heap.size w12 w13 := below_step (below_step (Below.refl _ _).drew hba (Nat.le_refl _)) hbb hba.size
  clear hua hba hbb hda hBd hxx
  have hs_13 := hb.size
  replace h3 := h3.below hb
  replace h4 := h4.below hb
  replace h5 := h5.below hb
  replace h6 := h6.below hb
  replace cb_aA_0 := (hb.cell (p := ⟨W.heap.size, 0, none⟩) lt_aA).trans cb_aA_0
  replace lt_aA := Nat.lt_of_lt_of_le lt_aA hb.size
  replace cb_aB_0 := (hb.cell (p := ⟨W.heap.size + 1, 0, none⟩) lt_aB).trans cb_aB_0
  replace lt_aB := Nat.lt_of_lt_of_le lt_aB hb.size
  replace cb_w0_0 := (hb.cell (p := ⟨B_3, 0, none⟩) lt_w0).trans cb_w0_0
  replace lt_w0 := Nat.lt_of_lt_of_le lt_w0 hb.size
  replace cb_x0_0 := (hb.cell (p := ⟨w5.heap.size, 0, none⟩) lt_x0).trans cb_x0_0
  replace lt_x0 := Nat.lt_of_lt_of_le lt_x0 hb.size
  replace cb_x1_0 := (hb.cell (p := ⟨w7.heap.size, 0, none⟩) lt_x1).trans cb_x1_0
  replace lt_x1 := Nat.lt_of_lt_of_le lt_x1 hb.size
  replace cb_g0_0 := (hb.cell (p := ⟨w9.heap.size, 0, none⟩) lt_g0).trans cb_g0_0
  replace lt_g0 := Nat.lt_of_lt_of_le lt_g0 hb.size
  replace hB := below_step hB hb hB.size
  clear hb
  go_wp2_with fail
  with_reducible refine (markMulti_any _ R0 _ _ _ _ h4 (by omega) (by omega)).mono ?_
  rintro e w14 ⟨rfl, hm, hc⟩
  have hs_14 := hc.size
  replace h3 := h3.kept hc (by omega)
  replace h5 := h5.kept hc (by omega)
  replace h6 := h6.kept hc (by omega)
  replace cb_aA_0 := (chg_cell hc lt_aA (by omega) 0).trans cb_aA_0
  replace lt_aA := Nat.lt_of_lt_of_le lt_aA hc.size
  replace cb_aB_0 := (chg_cell hc lt_aB (by omega) 0).trans cb_aB_0
  replace lt_aB := Nat.lt_of_lt_of_le lt_aB hc.size
  replace cb_w0_0 := (chg_cell hc lt_w0 (by omega) 0).trans cb_w0_0
  replace lt_w0 := Nat.lt_of_lt_of_le lt_w0 hc.size
  replace cb_x0_0 := (chg_cell hc lt_x0 (by omega) 0).trans cb_x0_0
  replace lt_x0 := Nat.lt_of_lt_of_le lt_x0 hc.size
  replace cb_x1_0 := (chg_cell hc lt_x1 (by omega) 0).trans cb_x1_0
  replace lt_x1 := Nat.lt_of_lt_of_le lt_x1 hc.size
  replace cb_g0_0 := (chg_cell hc lt_g0 (by omega) 0).trans cb_g0_0
  replace lt_g0 := Nat.lt_of_lt_of_le lt_g0 hc.size
  replace hB := below_chg_step hB hc hB.size (by omega)
  clear hc
  clear h4
  have h4 := hm
  clear hm
  have hk_14 : decide ((1 + ((sumLen R0 R0.length : Int))) < 0) = false := by simp; omega
  go_wp2_with fail
  with_reducible refine (markMulti_any _ R1 _ _ _ _ h5 (by omega) (by omega)).mono ?_
  rintro e w15 ⟨rfl, hm, hc⟩
  have hs_15 := hc.size
  replace h3 := h3.kept hc (by omega)
  replace h4 := h4.kept hc (by omega)
  replace h6 := h6.kept hc (by omega)
  replace cb_aA_0 := (chg_cell hc lt_aA (by omega) 0).trans cb_aA_0
  replace lt_aA := Nat.lt_of_lt_of_le lt_aA hc.size
  replace cb_aB_0 := (chg_cell hc lt_aB (by omega) 0).trans cb_aB_0
  replace lt_aB := Nat.lt_of_lt_of_le lt_aB hc.size
  replace cb_w0_0 := (chg_cell hc lt_w0 (by omega) 0).trans cb_w0_0
  replace lt_w0 := Nat.lt_of_lt_of_le lt_w0 hc.size
  replace cb_x0_0 := (chg_cell hc lt_x0 (by omega) 0).trans cb_x0_0
  replace lt_x0 := Nat.lt_of_lt_of_le lt_x0 hc.size
  replace cb_x1_0 := (chg_cell hc lt_x1 (by omega) 0).trans cb_x1_0
  replace lt_x1 := Nat.lt_of_lt_of_le lt_x1 hc.size
  replace cb_g0_0 := (chg_cell hc lt_g0 (by omega) 0).trans cb_g0_0
  replace lt_g0 := Nat.lt_of_lt_of_le lt_g0 hc.size
  replace hB := below_chg_step hB hc hB.size (by omega)
  clear hc
  clear h5
  have h5 := hm
  clear hm
  have hk_15 : decide (((1 + ((sumLen R0 R0.length : Int))) + ((sumLen R1 R1.length : Int))) < 0) = false := by simp; omega
  go_wp2_with fail
  with_reducible refine (eqMulti_same _ _ _ _ h6.rd h3.rd).mono ?_
  rintro e w16 ⟨rfl, hb⟩
  have hs_16 := hb.size
  replace h3 := h3.below hb
  replace h4 := h4.below hb
  replace h5 := h5.below hb
  replace h6 := h6.below hb
  replace cb_aA_0 := (hb.cell (p := ⟨W.heap.size, 0, none⟩) lt_aA).trans cb_aA_0
  replace lt_aA := Nat.lt_of_lt_of_le lt_aA hb.size
  replace cb_aB_0 := (hb.cell (p := ⟨W.heap.size + 1, 0, none⟩) lt_aB).trans cb_aB_0
  replace lt_aB := Nat.lt_of_lt_of_le lt_aB hb.size
  replace cb_w0_0 := (hb.cell (p := ⟨B_3, 0, none⟩) lt_w0).trans cb_w0_0
  replace lt_w0 := Nat.lt_of_lt_of_le lt_w0 hb.size
  replace cb_x0_0 := (hb.cell (p := ⟨w5.heap.size, 0, none⟩) lt_x0).trans cb_x0_0
  replace lt_x0 := Nat.lt_of_lt_of_le lt_x0 hb.size
  replace cb_x1_0 := (hb.cell (p := ⟨w7.heap.size, 0, none⟩) lt_x1).trans cb_x1_0
  replace lt_x1 := Nat.lt_of_lt_of_le lt_x1 hb.size
  replace cb_g0_0 := (hb.cell (p := ⟨w9.heap.size, 0, none⟩) lt_g0).trans cb_g0_0
  replace lt_g0 := Nat.lt_of_lt_of_le lt_g0 hb.size
  replace hB := below_step hB hb hB.size
  clear hb
  go_wp2_with fail
  with_reducible refine (markMulti_any _ _ _ _ _ _ h6 (by omega) (by omega)).mono ?_
  rintro e w17 ⟨rfl, hm, hc⟩
  have hs_17 := hc.size
  replace h3 := h3.kept hc (by omega)
  replace h4 := h4.kept hc (by omega)
  replace h5 := h5.kept hc (by omega)
  replace cb_aA_0 := (chg_cell hc lt_aA (by omega) 0).trans cb_aA_0
  replace lt_aA := Nat.lt_of_lt_of_le lt_aA hc.size
  replace cb_aB_0 := (chg_cell hc lt_aB (by omega) 0).trans cb_aB_0
  replace lt_aB := Nat.lt_of_lt_of_le lt_aB hc.size
  replace cb_w0_0 := (chg_cell hc lt_w0 (by omega) 0).trans cb_w0_0
  replace lt_w0 := Nat.lt_of_lt_of_le lt_w0 hc.size
  replace cb_x0_0 := (chg_cell hc lt_x0 (by omega) 0).trans cb_x0_0
  replace lt_x0 := Nat.lt_of_lt_of_le lt_x0 hc.size
  replace cb_x1_0 := (chg_cell hc lt_x1 (by omega) 0).trans cb_x1_0
  replace lt_x1 := Nat.lt_of_lt_of_le lt_x1 hc.size
  replace cb_g0_0 := (chg_cell hc lt_g0 (by omega) 0).trans cb_g0_0
  replace lt_g0 := Nat.lt_of_lt_of_le lt_g0 hc.size
  replace hB := below_chg_step hB hc hB.size (by omega)
  clear hc
  clear h6
  have h6 := hm
  clear hm
  go_wp2_with fail
  with_reducible refine (heldMulti_same _ _ _ _ _ _ h6 (by omega) (by omega)).mono ?_
  rintro e w18 ⟨rfl, hb⟩
  have hs_18 := hb.size
  replace h3 := h3.below hb
  replace h4 := h4.below hb
  replace h5 := h5.below hb
  replace h6 := h6.below hb
  replace cb_aA_0 := (hb.cell (p := ⟨W.heap.size, 0, none⟩) lt_aA).trans cb_aA_0
  replace lt_aA := Nat.lt_of_lt_of_le lt_aA hb.size
  replace cb_aB_0 := (hb.cell (p := ⟨W.heap.size + 1, 0, none⟩) lt_aB).trans cb_aB_0
  replace lt_aB := Nat.lt_of_lt_of_le lt_aB hb.size
  replace cb_w0_0 := (hb.cell (p := ⟨B_3, 0, none⟩) lt_w0).trans cb_w0_0
  replace lt_w0 := Nat.lt_of_lt_of_le lt_w0 hb.size
  replace cb_x0_0 := (hb.cell (p := ⟨w5.heap.size, 0, none⟩) lt_x0).trans cb_x0_0
  replace lt_x0 := Nat.lt_of_lt_of_le lt_x0 hb.size
  replace cb_x1_0 := (hb.cell (p := ⟨w7.heap.size, 0, none⟩) lt_x1).trans cb_x1_0
  replace lt_x1 := Nat.lt_of_lt_of_le lt_x1 hb.size
  replace cb_g0_0 := (hb.cell (p := ⟨w9.heap.size, 0, none⟩) lt_g0).trans cb_g0_0
  replace lt_g0 := Nat.lt_of_lt_of_le lt_g0 hb.size
  replace hB := below_step hB hb hB.size
  clear hb
  go_wp2_with fail
  go_cut [15, 16] (fun b c wx => ∃ (B : Nat) (s : Option Addr) (n cc : Nat), b = .pointer (some ⟨B, 0, none⟩) ∧ c = .int .i64 (adC R0 R1) ∧ w18.heap.size ≤ B ∧ B < wx.heap.size ∧ wx.cell? ⟨B, 0, none⟩ = some (.slice s n cc) ∧ OwnR wx w18.heap.size wx.heap.size (.slice s n cc) (adL R0 R1) ∧ Below w18.heap.size w18 wx)
  case first =>
    go_region_held3 (fun w' => w'.cell? ⟨W.heap.size, 0, none⟩ = some (.slice sa0 na0 ca0) ∧ w'.cell? ⟨W.heap.size + 1, 0, none⟩ = some (.slice sa1 na1 ca1) ∧ w'.cell? ⟨B_3, 0, none⟩ = some (.slice s3 n3 c3) ∧ w'.cell? ⟨w5.heap.size, 0, none⟩ = some (.slice s4 n4 c4) ∧ w'.cell? ⟨w7.heap.size, 0, none⟩ = some (.slice s5 n5 c5) ∧ w'.cell? ⟨w9.heap.size, 0, none⟩ = some (.slice s7 n7 c7))
      (exact ⟨(Below.cell (p := ⟨W.heap.size, 0, none⟩) ((by (repeat' first | assumption | exact Below.refl _ _ | refine Below.drew ?_ | refine Below.alloc ?_ ?_ _ | refine Below.setCell ?_ ?_ _) <;> first | (simp; done) | (simp; omega) | omega) : Below w18.heap.size w18 _) lt_aA).trans cb_aA_0, (Below.cell (p := ⟨W.heap.size + 1, 0, none⟩) ((by (repeat' first | assumption | exact Below.refl _ _ | refine Below.drew ?_ | refine Below.alloc ?_ ?_ _ | refine Below.setCell ?_ ?_ _) <;> first | (simp; done) | (simp; omega) | omega) : Below w18.heap.size w18 _) lt_aB).trans cb_aB_0, (Below.cell (p := ⟨B_3, 0, none⟩) ((by (repeat' first | assumption | exact Below.refl _ _ | refine Below.drew ?_ | refine Below.alloc ?_ ?_ _ | refine Below.setCell ?_ ?_ _) <;> first | (simp; done) | (simp; omega) | omega) : Below w18.heap.size w18 _) lt_w0).trans cb_w0_0, (Below.cell (p := ⟨w5.heap.size, 0, none⟩) ((by (repeat' first | assumption | exact Below.refl _ _ | refine Below.drew ?_ | refine Below.alloc ?_ ?_ _ | refine Below.setCell ?_ ?_ _) <;> first | (simp; done) | (simp; omega) | omega) : Below w18.heap.size w18 _) lt_x0).trans cb_x0_0, (Below.cell (p := ⟨w7.heap.size, 0, none⟩) ((by (repeat' first | assumption | exact Below.refl _ _ | refine Below.drew ?_ | refine Below.alloc ?_ ?_ _ | refine Below.setCell ?_ ?_ _) <;> first | (simp; done) | (simp; omega) | omega) : Below w18.heap.size w18 _) lt_x1).trans cb_x1_0, (Below.cell (p := ⟨w9.heap.size, 0, none⟩) ((by (repeat' first | assumption | exact Below.refl _ _ | refine Below.drew ?_ | refine Below.alloc ?_ ?_ _ | refine Below.setCell ?_ ?_ _) <;> first | (simp; done) | (simp; omega) | omega) : Below w18.heap.size w18 _) lt_g0).trans cb_g0_0⟩)
      (first | (go_at_call 14; first | (with_reducible refine (toMulti_any _ R0 w18.drew (hA0.below (below_step hB (by (repeat' first | assumption | exact Below.refl _ _ | refine Below.drew ?_ | refine Below.alloc ?_ ?_ _ | refine Below.setCell ?_ ?_ _) <;> first | (simp; done) | (simp; omega) | omega) hB.size)) (by omega)).mono ?_; rintro e wa ⟨u1, rfl, hua, hba⟩; have hCa : Below w18.heap.size w18 wa := below_step (by (repeat' first | assumption | exact Below.refl _ _ | refine Below.drew ?_ | refine Below.alloc ?_ ?_ _ | refine Below.setCell ?_ ?_ _) <;> first | (simp; done) | (simp; omega) | omega) hba (by simp); have hsa := hCa.size; obtain ⟨s1, n1, c1, rfl⟩ := hua.rd.form') | (with_reducible refine (toMulti_any _ R0 _ (hA0.below (below_step hB (by (repeat' first | assumption | exact Below.refl _ _ | refine Below.drew ?_ | refine Below.alloc ?_ ?_ _ | refine Below.setCell ?_ ?_ _) <;> first | (simp; done) | (simp; omega) | omega) hB.size)) (by omega)).mono ?_; rintro e wa ⟨u1, rfl, hua, hba⟩; have hCa : Below w18.heap.size w18 wa := below_step (by (repeat' first | assumption | exact Below.refl _ _ | refine Below.drew ?_ | refine Below.alloc ?_ ?_ _ | refine Below.setCell ?_ ?_ _) <;> first | (simp; done) | (simp; omega) | omega) hba (by simp); have hsa := hCa.size; obtain ⟨s1, n1, c1, rfl⟩ := hua.rd.form'; have fB := (hba.cell (p := ⟨w18.heap.size, 0, none⟩) (by simp)).trans (show World.cell? _ _ = some (Value.slice none 0 0) by simp); have zB := (hba.frozen (p := ⟨w18.heap.size, 0, none⟩) (by simp)).trans (show World.frozen? _ _ = false by simp); have ltB : w18.heap.size < wa.heap.size := by (have := hba.size; simp at this; omega))) | (go_at_call 14; first | (with_reducible refine (toMulti_any _ R1 wa (hA1.below (below_step hB (by (repeat' first | assumption | exact Below.refl _ _ | refine Below.drew ?_ | refine Below.alloc ?_ ?_ _ | refine Below.setCell ?_ ?_ _) <;> first | (simp; done) | (simp; omega) | omega) hB.size)) (by omega)).mono ?_; rintro e wb ⟨u2, rfl, hub, hbb⟩; have hCb : Below w18.heap.size w18 wb := below_step hCa hbb hCa.size; have hsb := hCb.size; obtain ⟨s2, n2, c2, rfl⟩ := hub.rd.form'; have hua2 := hua.below hbb; try (replace fB := (hbb.cell (p := ⟨_, 0, none⟩) ltB).trans fB; replace zB := (hbb.frozen (p := ⟨_, 0, none⟩) ltB).trans zB; replace ltB := Nat.lt_of_lt_of_le ltB hbb.size)) | (with_reducible refine (toMulti_any _ R1 _ (hA1.below (below_step hB (by (repeat' first | assumption | exact Below.refl _ _ | refine Below.drew ?_ | refine Below.alloc ?_ ?_ _ | refine Below.setCell ?_ ?_ _) <;> first | (simp; done) | (simp; omega) | omega) hB.size)) (by omega)).mono ?_; rintro e wb ⟨u2, rfl, hub, hbb⟩; have hCb : Below w18.heap.size w18 wb := below_step (by (repeat' first | assumption | exact Below.refl _ _ | refine Below.drew ?_ | refine Below.alloc ?_ ?_ _ | refine Below.setCell ?_ ?_ _) <;> first | (simp; done) | (simp; omega) | omega) hbb (by simp; omega); have hsb := hCb.size; obtain ⟨s2, n2, c2, rfl⟩ := hub.rd.form'; have hua2 := (hua.below ((Below.refl wa.heap.size wa).alloc (Nat.le_refl _) _)).below hbb; have fB := (hbb.cell (p := ⟨wa.heap.size, 0, none⟩) (by simp)).trans (show World.cell? _ _ = some (Value.slice none 0 0) by simp); have zB := (hbb.frozen (p := ⟨wa.heap.size, 0, none⟩) (by simp)).trans (show World.frozen? _ _ = false by simp); have ltB : wa.heap.size < wb.heap.size := by (have := hbb.size; simp at this; omega))) | (go_at_call 15; first | (with_reducible refine (implAdd_any _ R0 _ R1 wb hua2.rd hub.rd).mono ?_; rintro e wc9 ⟨u3, rfl, huc, hbc⟩; have hCc : Below w18.heap.size w18 wc9 := below_step hCb hbc hCb.size; have hsc := hCc.size; obtain ⟨s3, n3, c3, rfl⟩ := huc.rd.form'; try (replace fB := (hbc.cell (p := ⟨_, 0, none⟩) ltB).trans fB; replace zB := (hbc.frozen (p := ⟨_, 0, none⟩) ltB).trans zB; replace ltB := Nat.lt_of_lt_of_le ltB hbc.size)) | (with_reducible refine (implAdd_any _ R0 _ R1 _ (hua2.below ((Below.refl wb.heap.size wb).alloc (Nat.le_refl _) _)).rd (hub.below ((Below.refl wb.heap.size wb).alloc (Nat.le_refl _) _)).rd).mono ?_; rintro e wc9 ⟨u3, rfl, huc, hbc⟩; have hCc : Below w18.heap.size w18 wc9 := below_step (by (repeat' first | assumption | exact Below.refl _ _ | refine Below.drew ?_ | refine Below.alloc ?_ ?_ _ | refine Below.setCell ?_ ?_ _) <;> first | (simp; done) | (simp; omega) | omega) hbc (by simp; omega); have hsc := hCc.size; obtain ⟨s3, n3, c3, rfl⟩ := huc.rd.form'; have fB := (hbc.cell (p := ⟨wb.heap.size, 0, none⟩) (by simp)).trans (show World.cell? _ _ = some (Value.slice none 0 0) by simp); have zB := (hbc.frozen (p := ⟨wb.heap.size, 0, none⟩) (by simp)).trans (show World.frozen? _ _ = false by simp); have ltB : wb.heap.size < wc9.heap.size := by (have := hbc.size; simp at this; omega))) | fail)
    all_goals
      go_wp2_with fail
      go_meet
      case rel =>
        have hq1 := hba.size
        have hq2 := hbb.size
        have hq3 := hbc.size
        try simp at hq1
        try simp at hq2
        try simp at hq3
        first | exact ⟨_, s3, n3, c3, rfl, rfl, hsc, by simp, by simp, (huc.below ((Below.refl wc9.heap.size wc9).alloc (Nat.le_refl _) _)).mono (by first | (simp; done) | (simp; omega) | omega) (by simp), hCc.alloc hsc _⟩ | exact ⟨_, s3, n3, c3, rfl, rfl, by omega, by simpa using ltB, World.cell?_setCell_same _ _ _ fB, (huc.kept ((Chg.refl _ _ _).setCell _ _ (Nat.le_refl _) (Nat.lt_succ_self _)) (.inr (by first | (simp; done) | (simp; omega) | omega))).mono (by first | (simp; done) | (simp; omega) | omega) (by simp), hCc.setCell (by first | (simp; done) | (simp; omega)) _⟩
  obtain ⟨B_12, s12, n12, c12, rfl, rfl, hBl_12, lt_h0, cb_h0_0, h12, hb⟩ := hcut
  obtain ⟨w19, hww⟩ : ∃ ww, ww = wc := ⟨_, rfl⟩
  subst hww
  have hBw_12 := lt_h0
  have hs_19 := hb.size
  replace h3 := h3.below hb
  replace h4 := h4.below hb
  replace h5 := h5.below hb
  replace h6 := h6.below hb
  replace cb_aA_0 := (hb.cell (p := ⟨W.heap.size, 0, none⟩) lt_aA).trans cb_aA_0
  replace lt_aA := Nat.lt_of_lt_of_le lt_aA hb.size
  replace cb_aB_0 := (hb.cell (p := ⟨W.heap.size + 1, 0, none⟩) lt_aB).trans cb_aB_0
  replace lt_aB := Nat.lt_of_lt_of_le lt_aB hb.size
  replace cb_w0_0 := (hb.cell (p := ⟨B_3, 0, none⟩) lt_w0).trans cb_w0_0
  replace lt_w0 := Nat.lt_of_lt_of_le lt_w0 hb.size
  replace cb_x0_0 := (hb.cell (p := ⟨w5.heap.size, 0, none⟩) lt_x0).trans cb_x0_0
  replace lt_x0 := Nat.lt_of_lt_of_le lt_x0 hb.size
  replace cb_x1_0 := (hb.cell (p := ⟨w7.heap.size, 0, none⟩) lt_x1).trans cb_x1_0
  replace lt_x1 := Nat.lt_of_lt_of_le lt_x1 hb.size
  replace cb_g0_0 := (hb.cell (p := ⟨w9.heap.size, 0, none⟩) lt_g0).trans cb_g0_0
  replace lt_g0 := Nat.lt_of_lt_of_le lt_g0 hb.size
  replace hB := below_step hB hb hB.size
  clear hb
  go_wp2_with fail
  with_reducible refine (eqMulti_same _ _ _ _ h12.rd h3.rd).mono ?_
  rintro e w20 ⟨rfl, hb⟩
  have hs_20 := hb.size
  replace h3 := h3.below hb
  replace h4 := h4.below hb
  replace h5 := h5.below hb
  replace h6 := h6.below hb
  replace h12 := h12.below hb
  replace cb_aA_0 := (hb.cell (p := ⟨W.heap.size, 0, none⟩) lt_aA).trans cb_aA_0
  replace lt_aA := Nat.lt_of_lt_of_le lt_aA hb.size
  replace cb_aB_0 := (hb.cell (p := ⟨W.heap.size + 1, 0, none⟩) lt_aB).trans cb_aB_0
  replace lt_aB := Nat.lt_of_lt_of_le lt_aB hb.size
  replace cb_w0_0 := (hb.cell (p := ⟨B_3, 0, none⟩) lt_w0).trans cb_w0_0
  replace lt_w0 := Nat.lt_of_lt_of_le lt_w0 hb.size
  replace cb_x0_0 := (hb.cell (p := ⟨w5.heap.size, 0, none⟩) lt_x0).trans cb_x0_0
  replace lt_x0 := Nat.lt_of_lt_of_le lt_x0 hb.size
  replace cb_x1_0 := (hb.cell (p := ⟨w7.heap.size, 0, none⟩) lt_x1).trans cb_x1_0
  replace lt_x1 := Nat.lt_of_lt_of_le lt_x1 hb.size
  replace cb_g0_0 := (hb.cell (p := ⟨w9.heap.size, 0, none⟩) lt_g0).trans cb_g0_0
  replace lt_g0 := Nat.lt_of_lt_of_le lt_g0 hb.size
  replace cb_h0_0 := (hb.cell (p := ⟨B_12, 0, none⟩) lt_h0).trans cb_h0_0
  replace lt_h0 := Nat.lt_of_lt_of_le lt_h0 hb.size
  replace hB := below_step hB hb hB.size
  clear hb
  go_wp2_with fail
  with_reducible refine (heldMulti_same _ _ _ _ _ _ h6 (by omega) (by omega)).mono ?_
  rintro e w21 ⟨rfl, hb⟩
  have hs_21 := hb.size
  replace h3 := h3.below hb
  replace h4 := h4.below hb
  replace h5 := h5.below hb
  replace h6 := h6.below hb
  replace h12 := h12.below hb
  replace cb_aA_0 := (hb.cell (p := ⟨W.heap.size, 0, none⟩) lt_aA).trans cb_aA_0
  replace lt_aA := Nat.lt_of_lt_of_le lt_aA hb.size
  replace cb_aB_0 := (hb.cell (p := ⟨W.heap.size + 1, 0, none⟩) lt_aB).trans cb_aB_0
  replace lt_aB := Nat.lt_of_lt_of_le lt_aB hb.size
  replace cb_w0_0 := (hb.cell (p := ⟨B_3, 0, none⟩) lt_w0).trans cb_w0_0
  replace lt_w0 := Nat.lt_of_lt_of_le lt_w0 hb.size
  replace cb_x0_0 := (hb.cell (p := ⟨w5.heap.size, 0, none⟩) lt_x0).trans cb_x0_0
  replace lt_x0 := Nat.lt_of_lt_of_le lt_x0 hb.size
  replace cb_x1_0 := (hb.cell (p := ⟨w7.heap.size, 0, none⟩) lt_x1).trans cb_x1_0
  replace lt_x1 := Nat.lt_of_lt_of_le lt_x1 hb.size
  replace cb_g0_0 := (hb.cell (p := ⟨w9.heap.size, 0, none⟩) lt_g0).trans cb_g0_0
  replace lt_g0 := Nat.lt_of_lt_of_le lt_g0 hb.size
  replace cb_h0_0 := (hb.cell (p := ⟨B_12, 0, none⟩) lt_h0).trans cb_h0_0
  replace lt_h0 := Nat.lt_of_lt_of_le lt_h0 hb.size
  replace hB := below_step hB hb hB.size
  clear hb
  go_wp2
  go_ret
  exact ⟨rfl, hB⟩

set_option maxRecDepth 100000 in
theorem fnExactAddMulti_lifted (os : Os) (started : os.Started) (H : Type) (enc : TypeId × Value → H) :
    ReturnsInHanded {} Try.checked os 4 .any (Rows.fnExactAddMultiSpec.pre6 enc Try.prog Try.f4 Rows.fnExactAddMultiRow.domain false) (Rows.fnExactAddMultiSpec.post enc Try.prog Try.f4 false true false false) := by
  refine returnsInHanded_of_change_sized (C := Try.checked) Try.own started (by kernel_rfl) Try.func4
    (ChangeSpec.witness6 (enc := enc) (C := Try.checked) false ⟨#[], #[.agg #[.slice none 0 0], .agg #[.slice none 0 0]], []⟩ 8 (by kernel_rfl) (by kernel_rfl) (by kernel_rfl) (by kernel_rfl)) ?_
  intro W base args ds gs before hval0 hW _ hsz0 _
  have hsz : (DataW.weightsEach Try.prog (Try.f4.params.toList ++ Rows.fnExactAddMultiSpec.plain.varTypes Try.prog) (ds ++ gs)).all (· ≤ reachBytes) = true := hsz0
  clear hsz0
  have hval : ∀ (j : Nat) t v, Try.f4.params[j]? = some t → args[j]? = some v → Value.okWide Try.prog W .any base t v := hval0
  have hW' := hW
  obtain ⟨p, q, hA0, hV, rfl, _, _⟩ := hW
  have hA : DataW.TrodAll enc Try.prog W 0 (fun _ => true) true Try.f4.params.toList args.toList ds p := hA0
  rw [Try.params4] at hA hval hsz
  obtain ⟨v0, v1, d0, d1, p0, p1, rfl, rfl, rfl, h0, h1⟩ := trodAll_two hA
  obtain ⟨rfl, rfl⟩ := trodVars_none hV
  clear hA0 hval0
  simp only [List.append_nil] at hW'
  have hlt : ∀ x ∈ p0 ++ p1, x.block < W.heap.size := fun x hx => by simpa using hW'.lt x (by simpa using hx)
  have h0k := h0
  obtain ⟨va0, R0, rfl, hA0⟩ := rdM_open (hval 0 31 v0 rfl rfl) h0 (fun x hx => by have := List.all_eq_true.1 hsz _ (DataW.weights_mem_each (j := 0) (t := 31) rfl rfl x hx); simpa using this)
  have h1k := h1
  obtain ⟨va1, R1, rfl, hA1⟩ := rdM_open (hval 1 31 v1 rfl rfl) h1 (fun x hx => by have := List.all_eq_true.1 hsz _ (DataW.weights_mem_each (j := 1) (t := 31) rfl rfl x hx); simpa using this)
  refine (fnExactAddMulti_any0 W va0 R0 hA0 va1 R1 hA1).mono fun e W' ⟨he, hb⟩ => ?_
  subst he
  exact ⟨_, rfl, _, _, _, [], _, [], hW', trodAll_mk1 (shut_bool Try.underlying4 true), (trodAll_mk2 (Below.trod Try.laidOut (by kernel_rfl) (of_decide_eq_true (by kernel_rfl)) h0k hb (fun x hx => hlt x (by simp [hx]))) (Below.trod Try.laidOut (by kernel_rfl) (of_decide_eq_true (by kernel_rfl)) h1k hb (fun x hx => hlt x (by simp [hx])))), rfl, hb.frame _, fun h => by cases h⟩

theorem fnExactAddMulti_holds : Rows.FnExactAddMultiSaid :=
  OpenClaim.holds_of_wide 4 Try.f4 rfl rfl rfl rfl rfl rfl rfl ⟨rfl, rfl, rfl, rfl, rfl⟩ rfl rfl rfl rfl rfl (by kernel_rfl) Try.func4 (by kernel_rfl)
    (of_decide_eq_true (by kernel_rfl)) (by unfold Func.isWrapper; first | (rw [if_pos (by decide +kernel)]; kernel_rfl) | (rw [if_neg (by decide +kernel)]; exact ⟨rfl, rfl⟩))
    (fun os started H enc _ => fnExactAddMulti_lifted os started H enc)

#print axioms fnExactAddMulti_holds
end Go.Proofs.Ytloebbeaccjgjaa
