/-
  Proved here: the law FnExactSamePassing returns true for all inputs. No condition.
-/
import Derived.Test.YtfepgbpblbccbaaP1
import Derived.Deep.RegionHeld3
namespace Go.Proofs.Ytfepgbpblbccbaa
open Go.ChangeShapes Go.WideShapes Go.ChangeAt Go.RowKit


set_option maxHeartbeats 4000000 in
theorem fnExactSamePassing_any0 (W : World) (va0 vb0 : Value) (A0 B0 : List Th) (hA0 : RdP W va0 vb0 A0 B0) (_hwa0 : ∀ k, k < A0.length → (Lit.int .i64 (gt A0 k).1).wf = true) (_hwb0 : ∀ k, k < B0.length → (Lit.int .i64 (gt B0 k).1).wf = true) (va1 vb1 : Value) (A1 B1 : List Th) (hA1 : RdP W va1 vb1 A1 B1) (_hwa1 : ∀ k, k < A1.length → (Lit.int .i64 (gt A1 k).1).wf = true) (_hwb1 : ∀ k, k < B1.length → (Lit.int .i64 (gt B1 k).1).wf = true) : Calls Try.prog 3 #[.agg #[va0, vb0], .agg #[va1, vb1]] W fun e w' => e = .returned (.bool true) ∧ Below W.heap.size W w' := by
  obtain ⟨sa0, na0, ca0, sb0, nb0, cb0, rfl, rfl⟩ := hA0.form'
  obtain ⟨sa1, na1, ca1, sb1, nb1, cb1, rfl, rfl⟩ := hA1.form'
  have hB : Below W.heap.size W W := Below.refl _ _
  go_enter Try.func3, Try.ntmps3
  go_wp2_with fail
  generalize hW : (World.alloc (World.alloc W _) _) = w1
  have hb : Below W.heap.size W w1 := by rw [← hW]; exact ((Below.refl _ _).alloc (Nat.le_refl _) _).alloc (by simp) _
  have hz_1 : W.heap.size + 2 ≤ w1.heap.size := by rw [← hW]; simp
  have cb_aA_0 : w1.cell? ⟨W.heap.size, 0, none⟩ = some (.slice sa0 na0 ca0) := by rw [← hW]; simp
  have cb_aA_1 : w1.cell? ⟨W.heap.size, 1, none⟩ = some (.slice sb0 nb0 cb0) := by rw [← hW]; simp
  have lt_aA : W.heap.size < w1.heap.size := by omega
  have cb_aB_0 : w1.cell? ⟨W.heap.size + 1, 0, none⟩ = some (.slice sa1 na1 ca1) := by rw [← hW]; simp
  have cb_aB_1 : w1.cell? ⟨W.heap.size + 1, 1, none⟩ = some (.slice sb1 nb1 cb1) := by rw [← hW]; simp
  have lt_aB : W.heap.size + 1 < w1.heap.size := by omega
  clear hW
  have hs_1 := hb.size
  replace hB := below_step hB hb hB.size
  clear hb
  by_cases hgz : ((A0.length : Int) + (B0.length : Int)) ≤ 1048576
  rotate_left
  · with_reducible refine (szPassing_no _ _ A0 B0 (1048576) _ (hA0.below hB) (by omega) (by omega) (by omega)).mono ?_
    rintro e w' ⟨rfl, hb⟩
    go_wp2
    go_ret
    exact ⟨rfl, below_step hB hb hB.size⟩
  with_reducible refine (szPassing_yes _ _ A0 B0 (1048576) _ (hA0.below hB) (by omega) (by omega) (by omega)).mono ?_
  rintro e w2 ⟨rfl, hb⟩
  have hs_2 := hb.size
  replace cb_aA_0 := (hb.cell (p := ⟨W.heap.size, 0, none⟩) lt_aA).trans cb_aA_0
  replace cb_aA_1 := (hb.cell (p := ⟨W.heap.size, 1, none⟩) lt_aA).trans cb_aA_1
  replace lt_aA := Nat.lt_of_lt_of_le lt_aA hb.size
  replace cb_aB_0 := (hb.cell (p := ⟨W.heap.size + 1, 0, none⟩) lt_aB).trans cb_aB_0
  replace cb_aB_1 := (hb.cell (p := ⟨W.heap.size + 1, 1, none⟩) lt_aB).trans cb_aB_1
  replace lt_aB := Nat.lt_of_lt_of_le lt_aB hb.size
  replace hB := below_step hB hb hB.size
  clear hb
  have hgq_2 : ((A0.length : Int) + (B0.length : Int)) ≤ 1048576 := by omega
  clear hgz
  go_wp2_with fail
  by_cases hgz : ((A1.length : Int) + (B1.length : Int)) ≤ (1048576 - ((A0.length : Int) + (B0.length : Int)))
  rotate_left
  · with_reducible refine (szPassing_no _ _ A1 B1 ((1048576 - ((A0.length : Int) + (B0.length : Int)))) _ (hA1.below hB) (by omega) (by omega) (by omega)).mono ?_
    rintro e w' ⟨rfl, hb⟩
    go_wp2
    go_ret
    exact ⟨rfl, below_step hB hb hB.size⟩
  with_reducible refine (szPassing_yes _ _ A1 B1 ((1048576 - ((A0.length : Int) + (B0.length : Int)))) _ (hA1.below hB) (by omega) (by omega) (by omega)).mono ?_
  rintro e w3 ⟨rfl, hb⟩
  have hs_3 := hb.size
  replace cb_aA_0 := (hb.cell (p := ⟨W.heap.size, 0, none⟩) lt_aA).trans cb_aA_0
  replace cb_aA_1 := (hb.cell (p := ⟨W.heap.size, 1, none⟩) lt_aA).trans cb_aA_1
  replace lt_aA := Nat.lt_of_lt_of_le lt_aA hb.size
  replace cb_aB_0 := (hb.cell (p := ⟨W.heap.size + 1, 0, none⟩) lt_aB).trans cb_aB_0
  replace cb_aB_1 := (hb.cell (p := ⟨W.heap.size + 1, 1, none⟩) lt_aB).trans cb_aB_1
  replace lt_aB := Nat.lt_of_lt_of_le lt_aB hb.size
  replace hB := below_step hB hb hB.size
  clear hb
  have hgq_3 : ((A1.length : Int) + (B1.length : Int)) ≤ (1048576 - ((A0.length : Int) + (B0.length : Int))) := by omega
  clear hgz
  go_wp2_with fail
  have hBd := hB.drew
  have hda := hA0.below hBd
  go_region_held3 (fun w' => w'.cell? ⟨W.heap.size, 0, none⟩ = some (.slice sa0 na0 ca0) ∧ w'.cell? ⟨W.heap.size, 1, none⟩ = some (.slice sb0 nb0 cb0) ∧ w'.cell? ⟨W.heap.size + 1, 0, none⟩ = some (.slice sa1 na1 ca1) ∧ w'.cell? ⟨W.heap.size + 1, 1, none⟩ = some (.slice sb1 nb1 cb1))
    (first | go_keep | (go_split_ands; exact ⟨(hba.cell (p := ⟨W.heap.size, 0, none⟩) lt_aA).trans (by assumption), (hba.cell (p := ⟨W.heap.size, 1, none⟩) lt_aA).trans (by assumption), (hba.cell (p := ⟨W.heap.size + 1, 0, none⟩) lt_aB).trans (by assumption), (hba.cell (p := ⟨W.heap.size + 1, 1, none⟩) lt_aB).trans (by assumption)⟩) | (go_split_ands; exact ⟨(hbb.cell (p := ⟨W.heap.size, 0, none⟩) (Nat.lt_of_lt_of_le lt_aA hba.size)).trans (by assumption), (hbb.cell (p := ⟨W.heap.size, 1, none⟩) (Nat.lt_of_lt_of_le lt_aA hba.size)).trans (by assumption), (hbb.cell (p := ⟨W.heap.size + 1, 0, none⟩) (Nat.lt_of_lt_of_le lt_aB hba.size)).trans (by assumption), (hbb.cell (p := ⟨W.heap.size + 1, 1, none⟩) (Nat.lt_of_lt_of_le lt_aB hba.size)).trans (by assumption)⟩) | (go_split_ands; exact ⟨(hbc.cell (p := ⟨W.heap.size, 0, none⟩) (Nat.lt_of_lt_of_le (Nat.lt_of_lt_of_le lt_aA hba.size) hbb.size)).trans (by assumption), (hbc.cell (p := ⟨W.heap.size, 1, none⟩) (Nat.lt_of_lt_of_le (Nat.lt_of_lt_of_le lt_aA hba.size) hbb.size)).trans (by assumption), (hbc.cell (p := ⟨W.heap.size + 1, 0, none⟩) (Nat.lt_of_lt_of_le (Nat.lt_of_lt_of_le lt_aB hba.size) hbb.size)).trans (by assumption), (hbc.cell (p := ⟨W.heap.size + 1, 1, none⟩) (Nat.lt_of_lt_of_le (Nat.lt_of_lt_of_le lt_aB hba.size) hbb.size)).trans (by assumption)⟩))
    (first | (go_at_call 15; (with_reducible refine (toPassing_any _ _ A0 B0 _ hda).mono ?_); rintro e wa3 ⟨u1, u1b, rfl, hua, hba⟩; obtain ⟨s1, n1, c1, s1b, n1b, c1b, rfl, rfl⟩ := hua.rd.form'; have hdb := hA1.below (below_step hBd hba hBd.size)) | (go_at_call 15; (with_reducible refine (toPassing_any _ _ A1 B1 _ hdb).mono ?_); rintro e wb3 ⟨u2, u2b, rfl, hub, hbb⟩; obtain ⟨s2, n2, c2, s2b, n2b, c2b, rfl, rfl⟩ := hub.rd.form'; have hua2 := hua.below hbb) | (go_at_call 14; (with_reducible refine (specSameP_any _ _ A0 B0 _ _ A1 B1 _ hua2.rd hub.rd).mono ?_); rintro e w4 ⟨rfl, hbc⟩))
  have hb : Below w3.heap.size w3 w4 := below_step (below_step (below_step (Below.refl _ _).drew hba (Nat.le_refl _)) hbb hba.size) hbc (Nat.le_trans hba.size hbb.size)
  clear hua hba hbb hda hBd hdb hub hua2 hbc
  have hs_4 := hb.size
  replace cb_aA_0 := (hb.cell (p := ⟨W.heap.size, 0, none⟩) lt_aA).trans cb_aA_0
  replace cb_aA_1 := (hb.cell (p := ⟨W.heap.size, 1, none⟩) lt_aA).trans cb_aA_1
  replace lt_aA := Nat.lt_of_lt_of_le lt_aA hb.size
  replace cb_aB_0 := (hb.cell (p := ⟨W.heap.size + 1, 0, none⟩) lt_aB).trans cb_aB_0
  replace cb_aB_1 := (hb.cell (p := ⟨W.heap.size + 1, 1, none⟩) lt_aB).trans cb_aB_1
  replace lt_aB := Nat.lt_of_lt_of_le lt_aB hb.size
  replace hB := below_step hB hb hB.size
  clear hb
  go_wp2_with fail
  with_reducible refine (toPassing_any _ _ A0 B0 _ (hA0.below hB)).mono ?_
  rintro e w5 ⟨u3, u3b, rfl, h3, hb⟩
  have hs_5 := hb.size
  replace cb_aA_0 := (hb.cell (p := ⟨W.heap.size, 0, none⟩) lt_aA).trans cb_aA_0
  replace cb_aA_1 := (hb.cell (p := ⟨W.heap.size, 1, none⟩) lt_aA).trans cb_aA_1
  replace lt_aA := Nat.lt_of_lt_of_le lt_aA hb.size
  replace cb_aB_0 := (hb.cell (p := ⟨W.heap.size + 1, 0, none⟩) lt_aB).trans cb_aB_0
  replace cb_aB_1 := (hb.cell (p := ⟨W.heap.size + 1, 1, none⟩) lt_aB).trans cb_aB_1
  replace lt_aB := Nat.lt_of_lt_of_le lt_aB hb.size
  replace hB := below_step hB hb hB.size
  clear hb
  obtain ⟨s3, n3, c3, s3b, n3b, c3b, rfl, rfl⟩ := h3.rd.form'
  go_wp2_with fail
  generalize hW : (World.alloc w5 _) = w6
  have hb : Below w5.heap.size w5 w6 := by rw [← hW]; exact (Below.refl _ _).alloc (Nat.le_refl _) _
  have hz_6 : w5.heap.size + 1 ≤ w6.heap.size := by rw [← hW]; simp
  have cb_x0_0 : w6.cell? ⟨w5.heap.size, 0, none⟩ = some (.slice s3 n3 c3) := by rw [← hW]; simp
  have cb_x0_1 : w6.cell? ⟨w5.heap.size, 1, none⟩ = some (.slice s3b n3b c3b) := by rw [← hW]; simp
  have lt_x0 : w5.heap.size < w6.heap.size := by omega
  clear hW
  have hs_6 := hb.size
  replace h3 := h3.below hb
  replace cb_aA_0 := (hb.cell (p := ⟨W.heap.size, 0, none⟩) lt_aA).trans cb_aA_0
  replace cb_aA_1 := (hb.cell (p := ⟨W.heap.size, 1, none⟩) lt_aA).trans cb_aA_1
  replace lt_aA := Nat.lt_of_lt_of_le lt_aA hb.size
  replace cb_aB_0 := (hb.cell (p := ⟨W.heap.size + 1, 0, none⟩) lt_aB).trans cb_aB_0
  replace cb_aB_1 := (hb.cell (p := ⟨W.heap.size + 1, 1, none⟩) lt_aB).trans cb_aB_1
  replace lt_aB := Nat.lt_of_lt_of_le lt_aB hb.size
  replace hB := below_step hB hb hB.size
  clear hb
  with_reducible refine (toPassing_any _ _ A1 B1 _ (hA1.below hB)).mono ?_
  rintro e w7 ⟨u4, u4b, rfl, h4, hb⟩
  have hs_7 := hb.size
  replace h3 := h3.below hb
  replace cb_aA_0 := (hb.cell (p := ⟨W.heap.size, 0, none⟩) lt_aA).trans cb_aA_0
  replace cb_aA_1 := (hb.cell (p := ⟨W.heap.size, 1, none⟩) lt_aA).trans cb_aA_1
  replace lt_aA := Nat.lt_of_lt_of_le lt_aA hb.size
  replace cb_aB_0 := (hb.cell (p := ⟨W.heap.size + 1, 0, none⟩) lt_aB).trans cb_aB_0
  replace cb_aB_1 := (hb.cell (p := ⟨W.heap.size + 1, 1, none⟩) lt_aB).trans cb_aB_1
  replace lt_aB := Nat.lt_of_lt_of_le lt_aB hb.size
  replace cb_x0_0 := (hb.cell (p := ⟨w5.heap.size, 0, none⟩) lt_x0).trans cb_x0_0
  replace cb_x0_1 := (hb.cell (p := ⟨w5.heap.size, 1, none⟩) lt_x0).trans cb_x0_1
  replace lt_x0 := Nat.lt_of_lt_of_le lt_x0 hb.size
  replace hB := below_step hB hb hB.size
  clear hb
  obtain ⟨s4, n4, c4, s4b, n4b, c4b, rfl, rfl⟩ := h4.rd.form'
  go_wp2_with fail
  generalize hW : (World.alloc w7 _) = w8
  have hb : Below w7.heap.size w7 w8 := by rw [← hW]; exact (Below.refl _ _).alloc (Nat.le_refl _) _
  have hz_8 : w7.heap.size + 1 ≤ w8.heap.size := by rw [← hW]; simp
  have cb_x1_0 : w8.cell? ⟨w7.heap.size, 0, none⟩ = some (.slice s4 n4 c4) := by rw [← hW]; simp
  have cb_x1_1 : w8.cell? ⟨w7.heap.size, 1, none⟩ = some (.slice s4b n4b c4b) := by rw [← hW]; simp
  have lt_x1 : w7.heap.size < w8.heap.size := by omega
  clear hW
  have hs_8 := hb.size
  replace h3 := h3.below hb
  replace h4 := h4.below hb
  replace cb_aA_0 := (hb.cell (p := ⟨W.heap.size, 0, none⟩) lt_aA).trans cb_aA_0
  replace cb_aA_1 := (hb.cell (p := ⟨W.heap.size, 1, none⟩) lt_aA).trans cb_aA_1
  replace lt_aA := Nat.lt_of_lt_of_le lt_aA hb.size
  replace cb_aB_0 := (hb.cell (p := ⟨W.heap.size + 1, 0, none⟩) lt_aB).trans cb_aB_0
  replace cb_aB_1 := (hb.cell (p := ⟨W.heap.size + 1, 1, none⟩) lt_aB).trans cb_aB_1
  replace lt_aB := Nat.lt_of_lt_of_le lt_aB hb.size
  replace cb_x0_0 := (hb.cell (p := ⟨w5.heap.size, 0, none⟩) lt_x0).trans cb_x0_0
  replace cb_x0_1 := (hb.cell (p := ⟨w5.heap.size, 1, none⟩) lt_x0).trans cb_x0_1
  replace lt_x0 := Nat.lt_of_lt_of_le lt_x0 hb.size
  replace hB := below_step hB hb hB.size
  clear hb
  with_reducible refine (implSameP_any _ _ A0 B0 _ _ A1 B1 _ h3.rd h4.rd ).mono ?_
  rintro e w9 ⟨rfl, hb⟩
  have hs_9 := hb.size
  replace h3 := h3.below hb
  replace h4 := h4.below hb
  replace cb_aA_0 := (hb.cell (p := ⟨W.heap.size, 0, none⟩) lt_aA).trans cb_aA_0
  replace cb_aA_1 := (hb.cell (p := ⟨W.heap.size, 1, none⟩) lt_aA).trans cb_aA_1
  replace lt_aA := Nat.lt_of_lt_of_le lt_aA hb.size
  replace cb_aB_0 := (hb.cell (p := ⟨W.heap.size + 1, 0, none⟩) lt_aB).trans cb_aB_0
  replace cb_aB_1 := (hb.cell (p := ⟨W.heap.size + 1, 1, none⟩) lt_aB).trans cb_aB_1
  replace lt_aB := Nat.lt_of_lt_of_le lt_aB hb.size
  replace cb_x0_0 := (hb.cell (p := ⟨w5.heap.size, 0, none⟩) lt_x0).trans cb_x0_0
  replace cb_x0_1 := (hb.cell (p := ⟨w5.heap.size, 1, none⟩) lt_x0).trans cb_x0_1
  replace lt_x0 := Nat.lt_of_lt_of_le lt_x0 hb.size
  replace cb_x1_0 := (hb.cell (p := ⟨w7.heap.size, 0, none⟩) lt_x1).trans cb_x1_0
  replace cb_x1_1 := (hb.cell (p := ⟨w7.heap.size, 1, none⟩) lt_x1).trans cb_x1_1
  replace lt_x1 := Nat.lt_of_lt_of_le lt_x1 hb.size
  replace hB := below_step hB hb hB.size
  clear hb
  go_wp2
  have hBd := hB.drew
  have hda := hA0.below hBd
  go_region_held3 (fun w' => w'.cell? ⟨W.heap.size, 0, none⟩ = some (.slice sa0 na0 ca0) ∧ w'.cell? ⟨W.heap.size, 1, none⟩ = some (.slice sb0 nb0 cb0) ∧ w'.cell? ⟨W.heap.size + 1, 0, none⟩ = some (.slice sa1 na1 ca1) ∧ w'.cell? ⟨W.heap.size + 1, 1, none⟩ = some (.slice sb1 nb1 cb1) ∧ w'.cell? ⟨w5.heap.size, 0, none⟩ = some (.slice s3 n3 c3) ∧ w'.cell? ⟨w5.heap.size, 1, none⟩ = some (.slice s3b n3b c3b) ∧ w'.cell? ⟨w7.heap.size, 0, none⟩ = some (.slice s4 n4 c4) ∧ w'.cell? ⟨w7.heap.size, 1, none⟩ = some (.slice s4b n4b c4b))
    (first | go_keep | (go_split_ands; exact ⟨(hba.cell (p := ⟨W.heap.size, 0, none⟩) lt_aA).trans (by assumption), (hba.cell (p := ⟨W.heap.size, 1, none⟩) lt_aA).trans (by assumption), (hba.cell (p := ⟨W.heap.size + 1, 0, none⟩) lt_aB).trans (by assumption), (hba.cell (p := ⟨W.heap.size + 1, 1, none⟩) lt_aB).trans (by assumption), (hba.cell (p := ⟨w5.heap.size, 0, none⟩) lt_x0).trans (by assumption), (hba.cell (p := ⟨w5.heap.size, 1, none⟩) lt_x0).trans (by assumption), (hba.cell (p := ⟨w7.heap.size, 0, none⟩) lt_x1).trans (by assumption), (hba.cell (p := ⟨w7.heap.size, 1, none⟩) lt_x1).trans (by assumption)⟩) | (go_split_ands; exact ⟨(hbb.cell (p := ⟨W.heap.size, 0, none⟩) (Nat.lt_of_lt_of_le lt_aA hba.size)).trans (by assumption), (hbb.cell (p := ⟨W.heap.size, 1, none⟩) (Nat.lt_of_lt_of_le lt_aA hba.size)).trans (by assumption), (hbb.cell (p := ⟨W.heap.size + 1, 0, none⟩) (Nat.lt_of_lt_of_le lt_aB hba.size)).trans (by assumption), (hbb.cell (p := ⟨W.heap.size + 1, 1, none⟩) (Nat.lt_of_lt_of_le lt_aB hba.size)).trans (by assumption), (hbb.cell (p := ⟨w5.heap.size, 0, none⟩) (Nat.lt_of_lt_of_le lt_x0 hba.size)).trans (by assumption), (hbb.cell (p := ⟨w5.heap.size, 1, none⟩) (Nat.lt_of_lt_of_le lt_x0 hba.size)).trans (by assumption), (hbb.cell (p := ⟨w7.heap.size, 0, none⟩) (Nat.lt_of_lt_of_le lt_x1 hba.size)).trans (by assumption), (hbb.cell (p := ⟨w7.heap.size, 1, none⟩) (Nat.lt_of_lt_of_le lt_x1 hba.size)).trans (by assumption)⟩))
    (first | (go_at_call 15; (with_reducible refine (toPassing_any _ _ A0 B0 _ hda).mono ?_); rintro e wa5 ⟨u5, u5b, rfl, hua, hba⟩; obtain ⟨s5, n5, c5, s5b, n5b, c5b, rfl, rfl⟩ := hua.rd.form'; have hxx := OwnP.below (w := w9.drew) h3 hba) | (go_at_call 17; (with_reducible refine (eqPassing_same _ _ _ _ A0 B0 _ hxx.rd hua.rd).mono ?_); rintro e w10 ⟨rfl, hbb⟩))
  have hb : Below w9.heap.size w9 w10 := below_step (below_step (Below.refl _ _).drew hba (Nat.le_refl _)) hbb hba.size
  clear hua hba hbb hda hBd hxx
  have hs_10 := hb.size
  replace h3 := h3.below hb
  replace h4 := h4.below hb
  replace cb_aA_0 := (hb.cell (p := ⟨W.heap.size, 0, none⟩) lt_aA).trans cb_aA_0
  replace cb_aA_1 := (hb.cell (p := ⟨W.heap.size, 1, none⟩) lt_aA).trans cb_aA_1
  replace lt_aA := Nat.lt_of_lt_of_le lt_aA hb.size
  replace cb_aB_0 := (hb.cell (p := ⟨W.heap.size + 1, 0, none⟩) lt_aB).trans cb_aB_0
  replace cb_aB_1 := (hb.cell (p := ⟨W.heap.size + 1, 1, none⟩) lt_aB).trans cb_aB_1
  replace lt_aB := Nat.lt_of_lt_of_le lt_aB hb.size
  replace cb_x0_0 := (hb.cell (p := ⟨w5.heap.size, 0, none⟩) lt_x0).trans cb_x0_0
  replace cb_x0_1 := (hb.cell (p := ⟨w5.heap.size, 1, none⟩) lt_x0).trans cb_x0_1
  replace lt_x0 := Nat.lt_of_lt_of_le lt_x0 hb.size
  replace cb_x1_0 := (hb.cell (p := ⟨w7.heap.size, 0, none⟩) lt_x1).trans cb_x1_0
  replace cb_x1_1 := (hb.cell (p := ⟨w7.heap.size, 1, none⟩) lt_x1).trans cb_x1_1
  replace lt_x1 := Nat.lt_of_lt_of_le lt_x1 hb.size
  replace hB := below_step hB hb hB.size
  clear hb
  go_wp2
  have hBd := hB.drew
  have hda := hA1.below hBd
  go_region_held3 (fun w' => w'.cell? ⟨W.heap.size, 0, none⟩ = some (.slice sa0 na0 ca0) ∧ w'.cell? ⟨W.heap.size, 1, none⟩ = some (.slice sb0 nb0 cb0) ∧ w'.cell? ⟨W.heap.size + 1, 0, none⟩ = some (.slice sa1 na1 ca1) ∧ w'.cell? ⟨W.heap.size + 1, 1, none⟩ = some (.slice sb1 nb1 cb1) ∧ w'.cell? ⟨w5.heap.size, 0, none⟩ = some (.slice s3 n3 c3) ∧ w'.cell? ⟨w5.heap.size, 1, none⟩ = some (.slice s3b n3b c3b) ∧ w'.cell? ⟨w7.heap.size, 0, none⟩ = some (.slice s4 n4 c4) ∧ w'.cell? ⟨w7.heap.size, 1, none⟩ = some (.slice s4b n4b c4b))
    (first | go_keep | (go_split_ands; exact ⟨(hba.cell (p := ⟨W.heap.size, 0, none⟩) lt_aA).trans (by assumption), (hba.cell (p := ⟨W.heap.size, 1, none⟩) lt_aA).trans (by assumption), (hba.cell (p := ⟨W.heap.size + 1, 0, none⟩) lt_aB).trans (by assumption), (hba.cell (p := ⟨W.heap.size + 1, 1, none⟩) lt_aB).trans (by assumption), (hba.cell (p := ⟨w5.heap.size, 0, none⟩) lt_x0).trans (by assumption), (hba.cell (p := ⟨w5.heap.size, 1, none⟩) lt_x0).trans (by assumption), (hba.cell (p := ⟨w7.heap.size, 0, none⟩) lt_x1).trans (by assumption), (hba.cell (p := ⟨w7.heap.size, 1, none⟩) lt_x1).trans (by assumption)⟩) | (go_split_ands; exact ⟨(hbb.cell (p := ⟨W.heap.size, 0, none⟩) (Nat.lt_of_lt_of_le lt_aA hba.size)).trans (by assumption), (hbb.cell (p := ⟨W.heap.size, 1, none⟩) (Nat.lt_of_lt_of_le lt_aA hba.size)).trans (by assumption), (hbb.cell (p := ⟨W.heap.size + 1, 0, none⟩) (Nat.lt_of_lt_of_le lt_aB hba.size)).trans (by assumption), (hbb.cell (p := ⟨W.heap.size + 1, 1, none⟩) (Nat.lt_of_lt_of_le lt_aB hba.size)).trans (by assumption), (hbb.cell (p := ⟨w5.heap.size, 0, none⟩) (Nat.lt_of_lt_of_le lt_x0 hba.size)).trans (by assumption), (hbb.cell (p := ⟨w5.heap.size, 1, none⟩) (Nat.lt_of_lt_of_le lt_x0 hba.size)).trans (by assumption), (hbb.cell (p := ⟨w7.heap.size, 0, none⟩) (Nat.lt_of_lt_of_le lt_x1 hba.size)).trans (by assumption), (hbb.cell (p := ⟨w7.heap.size, 1, none⟩) (Nat.lt_of_lt_of_le lt_x1 hba.size)).trans (by assumption)⟩))
    (first | (go_at_call 15; (with_reducible refine (toPassing_any _ _ A1 B1 _ hda).mono ?_); rintro e wa6 ⟨u6, u6b, rfl, hua, hba⟩; obtain ⟨s6, n6, c6, s6b, n6b, c6b, rfl, rfl⟩ := hua.rd.form'; have hxx := OwnP.below (w := w10.drew) h4 hba) | (go_at_call 17; (with_reducible refine (eqPassing_same _ _ _ _ A1 B1 _ hxx.rd hua.rd).mono ?_); rintro e w11 ⟨rfl, hbb⟩))
  have hb : Below w10.heap.size w10 w11 := below_step (below_step (Below.refl _ _).drew hba (Nat.le_refl _)) hbb hba.size
  clear hua hba hbb hda hBd hxx
  have hs_11 := hb.size
  replace h3 := h3.below hb
  replace h4 := h4.below hb
  replace cb_aA_0 := (hb.cell (p := ⟨W.heap.size, 0, none⟩) lt_aA).trans cb_aA_0
  replace cb_aA_1 := (hb.cell (p := ⟨W.heap.size, 1, none⟩) lt_aA).trans cb_aA_1
  replace lt_aA := Nat.lt_of_lt_of_le lt_aA hb.size
  replace cb_aB_0 := (hb.cell (p := ⟨W.heap.size + 1, 0, none⟩) lt_aB).trans cb_aB_0
  replace cb_aB_1 := (hb.cell (p := ⟨W.heap.size + 1, 1, none⟩) lt_aB).trans cb_aB_1
  replace lt_aB := Nat.lt_of_lt_of_le lt_aB hb.size
  replace cb_x0_0 := (hb.cell (p := ⟨w5.heap.size, 0, none⟩) lt_x0).trans cb_x0_0
  replace cb_x0_1 := (hb.cell (p := ⟨w5.heap.size, 1, none⟩) lt_x0).trans cb_x0_1
  replace lt_x0 := Nat.lt_of_lt_of_le lt_x0 hb.size
  replace cb_x1_0 := (hb.cell (p := ⟨w7.heap.size, 0, none⟩) lt_x1).trans cb_x1_0
  replace cb_x1_1 := (hb.cell (p := ⟨w7.heap.size, 1, none⟩) lt_x1).trans cb_x1_1
  replace lt_x1 := Nat.lt_of_lt_of_le lt_x1 hb.size
  replace hB := below_step hB hb hB.size
  clear hb
  go_wp2
  go_ret
  exact ⟨rfl, hB⟩

set_option maxRecDepth 100000 in
theorem fnExactSamePassing_lifted (os : Os) (started : os.Started) (H : Type) (enc : TypeId × Value → H) :
    ReturnsInHanded {} Try.checked os 3 .any (Rows.fnExactSamePassingSpec.pre6 enc Try.prog Try.f3 Rows.fnExactSamePassingRow.domain false) (Rows.fnExactSamePassingSpec.post enc Try.prog Try.f3 false true false false) := by
  refine returnsInHanded_of_change_sized (C := Try.checked) Try.own started (by kernel_rfl) Try.func3
    (ChangeSpec.witness6 (enc := enc) (C := Try.checked) false ⟨#[], #[.agg #[.slice none 0 0, .slice none 0 0], .agg #[.slice none 0 0, .slice none 0 0]], []⟩ 8 (by kernel_rfl) (by kernel_rfl) (by kernel_rfl) (by kernel_rfl)) ?_
  intro W base args ds gs before hval0 hW _ hsz0 _
  have hsz : (DataW.weightsEach Try.prog (Try.f3.params.toList ++ Rows.fnExactSamePassingSpec.plain.varTypes Try.prog) (ds ++ gs)).all (· ≤ reachBytes) = true := hsz0
  clear hsz0
  have hval : ∀ (j : Nat) t v, Try.f3.params[j]? = some t → args[j]? = some v → Value.okWide Try.prog W .any base t v := hval0
  have hW' := hW
  obtain ⟨p, q, hA0, hV, rfl, _, _⟩ := hW
  have hA : DataW.TrodAll enc Try.prog W 0 (fun _ => true) true Try.f3.params.toList args.toList ds p := hA0
  rw [Try.params3] at hA hval hsz
  obtain ⟨v0, v1, d0, d1, p0, p1, rfl, rfl, rfl, h0, h1⟩ := trodAll_two hA
  obtain ⟨rfl, rfl⟩ := trodVars_none hV
  clear hA0 hval0
  simp only [List.append_nil] at hW'
  have hlt : ∀ x ∈ p0 ++ p1, x.block < W.heap.size := fun x hx => by simpa using hW'.lt x (by simpa using hx)
  have h0k := h0
  obtain ⟨va0, vb0, A0, B0, rfl, hA0, hwa0, hwb0⟩ := rdP_open (hval 0 24 v0 rfl rfl) h0 (fun x hx => by have := List.all_eq_true.1 hsz _ (DataW.weights_mem_each (j := 0) (t := 24) rfl rfl x hx); simpa using this)
  have h1k := h1
  obtain ⟨va1, vb1, A1, B1, rfl, hA1, hwa1, hwb1⟩ := rdP_open (hval 1 24 v1 rfl rfl) h1 (fun x hx => by have := List.all_eq_true.1 hsz _ (DataW.weights_mem_each (j := 1) (t := 24) rfl rfl x hx); simpa using this)
  refine (fnExactSamePassing_any0 W va0 vb0 A0 B0 hA0 hwa0 hwb0 va1 vb1 A1 B1 hA1 hwa1 hwb1).mono fun e W' ⟨he, hb⟩ => ?_
  subst he
  exact ⟨_, rfl, _, _, _, [], _, [], hW', trodAll_mk1 (shut_bool Try.underlying4 true), (trodAll_mk2 (Below.trod Try.laidOut (by kernel_rfl) (of_decide_eq_true (by kernel_rfl)) h0k hb (fun x hx => hlt x (by simp [hx]))) (Below.trod Try.laidOut (by kernel_rfl) (of_decide_eq_true (by kernel_rfl)) h1k hb (fun x hx => hlt x (by simp [hx])))), rfl, hb.frame _, fun h => by cases h⟩

theorem fnExactSamePassing_holds : Rows.FnExactSamePassingSaid :=
  OpenClaim.holds_of_wide 3 Try.f3 rfl rfl rfl rfl rfl rfl rfl ⟨rfl, rfl, rfl, rfl, rfl⟩ rfl rfl rfl rfl rfl (by kernel_rfl) Try.func3 (by kernel_rfl)
    (of_decide_eq_true (by kernel_rfl)) (by unfold Func.isWrapper; first | (rw [if_pos (by decide +kernel)]; kernel_rfl) | (rw [if_neg (by decide +kernel)]; exact ⟨rfl, rfl⟩))
    (fun os started H enc _ => fnExactSamePassing_lifted os started H enc)

#print axioms fnExactSamePassing_holds
end Go.Proofs.Ytfepgbpblbccbaa
