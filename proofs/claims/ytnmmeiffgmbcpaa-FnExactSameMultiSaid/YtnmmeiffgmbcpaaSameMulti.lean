/-
  Proved here: the law FnExactSameMulti returns true for all inputs. No condition.
-/
import Derived.Test.YtnmmeiffgmbcpaaM1
import Derived.Deep.RegionHeld3
namespace Go.Proofs.Ytnmmeiffgmbcpaa
open Go.ChangeShapes Go.WideShapes Go.ChangeAt Go.RowKit


set_option maxHeartbeats 4000000 in
theorem fnExactSameMulti_any0 (W : World) (va0 : Value) (R0 : List (List Int)) (hA0 : RdR W va0 R0) (va1 : Value) (R1 : List (List Int)) (hA1 : RdR W va1 R1) : Calls Try.prog 4 #[.agg #[va0], .agg #[va1]] W fun e w' => e = .returned (.bool true) ∧ Below W.heap.size W w' := by
  obtain ⟨sa0, na0, ca0, rfl⟩ := hA0.form'
  obtain ⟨sa1, na1, ca1, rfl⟩ := hA1.form'
  have hB : Below W.heap.size W W := Below.refl _ _
  go_enter Try.func4, Try.ntmps4
  go_wp2_with fail
  generalize hW : (World.alloc (World.alloc W _) _) = w1
  have hb : Below W.heap.size W w1 := by rw [← hW]; exact ((Below.refl _ _).alloc (Nat.le_refl _) _).alloc (by simp) _
  have hz_1 : W.heap.size + 2 ≤ w1.heap.size := by rw [← hW]; simp
  have cb_aA_0 : w1.cell? ⟨W.heap.size, 0, none⟩ = some (.slice sa0 na0 ca0) := by rw [← hW]; simp
  have lt_aA : W.heap.size < w1.heap.size := by omega
  have cb_aB_0 : w1.cell? ⟨W.heap.size + 1, 0, none⟩ = some (.slice sa1 na1 ca1) := by rw [← hW]; simp
  have lt_aB : W.heap.size + 1 < w1.heap.size := by omega
  clear hW
  have hs_1 := hb.size
  replace hB := below_step hB hb hB.size
  clear hb
  by_cases hgz : ((R0.length : Int) + (sumLen R0 R0.length : Int)) ≤ 1048576
  rotate_left
  · with_reducible refine (szMulti_no _ R0 (1048576) _ (hA0.below hB) (by omega) (by omega) (by omega)).mono ?_
    rintro e w' ⟨rfl, hb⟩
    go_wp2
    go_ret
    exact ⟨rfl, below_step hB hb hB.size⟩
  with_reducible refine (szMulti_yes _ R0 (1048576) _ (hA0.below hB) (by omega) (by omega) (by omega)).mono ?_
  rintro e w2 ⟨rfl, hb⟩
  have hs_2 := hb.size
  replace cb_aA_0 := (hb.cell (p := ⟨W.heap.size, 0, none⟩) lt_aA).trans cb_aA_0
  replace lt_aA := Nat.lt_of_lt_of_le lt_aA hb.size
  replace cb_aB_0 := (hb.cell (p := ⟨W.heap.size + 1, 0, none⟩) lt_aB).trans cb_aB_0
  replace lt_aB := Nat.lt_of_lt_of_le lt_aB hb.size
  replace hB := below_step hB hb hB.size
  clear hb
  have hgq_2 : ((R0.length : Int) + (sumLen R0 R0.length : Int)) ≤ 1048576 := by omega
  clear hgz
  go_wp2_with fail
  by_cases hgz : ((R1.length : Int) + (sumLen R1 R1.length : Int)) ≤ (1048576 - ((R0.length : Int) + (sumLen R0 R0.length : Int)))
  rotate_left
  · with_reducible refine (szMulti_no _ R1 ((1048576 - ((R0.length : Int) + (sumLen R0 R0.length : Int)))) _ (hA1.below hB) (by omega) (by omega) (by omega)).mono ?_
    rintro e w' ⟨rfl, hb⟩
    go_wp2
    go_ret
    exact ⟨rfl, below_step hB hb hB.size⟩
  with_reducible refine (szMulti_yes _ R1 ((1048576 - ((R0.length : Int) + (sumLen R0 R0.length : Int)))) _ (hA1.below hB) (by omega) (by omega) (by omega)).mono ?_
  rintro e w3 ⟨rfl, hb⟩
  have hs_3 := hb.size
  replace cb_aA_0 := (hb.cell (p := ⟨W.heap.size, 0, none⟩) lt_aA).trans cb_aA_0
  replace lt_aA := Nat.lt_of_lt_of_le lt_aA hb.size
  replace cb_aB_0 := (hb.cell (p := ⟨W.heap.size + 1, 0, none⟩) lt_aB).trans cb_aB_0
  replace lt_aB := Nat.lt_of_lt_of_le lt_aB hb.size
  replace hB := below_step hB hb hB.size
  clear hb
  have hgq_3 : ((R1.length : Int) + (sumLen R1 R1.length : Int)) ≤ (1048576 - ((R0.length : Int) + (sumLen R0 R0.length : Int))) := by omega
  clear hgz
  go_wp2_with fail
  have hBd := hB.drew
  have hda := hA0.below hBd
  go_region_held3 (fun w' => w'.cell? ⟨W.heap.size, 0, none⟩ = some (.slice sa0 na0 ca0) ∧ w'.cell? ⟨W.heap.size + 1, 0, none⟩ = some (.slice sa1 na1 ca1))
    (first | go_keep | (go_split_ands; exact ⟨(hba.cell (p := ⟨W.heap.size, 0, none⟩) lt_aA).trans (by assumption), (hba.cell (p := ⟨W.heap.size + 1, 0, none⟩) lt_aB).trans (by assumption)⟩) | (go_split_ands; exact ⟨(hbb.cell (p := ⟨W.heap.size, 0, none⟩) (Nat.lt_of_lt_of_le lt_aA hba.size)).trans (by assumption), (hbb.cell (p := ⟨W.heap.size + 1, 0, none⟩) (Nat.lt_of_lt_of_le lt_aB hba.size)).trans (by assumption)⟩) | (go_split_ands; exact ⟨(hbc.cell (p := ⟨W.heap.size, 0, none⟩) (Nat.lt_of_lt_of_le (Nat.lt_of_lt_of_le lt_aA hba.size) hbb.size)).trans (by assumption), (hbc.cell (p := ⟨W.heap.size + 1, 0, none⟩) (Nat.lt_of_lt_of_le (Nat.lt_of_lt_of_le lt_aB hba.size) hbb.size)).trans (by assumption)⟩))
    (first | (go_at_call 20; (with_reducible refine (toMulti_any _ R0 _ hda (by omega)).mono ?_); rintro e wa3 ⟨u1, rfl, hua, hba⟩; obtain ⟨s1, n1, c1, rfl⟩ := hua.rd.form'; have hdb := hA1.below (below_step hBd hba hBd.size)) | (go_at_call 20; (with_reducible refine (toMulti_any _ R1 _ hdb (by omega)).mono ?_); rintro e wb3 ⟨u2, rfl, hub, hbb⟩; obtain ⟨s2, n2, c2, rfl⟩ := hub.rd.form'; have hua2 := hua.below hbb) | (go_at_call 19; (with_reducible refine (specSameM_any _ R0 _ R1 _ hua2.rd hub.rd).mono ?_); rintro e w4 ⟨rfl, hbc⟩))
  have hb : Below w3.heap.size w3 w4 := below_step (below_step (below_step (Below.refl _ _).drew hba (Nat.le_refl _)) hbb hba.size) hbc (Nat.le_trans hba.size hbb.size)
  clear hua hba hbb hda hBd hdb hub hua2 hbc
  have hs_4 := hb.size
  replace cb_aA_0 := (hb.cell (p := ⟨W.heap.size, 0, none⟩) lt_aA).trans cb_aA_0
  replace lt_aA := Nat.lt_of_lt_of_le lt_aA hb.size
  replace cb_aB_0 := (hb.cell (p := ⟨W.heap.size + 1, 0, none⟩) lt_aB).trans cb_aB_0
  replace lt_aB := Nat.lt_of_lt_of_le lt_aB hb.size
  replace hB := below_step hB hb hB.size
  clear hb
  go_wp2_with fail
  with_reducible refine (toMulti_any _ R0 _ (hA0.below hB) (by omega)).mono ?_
  rintro e w5 ⟨u3, rfl, h3, hb⟩
  have hs_5 := hb.size
  replace cb_aA_0 := (hb.cell (p := ⟨W.heap.size, 0, none⟩) lt_aA).trans cb_aA_0
  replace lt_aA := Nat.lt_of_lt_of_le lt_aA hb.size
  replace cb_aB_0 := (hb.cell (p := ⟨W.heap.size + 1, 0, none⟩) lt_aB).trans cb_aB_0
  replace lt_aB := Nat.lt_of_lt_of_le lt_aB hb.size
  replace hB := below_step hB hb hB.size
  clear hb
  obtain ⟨s3, n3, c3, rfl⟩ := h3.rd.form'
  go_wp2_with fail
  generalize hW : (World.alloc w5 _) = w6
  have hb : Below w5.heap.size w5 w6 := by rw [← hW]; exact (Below.refl _ _).alloc (Nat.le_refl _) _
  have hz_6 : w5.heap.size + 1 ≤ w6.heap.size := by rw [← hW]; simp
  have cb_x0_0 : w6.cell? ⟨w5.heap.size, 0, none⟩ = some (.slice s3 n3 c3) := by rw [← hW]; simp
  have lt_x0 : w5.heap.size < w6.heap.size := by omega
  clear hW
  have hs_6 := hb.size
  replace h3 := h3.below hb
  replace cb_aA_0 := (hb.cell (p := ⟨W.heap.size, 0, none⟩) lt_aA).trans cb_aA_0
  replace lt_aA := Nat.lt_of_lt_of_le lt_aA hb.size
  replace cb_aB_0 := (hb.cell (p := ⟨W.heap.size + 1, 0, none⟩) lt_aB).trans cb_aB_0
  replace lt_aB := Nat.lt_of_lt_of_le lt_aB hb.size
  replace hB := below_step hB hb hB.size
  clear hb
  with_reducible refine (toMulti_any _ R1 _ (hA1.below hB) (by omega)).mono ?_
  rintro e w7 ⟨u4, rfl, h4, hb⟩
  have hs_7 := hb.size
  replace h3 := h3.below hb
  replace cb_aA_0 := (hb.cell (p := ⟨W.heap.size, 0, none⟩) lt_aA).trans cb_aA_0
  replace lt_aA := Nat.lt_of_lt_of_le lt_aA hb.size
  replace cb_aB_0 := (hb.cell (p := ⟨W.heap.size + 1, 0, none⟩) lt_aB).trans cb_aB_0
  replace lt_aB := Nat.lt_of_lt_of_le lt_aB hb.size
  replace cb_x0_0 := (hb.cell (p := ⟨w5.heap.size, 0, none⟩) lt_x0).trans cb_x0_0
  replace lt_x0 := Nat.lt_of_lt_of_le lt_x0 hb.size
  replace hB := below_step hB hb hB.size
  clear hb
  obtain ⟨s4, n4, c4, rfl⟩ := h4.rd.form'
  go_wp2_with fail
  generalize hW : (World.alloc w7 _) = w8
  have hb : Below w7.heap.size w7 w8 := by rw [← hW]; exact (Below.refl _ _).alloc (Nat.le_refl _) _
  have hz_8 : w7.heap.size + 1 ≤ w8.heap.size := by rw [← hW]; simp
  have cb_x1_0 : w8.cell? ⟨w7.heap.size, 0, none⟩ = some (.slice s4 n4 c4) := by rw [← hW]; simp
  have lt_x1 : w7.heap.size < w8.heap.size := by omega
  clear hW
  have hs_8 := hb.size
  replace h3 := h3.below hb
  replace h4 := h4.below hb
  replace cb_aA_0 := (hb.cell (p := ⟨W.heap.size, 0, none⟩) lt_aA).trans cb_aA_0
  replace lt_aA := Nat.lt_of_lt_of_le lt_aA hb.size
  replace cb_aB_0 := (hb.cell (p := ⟨W.heap.size + 1, 0, none⟩) lt_aB).trans cb_aB_0
  replace lt_aB := Nat.lt_of_lt_of_le lt_aB hb.size
  replace cb_x0_0 := (hb.cell (p := ⟨w5.heap.size, 0, none⟩) lt_x0).trans cb_x0_0
  replace lt_x0 := Nat.lt_of_lt_of_le lt_x0 hb.size
  replace hB := below_step hB hb hB.size
  clear hb
  with_reducible refine (implSameM_any _ R0 _ R1 _ h3.rd h4.rd ).mono ?_
  rintro e w9 ⟨rfl, hb⟩
  have hs_9 := hb.size
  replace h3 := h3.below hb
  replace h4 := h4.below hb
  replace cb_aA_0 := (hb.cell (p := ⟨W.heap.size, 0, none⟩) lt_aA).trans cb_aA_0
  replace lt_aA := Nat.lt_of_lt_of_le lt_aA hb.size
  replace cb_aB_0 := (hb.cell (p := ⟨W.heap.size + 1, 0, none⟩) lt_aB).trans cb_aB_0
  replace lt_aB := Nat.lt_of_lt_of_le lt_aB hb.size
  replace cb_x0_0 := (hb.cell (p := ⟨w5.heap.size, 0, none⟩) lt_x0).trans cb_x0_0
  replace lt_x0 := Nat.lt_of_lt_of_le lt_x0 hb.size
  replace cb_x1_0 := (hb.cell (p := ⟨w7.heap.size, 0, none⟩) lt_x1).trans cb_x1_0
  replace lt_x1 := Nat.lt_of_lt_of_le lt_x1 hb.size
  replace hB := below_step hB hb hB.size
  clear hb
  go_wp2
  have hBd := hB.drew
  have hda := hA0.below hBd
  go_region_held3 (fun w' => w'.cell? ⟨W.heap.size, 0, none⟩ = some (.slice sa0 na0 ca0) ∧ w'.cell? ⟨W.heap.size + 1, 0, none⟩ = some (.slice sa1 na1 ca1) ∧ w'.cell? ⟨w5.heap.size, 0, none⟩ = some (.slice s3 n3 c3) ∧ w'.cell? ⟨w7.heap.size, 0, none⟩ = some (.slice s4 n4 c4))
    (first | go_keep | (go_split_ands; exact ⟨(hba.cell (p := ⟨W.heap.size, 0, none⟩) lt_aA).trans (by assumption), (hba.cell (p := ⟨W.heap.size + 1, 0, none⟩) lt_aB).trans (by assumption), (hba.cell (p := ⟨w5.heap.size, 0, none⟩) lt_x0).trans (by assumption), (hba.cell (p := ⟨w7.heap.size, 0, none⟩) lt_x1).trans (by assumption)⟩) | (go_split_ands; exact ⟨(hbb.cell (p := ⟨W.heap.size, 0, none⟩) (Nat.lt_of_lt_of_le lt_aA hba.size)).trans (by assumption), (hbb.cell (p := ⟨W.heap.size + 1, 0, none⟩) (Nat.lt_of_lt_of_le lt_aB hba.size)).trans (by assumption), (hbb.cell (p := ⟨w5.heap.size, 0, none⟩) (Nat.lt_of_lt_of_le lt_x0 hba.size)).trans (by assumption), (hbb.cell (p := ⟨w7.heap.size, 0, none⟩) (Nat.lt_of_lt_of_le lt_x1 hba.size)).trans (by assumption)⟩))
    (first | (go_at_call 20; (with_reducible refine (toMulti_any _ R0 _ hda (by omega)).mono ?_); rintro e wa5 ⟨u5, rfl, hua, hba⟩; obtain ⟨s5, n5, c5, rfl⟩ := hua.rd.form'; have hxx := OwnR.below (w := w9.drew) h3 hba) | (go_at_call 22; (with_reducible refine (eqMulti_same _ _ R0 _ hxx.rd hua.rd).mono ?_); rintro e w10 ⟨rfl, hbb⟩))
  have hb : Below w9.heap.size w9 w10 := below_step (below_step (Below.refl _ _).drew hba (Nat.le_refl _)) hbb hba.size
  clear hua hba hbb hda hBd hxx
  have hs_10 := hb.size
  replace h3 := h3.below hb
  replace h4 := h4.below hb
  replace cb_aA_0 := (hb.cell (p := ⟨W.heap.size, 0, none⟩) lt_aA).trans cb_aA_0
  replace lt_aA := Nat.lt_of_lt_of_le lt_aA hb.size
  replace cb_aB_0 := (hb.cell (p := ⟨W.heap.size + 1, 0, none⟩) lt_aB).trans cb_aB_0
  replace lt_aB := Nat.lt_of_lt_of_le lt_aB hb.size
  replace cb_x0_0 := (hb.cell (p := ⟨w5.heap.size, 0, none⟩) lt_x0).trans cb_x0_0
  replace lt_x0 := Nat.lt_of_lt_of_le lt_x0 hb.size
  replace cb_x1_0 := (hb.cell (p := ⟨w7.heap.size, 0, none⟩) lt_x1).trans cb_x1_0
  replace lt_x1 := Nat.lt_of_lt_of_le lt_x1 hb.size
  replace hB := below_step hB hb hB.size
  clear hb
  go_wp2
  have hBd := hB.drew
  have hda := hA1.below hBd
  go_region_held3 (fun w' => w'.cell? ⟨W.heap.size, 0, none⟩ = some (.slice sa0 na0 ca0) ∧ w'.cell? ⟨W.heap.size + 1, 0, none⟩ = some (.slice sa1 na1 ca1) ∧ w'.cell? ⟨w5.heap.size, 0, none⟩ = some (.slice s3 n3 c3) ∧ w'.cell? ⟨w7.heap.size, 0, none⟩ = some (.slice s4 n4 c4))
    (first | go_keep | (go_split_ands; exact ⟨(hba.cell (p := ⟨W.heap.size, 0, none⟩) lt_aA).trans (by assumption), (hba.cell (p := ⟨W.heap.size + 1, 0, none⟩) lt_aB).trans (by assumption), (hba.cell (p := ⟨w5.heap.size, 0, none⟩) lt_x0).trans (by assumption), (hba.cell (p := ⟨w7.heap.size, 0, none⟩) lt_x1).trans (by assumption)⟩) | (go_split_ands; exact ⟨(hbb.cell (p := ⟨W.heap.size, 0, none⟩) (Nat.lt_of_lt_of_le lt_aA hba.size)).trans (by assumption), (hbb.cell (p := ⟨W.heap.size + 1, 0, none⟩) (Nat.lt_of_lt_of_le lt_aB hba.size)).trans (by assumption), (hbb.cell (p := ⟨w5.heap.size, 0, none⟩) (Nat.lt_of_lt_of_le lt_x0 hba.size)).trans (by assumption), (hbb.cell (p := ⟨w7.heap.size, 0, none⟩) (Nat.lt_of_lt_of_le lt_x1 hba.size)).trans (by assumption)⟩))
    (first | (go_at_call 20; (with_reducible refine (toMulti_any _ R1 _ hda (by omega)).mono ?_); rintro e wa6 ⟨u6, rfl, hua, hba⟩; obtain ⟨s6, n6, c6, rfl⟩ := hua.rd.form'; have hxx := OwnR.below (w := w10.drew) h4 hba) | (go_at_call 22; (with_reducible refine (eqMulti_same _ _ R1 _ hxx.rd hua.rd).mono ?_); rintro e w11 ⟨rfl, hbb⟩))
  have hb : Below w10.heap.size w10 w11 := below_step (below_step (Below.refl _ _).drew hba (Nat.le_refl _)) hbb hba.size
  clear hua hba hbb hda hBd hxx
  have hs_11 := hb.size
  replace h3 := h3.below hb
  replace h4 := h4.below hb
  replace cb_aA_0 := (hb.cell (p := ⟨W.heap.size, 0, none⟩) lt_aA).trans cb_aA_0
  replace lt_aA := Nat.lt_of_lt_of_le lt_aA hb.size
  replace cb_aB_0 := (hb.cell (p := ⟨W.heap.size + 1, 0, none⟩) lt_aB).trans cb_aB_0
  replace lt_aB := Nat.lt_of_lt_of_le lt_aB hb.size
  replace cb_x0_0 := (hb.cell (p := ⟨w5.heap.size, 0, none⟩) lt_x0).trans cb_x0_0
  replace lt_x0 := Nat.lt_of_lt_of_le lt_x0 hb.size
  replace cb_x1_0 := (hb.cell (p := ⟨w7.heap.size, 0, none⟩) lt_x1).trans cb_x1_0
  replace lt_x1 := Nat.lt_of_lt_of_le lt_x1 hb.size
  replace hB := below_step hB hb hB.size
  clear hb
  go_wp2
  go_ret
  exact ⟨rfl, hB⟩

set_option maxRecDepth 100000 in
theorem fnExactSameMulti_lifted (os : Os) (started : os.Started) (H : Type) (enc : TypeId × Value → H) :
    ReturnsInHanded {} Try.checked os 4 .any (Rows.fnExactSameMultiSpec.pre6 enc Try.prog Try.f4 Rows.fnExactSameMultiRow.domain false) (Rows.fnExactSameMultiSpec.post enc Try.prog Try.f4 false true false false) := by
  refine returnsInHanded_of_change_sized (C := Try.checked) Try.own started (by kernel_rfl) Try.func4
    (ChangeSpec.witness6 (enc := enc) (C := Try.checked) false ⟨#[], #[.agg #[.slice none 0 0], .agg #[.slice none 0 0]], []⟩ 8 (by kernel_rfl) (by kernel_rfl) (by kernel_rfl) (by kernel_rfl)) ?_
  intro W base args ds gs before hval0 hW _ hsz0 _
  have hsz : (DataW.weightsEach Try.prog (Try.f4.params.toList ++ Rows.fnExactSameMultiSpec.plain.varTypes Try.prog) (ds ++ gs)).all (· ≤ reachBytes) = true := hsz0
  clear hsz0
  have hval : ∀ (j : Nat) t v, Try.f4.params[j]? = some t → args[j]? = some v → Value.okWide Try.prog W .any base t v := hval0
  have hW' := hW
  obtain ⟨p, q, hA0, hV, rfl, _, _⟩ := hW
  have hA : DataW.TrodAll enc Try.prog W 0 (fun _ => true) true Try.f4.params.toList args.toList ds p := hA0
  rw [Try.params4] at hA hval hsz
  obtain ⟨v0, v1, d0, d1, p0, p1, rfl, rfl, rfl, h0, h1⟩ := trodAll_two hA
  obtain ⟨rfl, rfl⟩ := trodVars_none hV
  clear hA0 hval0
  simp only [List.append_nil] at hW'
  have hlt : ∀ x ∈ p0 ++ p1, x.block < W.heap.size := fun x hx => by simpa using hW'.lt x (by simpa using hx)
  have h0k := h0
  obtain ⟨va0, R0, rfl, hA0⟩ := rdM_open (hval 0 31 v0 rfl rfl) h0 (fun x hx => by have := List.all_eq_true.1 hsz _ (DataW.weights_mem_each (j := 0) (t := 31) rfl rfl x hx); simpa using this)
  have h1k := h1
  obtain ⟨va1, R1, rfl, hA1⟩ := rdM_open (hval 1 31 v1 rfl rfl) h1 (fun x hx => by have := List.all_eq_true.1 hsz _ (DataW.weights_mem_each (j := 1) (t := 31) rfl rfl x hx); simpa using this)
  refine (fnExactSameMulti_any0 W va0 R0 hA0 va1 R1 hA1).mono fun e W' ⟨he, hb⟩ => ?_
  subst he
  exact ⟨_, rfl, _, _, _, [], _, [], hW', trodAll_mk1 (shut_bool Try.underlying4 true), (trodAll_mk2 (Below.trod Try.laidOut (by kernel_rfl) (of_decide_eq_true (by kernel_rfl)) h0k hb (fun x hx => hlt x (by simp [hx]))) (Below.trod Try.laidOut (by kernel_rfl) (of_decide_eq_true (by kernel_rfl)) h1k hb (fun x hx => hlt x (by simp [hx])))), rfl, hb.frame _, fun h => by cases h⟩

theorem fnExactSameMulti_holds : Rows.FnExactSameMultiSaid :=
  OpenClaim.holds_of_wide 4 Try.f4 rfl rfl rfl rfl rfl rfl rfl ⟨rfl, rfl, rfl, rfl, rfl⟩ rfl rfl rfl rfl rfl (by kernel_rfl) Try.func4 (by kernel_rfl)
    (of_decide_eq_true (by kernel_rfl)) (by unfold Func.isWrapper; first | (rw [if_pos (by decide +kernel)]; kernel_rfl) | (rw [if_neg (by decide +kernel)]; exact ⟨rfl, rfl⟩))
    (fun os started H enc _ => fnExactSameMulti_lifted os started H enc)

#print axioms fnExactSameMulti_holds
end Go.Proofs.Ytnmmeiffgmbcpaa
