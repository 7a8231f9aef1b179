/-
  Proved here: the law FnExactSingleOf returns true for all inputs. No condition.
-/
import Derived.Test.YtbeaknnehpdepaaM7
import Derived.Deep.RegionHeld3
namespace Go.Proofs.Ytbeaknnehpdepaa
open Go.ChangeShapes Go.WideShapes Go.ChangeAt Go.RowKit


set_option maxHeartbeats 4000000 in
theorem fnExactSingleOf_any0 (W : World) (va0 : Value) (R0 : List (List Int)) (hA0 : RdR W va0 R0) : Calls Try.prog 11 #[.agg #[va0]] W fun e w' => e = .returned (.bool true) ∧ Below W.heap.size W w' := by
  obtain ⟨sa0, na0, ca0, rfl⟩ := hA0.form'
  have hB : Below W.heap.size W W := Below.refl _ _
  go_enter Try.func11, Try.ntmps11
  go_wp2_with fail
  generalize hW : (World.alloc W _) = w1
  have hb : Below W.heap.size W w1 := by rw [← hW]; exact (Below.refl _ _).alloc (Nat.le_refl _) _
  have hz_1 : W.heap.size + 1 ≤ w1.heap.size := by rw [← hW]; simp
  have cb_aM_0 : w1.cell? ⟨W.heap.size, 0, none⟩ = some (.slice sa0 na0 ca0) := by rw [← hW]; simp
  have lt_aM : W.heap.size < w1.heap.size := by omega
  clear hW
  have hs_1 := hb.size
  replace hB := below_step hB hb hB.size
  clear hb
  by_cases hgz : ((R0.length : Int) + (sumLen R0 R0.length : Int)) ≤ 1048576
  rotate_left
  · with_reducible refine (szMulti_no _ R0 (1048576) _ (hA0.below hB) (by omega) (by omega) (by omega)).mono ?_
    rintro e w' ⟨rfl, hb⟩
    go_wp2
    go_ret
    exact ⟨rfl, below_step hB hb hB.size⟩
  with_reducible refine (szMulti_yes _ R0 (1048576) _ (hA0.below hB) (by omega) (by omega) (by omega)).mono ?_
  rintro e w2 ⟨rfl, hb⟩
  have hs_2 := hb.size
  replace cb_aM_0 := (hb.cell (p := ⟨W.heap.size, 0, none⟩) lt_aM).trans cb_aM_0
  replace lt_aM := Nat.lt_of_lt_of_le lt_aM hb.size
  replace hB := below_step hB hb hB.size
  clear hb
  have hgq_2 : ((R0.length : Int) + (sumLen R0 R0.length : Int)) ≤ 1048576 := by omega
  clear hgz
  go_wp2_with fail
  with_reducible refine (toMulti_any _ R0 _ (hA0.below hB) (by omega)).mono ?_
  rintro e w3 ⟨u1, rfl, h1, hb⟩
  have hs_3 := hb.size
  replace cb_aM_0 := (hb.cell (p := ⟨W.heap.size, 0, none⟩) lt_aM).trans cb_aM_0
  replace lt_aM := Nat.lt_of_lt_of_le lt_aM hb.size
  replace hB := below_step hB hb hB.size
  clear hb
  obtain ⟨s1, n1, c1, rfl⟩ := h1.rd.form'
  go_wp2_with fail
  with_reducible refine (specSingle_any _ R0 _ h1.rd ).mono ?_
  rintro e w4 ⟨u2, rfl, h2, hb⟩
  have hs_4 := hb.size
  replace h1 := h1.below hb
  replace cb_aM_0 := (hb.cell (p := ⟨W.heap.size, 0, none⟩) lt_aM).trans cb_aM_0
  replace lt_aM := Nat.lt_of_lt_of_le lt_aM hb.size
  replace hB := below_step hB hb hB.size
  clear hb
  clear h1
  go_wp2_with fail
  with_reducible refine (toMulti_any _ R0 _ (hA0.below hB) (by omega)).mono ?_
  rintro e w5 ⟨u4, rfl, h4, hb⟩
  have hs_5 := hb.size
  replace h2 := h2.below hb
  replace cb_aM_0 := (hb.cell (p := ⟨W.heap.size, 0, none⟩) lt_aM).trans cb_aM_0
  replace lt_aM := Nat.lt_of_lt_of_le lt_aM hb.size
  replace hB := below_step hB hb hB.size
  clear hb
  obtain ⟨s4, n4, c4, rfl⟩ := h4.rd.form'
  go_wp2_with fail
  generalize hW : (World.alloc w5 _) = w6
  have hb : Below w5.heap.size w5 w6 := by rw [← hW]; exact (Below.refl _ _).alloc (Nat.le_refl _) _
  have hz_6 : w5.heap.size + 1 ≤ w6.heap.size := by rw [← hW]; simp
  have cb_x0_0 : w6.cell? ⟨w5.heap.size, 0, none⟩ = some (.slice s4 n4 c4) := by rw [← hW]; simp
  have lt_x0 : w5.heap.size < w6.heap.size := by omega
  clear hW
  have hs_6 := hb.size
  replace h2 := h2.below hb
  replace h4 := h4.below hb
  replace cb_aM_0 := (hb.cell (p := ⟨W.heap.size, 0, none⟩) lt_aM).trans cb_aM_0
  replace lt_aM := Nat.lt_of_lt_of_le lt_aM hb.size
  replace hB := below_step hB hb hB.size
  clear hb
  with_reducible refine (implSingle_any _ R0 _ h4.rd ).mono ?_
  rintro e w7 ⟨u5, rfl, h5, hb⟩
  have hs_7 := hb.size
  replace h2 := h2.below hb
  replace h4 := h4.below hb
  replace cb_aM_0 := (hb.cell (p := ⟨W.heap.size, 0, none⟩) lt_aM).trans cb_aM_0
  replace lt_aM := Nat.lt_of_lt_of_le lt_aM hb.size
  replace cb_x0_0 := (hb.cell (p := ⟨w5.heap.size, 0, none⟩) lt_x0).trans cb_x0_0
  replace lt_x0 := Nat.lt_of_lt_of_le lt_x0 hb.size
  replace hB := below_step hB hb hB.size
  clear hb
  go_wp2_with fail
  with_reducible refine (eqInt64S_same _ _ _ _ h5.rd h2.rd).mono ?_
  rintro e w8 ⟨rfl, hb⟩
  have hs_8 := hb.size
  replace h2 := h2.below hb
  replace h4 := h4.below hb
  replace h5 := h5.below hb
  replace cb_aM_0 := (hb.cell (p := ⟨W.heap.size, 0, none⟩) lt_aM).trans cb_aM_0
  replace lt_aM := Nat.lt_of_lt_of_le lt_aM hb.size
  replace cb_x0_0 := (hb.cell (p := ⟨w5.heap.size, 0, none⟩) lt_x0).trans cb_x0_0
  replace lt_x0 := Nat.lt_of_lt_of_le lt_x0 hb.size
  replace hB := below_step hB hb hB.size
  clear hb
  go_wp2
  have hBd := hB.drew
  have hda := hA0.below hBd
  go_region_held3 (fun w' => w'.cell? ⟨W.heap.size, 0, none⟩ = some (.slice sa0 na0 ca0) ∧ w'.cell? ⟨w5.heap.size, 0, none⟩ = some (.slice s4 n4 c4))
    (first | go_keep | (go_split_ands; exact ⟨(hba.cell (p := ⟨W.heap.size, 0, none⟩) lt_aM).trans (by assumption), (hba.cell (p := ⟨w5.heap.size, 0, none⟩) lt_x0).trans (by assumption)⟩) | (go_split_ands; exact ⟨(hbb.cell (p := ⟨W.heap.size, 0, none⟩) (Nat.lt_of_lt_of_le lt_aM hba.size)).trans (by assumption), (hbb.cell (p := ⟨w5.heap.size, 0, none⟩) (Nat.lt_of_lt_of_le lt_x0 hba.size)).trans (by assumption)⟩))
    (first | (go_at_call 38; (with_reducible refine (toMulti_any _ R0 _ hda (by omega)).mono ?_); rintro e wa7 ⟨u7, rfl, hua, hba⟩; obtain ⟨s7, n7, c7, rfl⟩ := hua.rd.form'; have hxx := OwnR.below (w := w8.drew) h4 hba) | (go_at_call 33; (with_reducible refine (eqMulti_same _ _ R0 _ hxx.rd hua.rd).mono ?_); rintro e w9 ⟨rfl, hbb⟩))
  have hb : Below w8.heap.size w8 w9 := below_step (below_step (Below.refl _ _).drew hba (Nat.le_refl _)) hbb hba.size
  clear hua hba hbb hda hBd hxx
  have hs_9 := hb.size
  replace h2 := h2.below hb
  replace h4 := h4.below hb
  replace h5 := h5.below hb
  replace cb_aM_0 := (hb.cell (p := ⟨W.heap.size, 0, none⟩) lt_aM).trans cb_aM_0
  replace lt_aM := Nat.lt_of_lt_of_le lt_aM hb.size
  replace cb_x0_0 := (hb.cell (p := ⟨w5.heap.size, 0, none⟩) lt_x0).trans cb_x0_0
  replace lt_x0 := Nat.lt_of_lt_of_le lt_x0 hb.size
  replace hB := below_step hB hb hB.size
  clear hb
  go_wp2_with fail
  with_reducible refine (markMulti_any _ R0 _ _ _ _ h4 (by omega) (by omega)).mono ?_
  rintro e w10 ⟨rfl, hm, hc⟩
  have hs_10 := hc.size
  replace h2 := h2.kept hc (by omega)
  replace h5 := h5.kept hc (by omega)
  replace cb_aM_0 := (chg_cell hc lt_aM (by omega) 0).trans cb_aM_0
  replace lt_aM := Nat.lt_of_lt_of_le lt_aM hc.size
  replace cb_x0_0 := (chg_cell hc lt_x0 (by omega) 0).trans cb_x0_0
  replace lt_x0 := Nat.lt_of_lt_of_le lt_x0 hc.size
  replace hB := below_chg_step hB hc hB.size (by omega)
  clear hc
  clear h4
  have h4 := hm
  clear hm
  have hk_10 : decide ((1 + ((sumLen R0 R0.length : Int))) < 0) = false := by simp; omega
  go_wp2_with fail
  with_reducible refine (eqInt64S_same _ _ _ _ h5.rd h2.rd).mono ?_
  rintro e w11 ⟨rfl, hb⟩
  have hs_11 := hb.size
  replace h2 := h2.below hb
  replace h4 := h4.below hb
  replace h5 := h5.below hb
  replace cb_aM_0 := (hb.cell (p := ⟨W.heap.size, 0, none⟩) lt_aM).trans cb_aM_0
  replace lt_aM := Nat.lt_of_lt_of_le lt_aM hb.size
  replace cb_x0_0 := (hb.cell (p := ⟨w5.heap.size, 0, none⟩) lt_x0).trans cb_x0_0
  replace lt_x0 := Nat.lt_of_lt_of_le lt_x0 hb.size
  replace hB := below_step hB hb hB.size
  clear hb
  go_wp2_with fail
  with_reducible refine (markInt64S_any _ _ _ _ _ _ h5 (by omega) (by omega)).mono ?_
  rintro e w12 ⟨rfl, hm, hc⟩
  have hs_12 := hc.size
  replace h2 := h2.kept hc (by omega)
  replace h4 := h4.kept hc (by omega)
  replace cb_aM_0 := (chg_cell hc lt_aM (by omega) 0).trans cb_aM_0
  replace lt_aM := Nat.lt_of_lt_of_le lt_aM hc.size
  replace cb_x0_0 := (chg_cell hc lt_x0 (by omega) 0).trans cb_x0_0
  replace lt_x0 := Nat.lt_of_lt_of_le lt_x0 hc.size
  replace hB := below_chg_step hB hc hB.size (by omega)
  clear hc
  clear h5
  have h5 := hm
  clear hm
  go_wp2_with fail
  with_reducible refine (heldInt64S_same _ _ _ _ _ _ h5 (by omega) (by omega)).mono ?_
  rintro e w13 ⟨rfl, hb⟩
  have hs_13 := hb.size
  replace h2 := h2.below hb
  replace h4 := h4.below hb
  replace h5 := h5.below hb
  replace cb_aM_0 := (hb.cell (p := ⟨W.heap.size, 0, none⟩) lt_aM).trans cb_aM_0
  replace lt_aM := Nat.lt_of_lt_of_le lt_aM hb.size
  replace cb_x0_0 := (hb.cell (p := ⟨w5.heap.size, 0, none⟩) lt_x0).trans cb_x0_0
  replace lt_x0 := Nat.lt_of_lt_of_le lt_x0 hb.size
  replace hB := below_step hB hb hB.size
  clear hb
  go_wp2_with fail
  with_reducible refine (toMulti_any _ R0 _ (hA0.below hB) (by omega)).mono ?_
  rintro e w14 ⟨u8, rfl, h8, hb⟩
  have hs_14 := hb.size
  replace h2 := h2.below hb
  replace h4 := h4.below hb
  replace h5 := h5.below hb
  replace cb_aM_0 := (hb.cell (p := ⟨W.heap.size, 0, none⟩) lt_aM).trans cb_aM_0
  replace lt_aM := Nat.lt_of_lt_of_le lt_aM hb.size
  replace cb_x0_0 := (hb.cell (p := ⟨w5.heap.size, 0, none⟩) lt_x0).trans cb_x0_0
  replace lt_x0 := Nat.lt_of_lt_of_le lt_x0 hb.size
  replace hB := below_step hB hb hB.size
  clear hb
  obtain ⟨s8, n8, c8, rfl⟩ := h8.rd.form'
  go_wp2_with fail
  with_reducible refine (implSingle_any _ R0 _ h8.rd ).mono ?_
  rintro e w15 ⟨u9, rfl, h9, hb⟩
  have hs_15 := hb.size
  replace h2 := h2.below hb
  replace h4 := h4.below hb
  replace h5 := h5.below hb
  replace h8 := h8.below hb
  replace cb_aM_0 := (hb.cell (p := ⟨W.heap.size, 0, none⟩) lt_aM).trans cb_aM_0
  replace lt_aM := Nat.lt_of_lt_of_le lt_aM hb.size
  replace cb_x0_0 := (hb.cell (p := ⟨w5.heap.size, 0, none⟩) lt_x0).trans cb_x0_0
  replace lt_x0 := Nat.lt_of_lt_of_le lt_x0 hb.size
  replace hB := below_step hB hb hB.size
  clear hb
  clear h8
  go_wp2_with fail
  with_reducible refine (eqInt64S_same _ _ _ _ h9.rd h2.rd).mono ?_
  rintro e w16 ⟨rfl, hb⟩
  have hs_16 := hb.size
  replace h2 := h2.below hb
  replace h4 := h4.below hb
  replace h5 := h5.below hb
  replace h9 := h9.below hb
  replace cb_aM_0 := (hb.cell (p := ⟨W.heap.size, 0, none⟩) lt_aM).trans cb_aM_0
  replace lt_aM := Nat.lt_of_lt_of_le lt_aM hb.size
  replace cb_x0_0 := (hb.cell (p := ⟨w5.heap.size, 0, none⟩) lt_x0).trans cb_x0_0
  replace lt_x0 := Nat.lt_of_lt_of_le lt_x0 hb.size
  replace hB := below_step hB hb hB.size
  clear hb
  go_wp2_with fail
  with_reducible refine (heldInt64S_same _ _ _ _ _ _ h5 (by omega) (by omega)).mono ?_
  rintro e w17 ⟨rfl, hb⟩
  have hs_17 := hb.size
  replace h2 := h2.below hb
  replace h4 := h4.below hb
  replace h5 := h5.below hb
  replace h9 := h9.below hb
  replace cb_aM_0 := (hb.cell (p := ⟨W.heap.size, 0, none⟩) lt_aM).trans cb_aM_0
  replace lt_aM := Nat.lt_of_lt_of_le lt_aM hb.size
  replace cb_x0_0 := (hb.cell (p := ⟨w5.heap.size, 0, none⟩) lt_x0).trans cb_x0_0
  replace lt_x0 := Nat.lt_of_lt_of_le lt_x0 hb.size
  replace hB := below_step hB hb hB.size
  clear hb
  go_wp2
  go_ret
  exact ⟨rfl, hB⟩

set_option maxRecDepth 100000 in
theorem fnExactSingleOf_lifted (os : Os) (started : os.Started) (H : Type) (enc : TypeId × Value → H) :
    ReturnsInHanded {} Try.checked os 11 .any (Rows.fnExactSingleOfSpec.pre6 enc Try.prog Try.f11 Rows.fnExactSingleOfRow.domain false) (Rows.fnExactSingleOfSpec.post enc Try.prog Try.f11 false true false false) := by
  refine returnsInHanded_of_change_sized (C := Try.checked) Try.own started (by kernel_rfl) Try.func11
    (ChangeSpec.witness6 (enc := enc) (C := Try.checked) false ⟨#[], #[.agg #[.slice none 0 0]], []⟩ 8 (by kernel_rfl) (by kernel_rfl) (by kernel_rfl) (by kernel_rfl)) ?_
  intro W base args ds gs before hval0 hW _ hsz0 _
  have hsz : (DataW.weightsEach Try.prog (Try.f11.params.toList ++ Rows.fnExactSingleOfSpec.plain.varTypes Try.prog) (ds ++ gs)).all (· ≤ reachBytes) = true := hsz0
  clear hsz0
  have hval : ∀ (j : Nat) t v, Try.f11.params[j]? = some t → args[j]? = some v → Value.okWide Try.prog W .any base t v := hval0
  have hW' := hW
  obtain ⟨p, q, hA0, hV, rfl, _, _⟩ := hW
  have hA : DataW.TrodAll enc Try.prog W 0 (fun _ => true) true Try.f11.params.toList args.toList ds p := hA0
  rw [Try.params11] at hA hval hsz
  obtain ⟨v0, d0, rfl, rfl, h0⟩ := trodAll_one hA
  obtain ⟨rfl, rfl⟩ := trodVars_none hV
  clear hA0 hval0
  simp only [List.append_nil] at hW'
  have hlt : ∀ x ∈ p, x.block < W.heap.size := fun x hx => by simpa using hW'.lt x (by simpa using hx)
  have h0k := h0
  obtain ⟨va0, R0, rfl, hA0⟩ := rdM_open (hval 0 40 v0 rfl rfl) h0 (fun x hx => by have := List.all_eq_true.1 hsz _ (DataW.weights_mem_each (j := 0) (t := 40) rfl rfl x hx); simpa using this)
  refine (fnExactSingleOf_any0 W va0 R0 hA0).mono fun e W' ⟨he, hb⟩ => ?_
  subst he
  exact ⟨_, rfl, _, _, _, [], _, [], hW', trodAll_mk1 (shut_bool Try.underlying4 true), (trodAll_mk1 (Below.trod Try.laidOut (by kernel_rfl) (of_decide_eq_true (by kernel_rfl)) h0k hb (fun x hx => hlt x (by simp [hx])))), rfl, hb.frame _, fun h => by cases h⟩

theorem fnExactSingleOf_holds : Rows.FnExactSingleOfSaid :=
  OpenClaim.holds_of_wide 11 Try.f11 rfl rfl rfl rfl rfl rfl rfl ⟨rfl, rfl, rfl, rfl, rfl⟩ rfl rfl rfl rfl rfl (by kernel_rfl) Try.func11 (by kernel_rfl)
    (of_decide_eq_true (by kernel_rfl)) (by unfold Func.isWrapper; first | (rw [if_pos (by decide +kernel)]; kernel_rfl) | (rw [if_neg (by decide +kernel)]; exact ⟨rfl, rfl⟩))
    (fun os started H enc _ => fnExactSingleOf_lifted os started H enc)

#print axioms fnExactSingleOf_holds
end Go.Proofs.Ytbeaknnehpdepaa
