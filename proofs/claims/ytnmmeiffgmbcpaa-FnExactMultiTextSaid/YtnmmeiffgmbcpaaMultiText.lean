/-
  Proved here: the law FnExactMultiText returns true for all inputs. No condition.
-/
import Derived.Test.YtnmmeiffgmbcpaaM6
import Derived.Deep.RegionHeld3
namespace Go.Proofs.Ytnmmeiffgmbcpaa
open Go.ChangeShapes Go.WideShapes Go.ChangeAt Go.RowKit


set_option maxHeartbeats 4000000 in
theorem fnExactMultiText_any0 (W : World) (va0 : Value) (R0 : List (List Int)) (hA0 : RdR W va0 R0) : Calls Try.prog 9 #[.agg #[va0]] W fun e w' => e = .returned (.bool true) ∧ Below W.heap.size W w' := by
  obtain ⟨sa0, na0, ca0, rfl⟩ := hA0.form'
  have hB : Below W.heap.size W W := Below.refl _ _
  go_enter Try.func9, Try.ntmps9
  go_wp2_with fail
  generalize hW : (World.alloc W _) = w1
  have hb : Below W.heap.size W w1 := by rw [← hW]; exact (Below.refl _ _).alloc (Nat.le_refl _) _
  have hz_1 : W.heap.size + 1 ≤ w1.heap.size := by rw [← hW]; simp
  have cb_aM_0 : w1.cell? ⟨W.heap.size, 0, none⟩ = some (.slice sa0 na0 ca0) := by rw [← hW]; simp
  have lt_aM : W.heap.size < w1.heap.size := by omega
  clear hW
  have hs_1 := hb.size
  replace hB := below_step hB hb hB.size
  clear hb
  by_cases hgz : ((R0.length : Int) + (sumLen R0 R0.length : Int)) ≤ 1048576
  rotate_left
  · with_reducible refine (szMulti_no _ R0 (1048576) _ (hA0.below hB) (by omega) (by omega) (by omega)).mono ?_
    rintro e w' ⟨rfl, hb⟩
    go_wp2
    go_ret
    exact ⟨rfl, below_step hB hb hB.size⟩
  with_reducible refine (szMulti_yes _ R0 (1048576) _ (hA0.below hB) (by omega) (by omega) (by omega)).mono ?_
  rintro e w2 ⟨rfl, hb⟩
  have hs_2 := hb.size
  replace cb_aM_0 := (hb.cell (p := ⟨W.heap.size, 0, none⟩) lt_aM).trans cb_aM_0
  replace lt_aM := Nat.lt_of_lt_of_le lt_aM hb.size
  replace hB := below_step hB hb hB.size
  clear hb
  have hgq_2 : ((R0.length : Int) + (sumLen R0 R0.length : Int)) ≤ 1048576 := by omega
  clear hgz
  go_wp2_with fail
  with_reducible refine (toMulti_any _ R0 _ (hA0.below hB) (by omega)).mono ?_
  rintro e w3 ⟨u1, rfl, h1, hb⟩
  have hs_3 := hb.size
  replace cb_aM_0 := (hb.cell (p := ⟨W.heap.size, 0, none⟩) lt_aM).trans cb_aM_0
  replace lt_aM := Nat.lt_of_lt_of_le lt_aM hb.size
  replace hB := below_step hB hb hB.size
  clear hb
  obtain ⟨s1, n1, c1, rfl⟩ := h1.rd.form'
  go_wp2_with fail
  with_reducible refine (specTextM_any _ R0 _ h1.rd ).mono ?_
  rintro e w4 ⟨rfl, hb⟩
  have hs_4 := hb.size
  replace h1 := h1.below hb
  replace cb_aM_0 := (hb.cell (p := ⟨W.heap.size, 0, none⟩) lt_aM).trans cb_aM_0
  replace lt_aM := Nat.lt_of_lt_of_le lt_aM hb.size
  replace hB := below_step hB hb hB.size
  clear hb
  clear h1
  go_wp2_with fail
  with_reducible refine (toMulti_any _ R0 _ (hA0.below hB) (by omega)).mono ?_
  rintro e w5 ⟨u2, rfl, h2, hb⟩
  have hs_5 := hb.size
  replace cb_aM_0 := (hb.cell (p := ⟨W.heap.size, 0, none⟩) lt_aM).trans cb_aM_0
  replace lt_aM := Nat.lt_of_lt_of_le lt_aM hb.size
  replace hB := below_step hB hb hB.size
  clear hb
  obtain ⟨s2, n2, c2, rfl⟩ := h2.rd.form'
  go_wp2_with fail
  generalize hW : (World.alloc w5 _) = w6
  have hb : Below w5.heap.size w5 w6 := by rw [← hW]; exact (Below.refl _ _).alloc (Nat.le_refl _) _
  have hz_6 : w5.heap.size + 1 ≤ w6.heap.size := by rw [← hW]; simp
  have cb_x0_0 : w6.cell? ⟨w5.heap.size, 0, none⟩ = some (.slice s2 n2 c2) := by rw [← hW]; simp
  have lt_x0 : w5.heap.size < w6.heap.size := by omega
  clear hW
  have hs_6 := hb.size
  replace h2 := h2.below hb
  replace cb_aM_0 := (hb.cell (p := ⟨W.heap.size, 0, none⟩) lt_aM).trans cb_aM_0
  replace lt_aM := Nat.lt_of_lt_of_le lt_aM hb.size
  replace hB := below_step hB hb hB.size
  clear hb
  with_reducible refine (implTextM_any _ R0 _ h2.rd ).mono ?_
  rintro e w7 ⟨rfl, hb⟩
  have hs_7 := hb.size
  replace h2 := h2.below hb
  replace cb_aM_0 := (hb.cell (p := ⟨W.heap.size, 0, none⟩) lt_aM).trans cb_aM_0
  replace lt_aM := Nat.lt_of_lt_of_le lt_aM hb.size
  replace cb_x0_0 := (hb.cell (p := ⟨w5.heap.size, 0, none⟩) lt_x0).trans cb_x0_0
  replace lt_x0 := Nat.lt_of_lt_of_le lt_x0 hb.size
  replace hB := below_step hB hb hB.size
  clear hb
  go_wp2
  have hBd := hB.drew
  have hda := hA0.below hBd
  go_region_held3 (fun w' => w'.cell? ⟨W.heap.size, 0, none⟩ = some (.slice sa0 na0 ca0) ∧ w'.cell? ⟨w5.heap.size, 0, none⟩ = some (.slice s2 n2 c2))
    (first | go_keep | (go_split_ands; exact ⟨(hba.cell (p := ⟨W.heap.size, 0, none⟩) lt_aM).trans (by assumption), (hba.cell (p := ⟨w5.heap.size, 0, none⟩) lt_x0).trans (by assumption)⟩) | (go_split_ands; exact ⟨(hbb.cell (p := ⟨W.heap.size, 0, none⟩) (Nat.lt_of_lt_of_le lt_aM hba.size)).trans (by assumption), (hbb.cell (p := ⟨w5.heap.size, 0, none⟩) (Nat.lt_of_lt_of_le lt_x0 hba.size)).trans (by assumption)⟩))
    (first | (go_at_call 20; (with_reducible refine (toMulti_any _ R0 _ hda (by omega)).mono ?_); rintro e wa3 ⟨u3, rfl, hua, hba⟩; obtain ⟨s3, n3, c3, rfl⟩ := hua.rd.form'; have hxx := OwnR.below (w := w7.drew) h2 hba) | (go_at_call 22; (with_reducible refine (eqMulti_same _ _ R0 _ hxx.rd hua.rd).mono ?_); rintro e w8 ⟨rfl, hbb⟩))
  have hb : Below w7.heap.size w7 w8 := below_step (below_step (Below.refl _ _).drew hba (Nat.le_refl _)) hbb hba.size
  clear hua hba hbb hda hBd hxx
  have hs_8 := hb.size
  replace h2 := h2.below hb
  replace cb_aM_0 := (hb.cell (p := ⟨W.heap.size, 0, none⟩) lt_aM).trans cb_aM_0
  replace lt_aM := Nat.lt_of_lt_of_le lt_aM hb.size
  replace cb_x0_0 := (hb.cell (p := ⟨w5.heap.size, 0, none⟩) lt_x0).trans cb_x0_0
  replace lt_x0 := Nat.lt_of_lt_of_le lt_x0 hb.size
  replace hB := below_step hB hb hB.size
  clear hb
  go_wp2
  go_ret
  exact ⟨rfl, hB⟩

set_option maxRecDepth 100000 in
theorem fnExactMultiText_lifted (os : Os) (started : os.Started) (H : Type) (enc : TypeId × Value → H) :
    ReturnsInHanded {} Try.checked os 9 .any (Rows.fnExactMultiTextSpec.pre6 enc Try.prog Try.f9 Rows.fnExactMultiTextRow.domain false) (Rows.fnExactMultiTextSpec.post enc Try.prog Try.f9 false true false false) := by
  refine returnsInHanded_of_change_sized (C := Try.checked) Try.own started (by kernel_rfl) Try.func9
    (ChangeSpec.witness6 (enc := enc) (C := Try.checked) false ⟨#[], #[.agg #[.slice none 0 0]], []⟩ 8 (by kernel_rfl) (by kernel_rfl) (by kernel_rfl) (by kernel_rfl)) ?_
  intro W base args ds gs before hval0 hW _ hsz0 _
  have hsz : (DataW.weightsEach Try.prog (Try.f9.params.toList ++ Rows.fnExactMultiTextSpec.plain.varTypes Try.prog) (ds ++ gs)).all (· ≤ reachBytes) = true := hsz0
  clear hsz0
  have hval : ∀ (j : Nat) t v, Try.f9.params[j]? = some t → args[j]? = some v → Value.okWide Try.prog W .any base t v := hval0
  have hW' := hW
  obtain ⟨p, q, hA0, hV, rfl, _, _⟩ := hW
  have hA : DataW.TrodAll enc Try.prog W 0 (fun _ => true) true Try.f9.params.toList args.toList ds p := hA0
  rw [Try.params9] at hA hval hsz
  obtain ⟨v0, d0, rfl, rfl, h0⟩ := trodAll_one hA
  obtain ⟨rfl, rfl⟩ := trodVars_none hV
  clear hA0 hval0
  simp only [List.append_nil] at hW'
  have hlt : ∀ x ∈ p, x.block < W.heap.size := fun x hx => by simpa using hW'.lt x (by simpa using hx)
  have h0k := h0
  obtain ⟨va0, R0, rfl, hA0⟩ := rdM_open (hval 0 31 v0 rfl rfl) h0 (fun x hx => by have := List.all_eq_true.1 hsz _ (DataW.weights_mem_each (j := 0) (t := 31) rfl rfl x hx); simpa using this)
  refine (fnExactMultiText_any0 W va0 R0 hA0).mono fun e W' ⟨he, hb⟩ => ?_
  subst he
  exact ⟨_, rfl, _, _, _, [], _, [], hW', trodAll_mk1 (shut_bool Try.underlying4 true), (trodAll_mk1 (Below.trod Try.laidOut (by kernel_rfl) (of_decide_eq_true (by kernel_rfl)) h0k hb (fun x hx => hlt x (by simp [hx])))), rfl, hb.frame _, fun h => by cases h⟩

theorem fnExactMultiText_holds : Rows.FnExactMultiTextSaid :=
  OpenClaim.holds_of_wide 9 Try.f9 rfl rfl rfl rfl rfl rfl rfl ⟨rfl, rfl, rfl, rfl, rfl⟩ rfl rfl rfl rfl rfl (by kernel_rfl) Try.func9 (by kernel_rfl)
    (of_decide_eq_true (by kernel_rfl)) (by unfold Func.isWrapper; first | (rw [if_pos (by decide +kernel)]; kernel_rfl) | (rw [if_neg (by decide +kernel)]; exact ⟨rfl, rfl⟩))
    (fun os started H enc _ => fnExactMultiText_lifted os started H enc)

#print axioms fnExactMultiText_holds
end Go.Proofs.Ytnmmeiffgmbcpaa
