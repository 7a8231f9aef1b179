/-
  Proved here: the law FnExactReadPassing returns true for all inputs. No condition.
-/
import Derived.Test.YtbkacjfdkaiogaaRp5
import Derived.Deep.RegionHeld3
namespace Go.Proofs.Ytbkacjfdkaiogaa
open Go.ChangeShapes Go.WideShapes Go.ChangeAt Go.RowKit


set_option maxHeartbeats 4000000 in
theorem fnExactReadPassing_any0 (W : World) (s0 : ByteArray) (hs0 : s0.size ≤ maxLen) : Calls Try.prog 3 #[.string s0] W fun e w' => e = .returned (.bool true) ∧ Below W.heap.size W w' := by
  by_cases hg0 : s0.size ≤ 1048576
  rotate_left
  · unfold maxLen at hs0
    go_enter Try.func3, Try.ntmps3
    go_wp2
    go_ret
    exact ⟨rfl, Below.refl _ _⟩
  unfold maxLen at hs0
  have hB : Below W.heap.size W W := Below.refl _ _
  go_enter Try.func3, Try.ntmps3
  go_wp2_with fail
  with_reducible refine (specReadP_any s0 _  hg0).mono ?_
  rintro e w1 ⟨u1, u1b, rfl, h1, hb⟩
  have hs_1 := hb.size
  replace hB := below_step hB hb hB.size
  clear hb
  obtain ⟨s2, n2, c2, s2b, n2b, c2b, rfl, rfl⟩ := h1.rd.form'
  go_wp2_with fail
  generalize hW : (World.alloc w1 _) = w2
  have hb : Below w1.heap.size w1 w2 := by rw [← hW]; exact (Below.refl _ _).alloc (Nat.le_refl _) _
  have hz_2 : w1.heap.size + 1 ≤ w2.heap.size := by rw [← hW]; simp
  have cb_w0_0 : w2.cell? ⟨w1.heap.size, 0, none⟩ = some (.slice s2 n2 c2) := by rw [← hW]; simp
  have cb_w0_1 : w2.cell? ⟨w1.heap.size, 1, none⟩ = some (.slice s2b n2b c2b) := by rw [← hW]; simp
  have lt_w0 : w1.heap.size < w2.heap.size := by omega
  clear hW
  have hs_2 := hb.size
  replace h1 := h1.below hb
  replace hB := below_step hB hb hB.size
  clear hb
  with_reducible refine (implReadP_any s0 _  hg0).mono ?_
  rintro e w3 ⟨u3, u3b, rfl, h3, hb⟩
  have hs_3 := hb.size
  replace h1 := h1.below hb
  replace cb_w0_0 := (hb.cell (p := ⟨w1.heap.size, 0, none⟩) lt_w0).trans cb_w0_0
  replace cb_w0_1 := (hb.cell (p := ⟨w1.heap.size, 1, none⟩) lt_w0).trans cb_w0_1
  replace lt_w0 := Nat.lt_of_lt_of_le lt_w0 hb.size
  replace hB := below_step hB hb hB.size
  clear hb
  obtain ⟨s4, n4, c4, s4b, n4b, c4b, rfl, rfl⟩ := h3.rd.form'
  go_wp2_with fail
  generalize hW : (World.alloc w3 _) = w4
  have hb : Below w3.heap.size w3 w4 := by rw [← hW]; exact (Below.refl _ _).alloc (Nat.le_refl _) _
  have hz_4 : w3.heap.size + 1 ≤ w4.heap.size := by rw [← hW]; simp
  have cb_g0_0 : w4.cell? ⟨w3.heap.size, 0, none⟩ = some (.slice s4 n4 c4) := by rw [← hW]; simp
  have cb_g0_1 : w4.cell? ⟨w3.heap.size, 1, none⟩ = some (.slice s4b n4b c4b) := by rw [← hW]; simp
  have lt_g0 : w3.heap.size < w4.heap.size := by omega
  clear hW
  have hs_4 := hb.size
  replace h1 := h1.below hb
  replace h3 := h3.below hb
  replace cb_w0_0 := (hb.cell (p := ⟨w1.heap.size, 0, none⟩) lt_w0).trans cb_w0_0
  replace cb_w0_1 := (hb.cell (p := ⟨w1.heap.size, 1, none⟩) lt_w0).trans cb_w0_1
  replace lt_w0 := Nat.lt_of_lt_of_le lt_w0 hb.size
  replace hB := below_step hB hb hB.size
  clear hb
  with_reducible refine (eqPassing_same _ _ _ _ _ _ _ h3.rd h1.rd).mono ?_
  rintro e w5 ⟨rfl, hb⟩
  have hs_5 := hb.size
  replace h1 := h1.below hb
  replace h3 := h3.below hb
  replace cb_w0_0 := (hb.cell (p := ⟨w1.heap.size, 0, none⟩) lt_w0).trans cb_w0_0
  replace cb_w0_1 := (hb.cell (p := ⟨w1.heap.size, 1, none⟩) lt_w0).trans cb_w0_1
  replace lt_w0 := Nat.lt_of_lt_of_le lt_w0 hb.size
  replace cb_g0_0 := (hb.cell (p := ⟨w3.heap.size, 0, none⟩) lt_g0).trans cb_g0_0
  replace cb_g0_1 := (hb.cell (p := ⟨w3.heap.size, 1, none⟩) lt_g0).trans cb_g0_1
  replace lt_g0 := Nat.lt_of_lt_of_le lt_g0 hb.size
  replace hB := below_step hB hb hB.size
  clear hb
  go_wp2_with fail
  with_reducible refine (markPassing_any _ _ _ _ _ _ _ _ h3 (by omega) (by omega)).mono ?_
  rintro e w6 ⟨rfl, hm, hc⟩
  have hs_6 := hc.size
  replace h1 := h1.kept hc (by omega)
  replace cb_w0_0 := (chg_cell hc lt_w0 (by omega) 0).trans cb_w0_0
  replace cb_w0_1 := (chg_cell hc lt_w0 (by omega) 1).trans cb_w0_1
  replace lt_w0 := Nat.lt_of_lt_of_le lt_w0 hc.size
  replace cb_g0_0 := (chg_cell hc lt_g0 (by omega) 0).trans cb_g0_0
  replace cb_g0_1 := (chg_cell hc lt_g0 (by omega) 1).trans cb_g0_1
  replace lt_g0 := Nat.lt_of_lt_of_le lt_g0 hc.size
  replace hB := below_chg_step hB hc hB.size (by omega)
  clear hc
  clear h3
  have h3 := hm
  clear hm
  go_wp2_with fail
  with_reducible refine (heldPassing_same _ _ _ _ _ _ _ _ h3 (by omega) (by omega)).mono ?_
  rintro e w7 ⟨rfl, hb⟩
  have hs_7 := hb.size
  replace h1 := h1.below hb
  replace h3 := h3.below hb
  replace cb_w0_0 := (hb.cell (p := ⟨w1.heap.size, 0, none⟩) lt_w0).trans cb_w0_0
  replace cb_w0_1 := (hb.cell (p := ⟨w1.heap.size, 1, none⟩) lt_w0).trans cb_w0_1
  replace lt_w0 := Nat.lt_of_lt_of_le lt_w0 hb.size
  replace cb_g0_0 := (hb.cell (p := ⟨w3.heap.size, 0, none⟩) lt_g0).trans cb_g0_0
  replace cb_g0_1 := (hb.cell (p := ⟨w3.heap.size, 1, none⟩) lt_g0).trans cb_g0_1
  replace lt_g0 := Nat.lt_of_lt_of_le lt_g0 hb.size
  replace hB := below_step hB hb hB.size
  clear hb
  go_wp2_with fail
  with_reducible refine (implReadP_any s0 _  hg0).mono ?_
  rintro e w8 ⟨u5, u5b, rfl, h5, hb⟩
  have hs_8 := hb.size
  replace h1 := h1.below hb
  replace h3 := h3.below hb
  replace cb_w0_0 := (hb.cell (p := ⟨w1.heap.size, 0, none⟩) lt_w0).trans cb_w0_0
  replace cb_w0_1 := (hb.cell (p := ⟨w1.heap.size, 1, none⟩) lt_w0).trans cb_w0_1
  replace lt_w0 := Nat.lt_of_lt_of_le lt_w0 hb.size
  replace cb_g0_0 := (hb.cell (p := ⟨w3.heap.size, 0, none⟩) lt_g0).trans cb_g0_0
  replace cb_g0_1 := (hb.cell (p := ⟨w3.heap.size, 1, none⟩) lt_g0).trans cb_g0_1
  replace lt_g0 := Nat.lt_of_lt_of_le lt_g0 hb.size
  replace hB := below_step hB hb hB.size
  clear hb
  obtain ⟨s6, n6, c6, s6b, n6b, c6b, rfl, rfl⟩ := h5.rd.form'
  go_wp2_with fail
  generalize hW : (World.alloc w8 _) = w9
  have hb : Below w8.heap.size w8 w9 := by rw [← hW]; exact (Below.refl _ _).alloc (Nat.le_refl _) _
  have hz_9 : w8.heap.size + 1 ≤ w9.heap.size := by rw [← hW]; simp
  have cb_h0_0 : w9.cell? ⟨w8.heap.size, 0, none⟩ = some (.slice s6 n6 c6) := by rw [← hW]; simp
  have cb_h0_1 : w9.cell? ⟨w8.heap.size, 1, none⟩ = some (.slice s6b n6b c6b) := by rw [← hW]; simp
  have lt_h0 : w8.heap.size < w9.heap.size := by omega
  clear hW
  have hs_9 := hb.size
  replace h1 := h1.below hb
  replace h3 := h3.below hb
  replace h5 := h5.below hb
  replace cb_w0_0 := (hb.cell (p := ⟨w1.heap.size, 0, none⟩) lt_w0).trans cb_w0_0
  replace cb_w0_1 := (hb.cell (p := ⟨w1.heap.size, 1, none⟩) lt_w0).trans cb_w0_1
  replace lt_w0 := Nat.lt_of_lt_of_le lt_w0 hb.size
  replace cb_g0_0 := (hb.cell (p := ⟨w3.heap.size, 0, none⟩) lt_g0).trans cb_g0_0
  replace cb_g0_1 := (hb.cell (p := ⟨w3.heap.size, 1, none⟩) lt_g0).trans cb_g0_1
  replace lt_g0 := Nat.lt_of_lt_of_le lt_g0 hb.size
  replace hB := below_step hB hb hB.size
  clear hb
  with_reducible refine (eqPassing_same _ _ _ _ _ _ _ h5.rd h1.rd).mono ?_
  rintro e w10 ⟨rfl, hb⟩
  have hs_10 := hb.size
  replace h1 := h1.below hb
  replace h3 := h3.below hb
  replace h5 := h5.below hb
  replace cb_w0_0 := (hb.cell (p := ⟨w1.heap.size, 0, none⟩) lt_w0).trans cb_w0_0
  replace cb_w0_1 := (hb.cell (p := ⟨w1.heap.size, 1, none⟩) lt_w0).trans cb_w0_1
  replace lt_w0 := Nat.lt_of_lt_of_le lt_w0 hb.size
  replace cb_g0_0 := (hb.cell (p := ⟨w3.heap.size, 0, none⟩) lt_g0).trans cb_g0_0
  replace cb_g0_1 := (hb.cell (p := ⟨w3.heap.size, 1, none⟩) lt_g0).trans cb_g0_1
  replace lt_g0 := Nat.lt_of_lt_of_le lt_g0 hb.size
  replace cb_h0_0 := (hb.cell (p := ⟨w8.heap.size, 0, none⟩) lt_h0).trans cb_h0_0
  replace cb_h0_1 := (hb.cell (p := ⟨w8.heap.size, 1, none⟩) lt_h0).trans cb_h0_1
  replace lt_h0 := Nat.lt_of_lt_of_le lt_h0 hb.size
  replace hB := below_step hB hb hB.size
  clear hb
  go_wp2_with fail
  with_reducible refine (heldPassing_same _ _ _ _ _ _ _ _ h3 (by omega) (by omega)).mono ?_
  rintro e w11 ⟨rfl, hb⟩
  have hs_11 := hb.size
  replace h1 := h1.below hb
  replace h3 := h3.below hb
  replace h5 := h5.below hb
  replace cb_w0_0 := (hb.cell (p := ⟨w1.heap.size, 0, none⟩) lt_w0).trans cb_w0_0
  replace cb_w0_1 := (hb.cell (p := ⟨w1.heap.size, 1, none⟩) lt_w0).trans cb_w0_1
  replace lt_w0 := Nat.lt_of_lt_of_le lt_w0 hb.size
  replace cb_g0_0 := (hb.cell (p := ⟨w3.heap.size, 0, none⟩) lt_g0).trans cb_g0_0
  replace cb_g0_1 := (hb.cell (p := ⟨w3.heap.size, 1, none⟩) lt_g0).trans cb_g0_1
  replace lt_g0 := Nat.lt_of_lt_of_le lt_g0 hb.size
  replace cb_h0_0 := (hb.cell (p := ⟨w8.heap.size, 0, none⟩) lt_h0).trans cb_h0_0
  replace cb_h0_1 := (hb.cell (p := ⟨w8.heap.size, 1, none⟩) lt_h0).trans cb_h0_1
  replace lt_h0 := Nat.lt_of_lt_of_le lt_h0 hb.size
  replace hB := below_step hB hb hB.size
  clear hb
  go_wp2
  go_ret
  exact ⟨rfl, hB⟩

set_option maxRecDepth 100000 in
theorem fnExactReadPassing_lifted (os : Os) (started : os.Started) (H : Type) (enc : TypeId × Value → H) :
    ReturnsInHanded {} Try.checked os 3 .any (Rows.fnExactReadPassingSpec.pre6 enc Try.prog Try.f3 Rows.fnExactReadPassingRow.domain false) (Rows.fnExactReadPassingSpec.post enc Try.prog Try.f3 false true false false) := by
  refine returnsInHanded_of_change_sized (C := Try.checked) Try.own started (by kernel_rfl) Try.func3
    (ChangeSpec.witness6 (enc := enc) (C := Try.checked) false ⟨#[], #[.string ⟨#[]⟩], []⟩ 8 (by kernel_rfl) (by kernel_rfl) (by kernel_rfl) (by kernel_rfl)) ?_
  intro W base args ds gs before hval0 hW _ hsz0 _
  have hsz : (DataW.weightsEach Try.prog (Try.f3.params.toList ++ Rows.fnExactReadPassingSpec.plain.varTypes Try.prog) (ds ++ gs)).all (· ≤ reachBytes) = true := hsz0
  clear hsz0
  have hval : ∀ (j : Nat) t v, Try.f3.params[j]? = some t → args[j]? = some v → Value.okWide Try.prog W .any base t v := hval0
  have hW' := hW
  obtain ⟨p, q, hA0, hV, rfl, _, _⟩ := hW
  have hA : DataW.TrodAll enc Try.prog W 0 (fun _ => true) true Try.f3.params.toList args.toList ds p := hA0
  rw [Try.params3] at hA hval hsz
  obtain ⟨v0, d0, rfl, rfl, h0⟩ := trodAll_one hA
  obtain ⟨rfl, rfl⟩ := trodVars_none hV
  clear hA0 hval0
  simp only [List.append_nil] at hW'
  have h0k := h0
  obtain ⟨s0, rfl, rfl, rfl, hs0⟩ := Go.ChangeMaps.open_string Try.underlying9 (hval 0 9 v0 rfl rfl) h0
  refine (fnExactReadPassing_any0 W s0 hs0).mono fun e W' ⟨he, hb⟩ => ?_
  subst he
  exact ⟨_, rfl, _, _, _, [], _, [], hW', trodAll_mk1 (shut_bool Try.underlying4 true), (trodAll_mk1 (Below.trod Try.laidOut (by kernel_rfl) (of_decide_eq_true (by kernel_rfl)) h0k hb (fun x hx => by cases hx))), rfl, hb.frame _, fun h => by cases h⟩

theorem fnExactReadPassing_holds : Rows.FnExactReadPassingSaid :=
  OpenClaim.holds_of_wide 3 Try.f3 rfl rfl rfl rfl rfl rfl rfl ⟨rfl, rfl, rfl, rfl, rfl⟩ rfl rfl rfl rfl rfl (by kernel_rfl) Try.func3 (by kernel_rfl)
    (of_decide_eq_true (by kernel_rfl)) (by unfold Func.isWrapper; first | (rw [if_pos (by decide +kernel)]; kernel_rfl) | (rw [if_neg (by decide +kernel)]; exact ⟨rfl, rfl⟩))
    (fun os started H enc _ => fnExactReadPassing_lifted os started H enc)

#print axioms fnExactReadPassing_holds
end Go.Proofs.Ytbkacjfdkaiogaa
