/-
  Proved here: the law FnExactAlikePatterns returns true for all inputs. No condition.
-/
import Derived.Test.YtbeaknnehpdepaaL03g
namespace Go.Proofs.Ytbeaknnehpdepaa
open Go.ChangeShapes Go.WideShapes Go.ChangeAt Go.RowKit


set_option maxHeartbeats 4000000 in
theorem fnExactAlikePatterns_any0 (W : World) (v0 : Value) (A0 : List Int) (hA0 : Rd W v0 A0) (_hw0 : ∀ n ∈ A0, (Lit.int .i64 n).wf = true) (v1 : Value) (A1 : List Int) (hA1 : Rd W v1 A1) (_hw1 : ∀ n ∈ A1, (Lit.int .i64 n).wf = true) : Calls Try.prog 8 #[v0, v1] W fun e w' => e = .returned (.bool true) ∧ Below W.heap.size W w' := by
  obtain ⟨hl0, a0, c0, rfl, hc0⟩ := hA0
  have hA0 : Rd W (.slice a0 A0.length c0) A0 := ⟨hl0, a0, c0, rfl, hc0⟩
  clear hc0
  obtain ⟨hl1, a1, c1, rfl, hc1⟩ := hA1
  have hA1 : Rd W (.slice a1 A1.length c1) A1 := ⟨hl1, a1, c1, rfl, hc1⟩
  clear hc1
  by_cases hg0 : A0.length ≤ 1048576
  rotate_left
  · go_enter Try.func8, Try.ntmps8
    go_wp2
    go_ret
    exact ⟨rfl, Below.refl _ _⟩
  by_cases hg1 : A1.length ≤ 1048576
  rotate_left
  · go_enter Try.func8, Try.ntmps8
    go_wp2
    go_ret
    exact ⟨rfl, Below.refl _ _⟩
  have hB : Below W.heap.size W W := Below.refl _ _
  go_enter Try.func8, Try.ntmps8
  go_wp2_with fail
  with_reducible refine (toInt64S_any (.slice a0 A0.length c0) A0 _ (hA0.below hB)).mono ?_
  rintro e w1 ⟨u1, rfl, h1, hb⟩
  have hs_1 := hb.size
  replace hB := below_step hB hb hB.size
  clear hb
  go_wp2_with fail
  with_reducible refine (toInt64S_any (.slice a1 A1.length c1) A1 _ (hA1.below hB)).mono ?_
  rintro e w2 ⟨u2, rfl, h2, hb⟩
  have hs_2 := hb.size
  replace h1 := h1.below hb
  replace hB := below_step hB hb hB.size
  clear hb
  go_wp2_with fail
  with_reducible refine (specAlike_any u1 A0 u2 A1 _ h1.rd h2.rd h1.cp h2.cp ).mono ?_
  rintro e w3 ⟨rfl, hb⟩
  have hs_3 := hb.size
  replace h1 := h1.below hb
  replace h2 := h2.below hb
  replace hB := below_step hB hb hB.size
  clear hb
  clear h1
  clear h2
  go_wp2_with fail
  with_reducible refine (toInt64S_any (.slice a0 A0.length c0) A0 _ (hA0.below hB)).mono ?_
  rintro e w4 ⟨u3, rfl, h3, hb⟩
  have hs_4 := hb.size
  replace hB := below_step hB hb hB.size
  clear hb
  go_wp2_with fail
  with_reducible refine (toInt64S_any (.slice a1 A1.length c1) A1 _ (hA1.below hB)).mono ?_
  rintro e w5 ⟨u4, rfl, h4, hb⟩
  have hs_5 := hb.size
  replace h3 := h3.below hb
  replace hB := below_step hB hb hB.size
  clear hb
  go_wp2_with fail
  with_reducible refine (implAlike_any u3 A0 u4 A1 _ h3.rd h4.rd h3.cp h4.cp ).mono ?_
  rintro e w6 ⟨rfl, hb⟩
  have hs_6 := hb.size
  replace h3 := h3.below hb
  replace h4 := h4.below hb
  replace hB := below_step hB hb hB.size
  clear hb
  go_wp2_with fail
  with_reducible refine (toInt64S_any (.slice a0 A0.length c0) A0 _ (hA0.below hB)).mono ?_
  rintro e w7 ⟨u5, rfl, h5, hb⟩
  have hs_7 := hb.size
  replace h3 := h3.below hb
  replace h4 := h4.below hb
  replace hB := below_step hB hb hB.size
  clear hb
  go_wp2_with fail
  with_reducible refine (eqInt64S_same u3 u5 A0 _ h3.rd h5.rd).mono ?_
  rintro e w8 ⟨rfl, hb⟩
  have hs_8 := hb.size
  replace h3 := h3.below hb
  replace h4 := h4.below hb
  replace h5 := h5.below hb
  replace hB := below_step hB hb hB.size
  clear hb
  clear h5
  go_wp2_with fail
  with_reducible refine (toInt64S_any (.slice a1 A1.length c1) A1 _ (hA1.below hB)).mono ?_
  rintro e w9 ⟨u6, rfl, h6, hb⟩
  have hs_9 := hb.size
  replace h3 := h3.below hb
  replace h4 := h4.below hb
  replace hB := below_step hB hb hB.size
  clear hb
  go_wp2_with fail
  with_reducible refine (eqInt64S_same u4 u6 A1 _ h4.rd h6.rd).mono ?_
  rintro e w10 ⟨rfl, hb⟩
  have hs_10 := hb.size
  replace h3 := h3.below hb
  replace h4 := h4.below hb
  replace h6 := h6.below hb
  replace hB := below_step hB hb hB.size
  clear hb
  clear h6
  go_wp2
  go_ret
  exact ⟨rfl, hB⟩

set_option maxRecDepth 100000 in
theorem fnExactAlikePatterns_lifted (os : Os) (started : os.Started) (H : Type) (enc : TypeId × Value → H) :
    ReturnsInHanded {} Try.checked os 8 .any (Rows.fnExactAlikePatternsSpec.pre6 enc Try.prog Try.f8 Rows.fnExactAlikePatternsRow.domain false) (Rows.fnExactAlikePatternsSpec.post enc Try.prog Try.f8 false true false false) := by
  refine returnsInHanded_of_change_sized (C := Try.checked) Try.own started (by kernel_rfl) Try.func8
    (ChangeSpec.witness6 (enc := enc) (C := Try.checked) false ⟨#[], #[.slice none 0 0, .slice none 0 0], []⟩ 8 (by kernel_rfl) (by kernel_rfl) (by kernel_rfl) (by kernel_rfl)) ?_
  intro W base args ds gs before hval0 hW _ hsz0 _
  have hsz : (DataW.weightsEach Try.prog (Try.f8.params.toList ++ Rows.fnExactAlikePatternsSpec.plain.varTypes Try.prog) (ds ++ gs)).all (· ≤ reachBytes) = true := hsz0
  clear hsz0
  have hval : ∀ (j : Nat) t v, Try.f8.params[j]? = some t → args[j]? = some v → Value.okWide Try.prog W .any base t v := hval0
  have hW' := hW
  obtain ⟨p, q, hA0, hV, rfl, _, _⟩ := hW
  have hA : DataW.TrodAll enc Try.prog W 0 (fun _ => true) true Try.f8.params.toList args.toList ds p := hA0
  rw [Try.params8] at hA hval hsz
  obtain ⟨v0, v1, d0, d1, p0, p1, rfl, rfl, rfl, h0, h1⟩ := trodAll_two hA
  obtain ⟨rfl, rfl⟩ := trodVars_none hV
  clear hA0 hval0
  simp only [List.append_nil] at hW'
  have hlt : ∀ x ∈ p0 ++ p1, x.block < W.heap.size := fun x hx => by simpa using hW'.lt x (by simpa using hx)
  have h0k := h0
  obtain ⟨A0, hA0, hw0⟩ := rd_open (hval 0 22 v0 rfl rfl) h0 (fun el sp he => sized_slice hsz (j := 0) (t := 22) (e := 2) rfl (by rw [he]; rfl) Try.underlying22)
  have h1k := h1
  obtain ⟨A1, hA1, hw1⟩ := rd_open (hval 1 22 v1 rfl rfl) h1 (fun el sp he => sized_slice hsz (j := 1) (t := 22) (e := 2) rfl (by rw [he]; rfl) Try.underlying22)
  refine (fnExactAlikePatterns_any0 W v0 A0 hA0 hw0 v1 A1 hA1 hw1).mono fun e W' ⟨he, hb⟩ => ?_
  subst he
  exact ⟨_, rfl, _, _, _, [], _, [], hW', trodAll_mk1 (shut_bool Try.underlying4 true), (trodAll_mk2 (Below.trod Try.laidOut (by kernel_rfl) (of_decide_eq_true (by kernel_rfl)) h0k hb (fun x hx => hlt x (by simp [hx]))) (Below.trod Try.laidOut (by kernel_rfl) (of_decide_eq_true (by kernel_rfl)) h1k hb (fun x hx => hlt x (by simp [hx])))), rfl, hb.frame _, fun h => by cases h⟩

theorem fnExactAlikePatterns_holds : Rows.FnExactAlikePatternsSaid :=
  OpenClaim.holds_of_wide 8 Try.f8 rfl rfl rfl rfl rfl rfl rfl ⟨rfl, rfl, rfl, rfl, rfl⟩ rfl rfl rfl rfl rfl (by kernel_rfl) Try.func8 (by kernel_rfl)
    (of_decide_eq_true (by kernel_rfl)) (by unfold Func.isWrapper; first | (rw [if_pos (by decide +kernel)]; kernel_rfl) | (rw [if_neg (by decide +kernel)]; exact ⟨rfl, rfl⟩))
    (fun os started H enc _ => fnExactAlikePatterns_lifted os started H enc)

#print axioms fnExactAlikePatterns_holds
end Go.Proofs.Ytbeaknnehpdepaa
