/-
  Proved here: the law FnExactReadSync returns true for all inputs. No condition.
-/
import Derived.Test.YtfeihkpaigadkaaRy6
namespace Go.Proofs.Ytfeihkpaigadkaa
open Go.ChangeShapes Go.WideShapes Go.ChangeAt Go.RowKit


set_option maxHeartbeats 4000000 in
theorem fnExactReadSync_any0 (W : World) (s0 : ByteArray) (hs0 : s0.size ≤ maxLen) : Calls Try.prog 3 #[.string s0] W fun e w' => e = .returned (.bool true) ∧ Below W.heap.size W w' := by
  by_cases hg0 : s0.size ≤ 1048576
  rotate_left
  · unfold maxLen at hs0
    go_enter Try.func3, Try.ntmps3
    go_wp2
    go_ret
    exact ⟨rfl, Below.refl _ _⟩
  unfold maxLen at hs0
  have hB : Below W.heap.size W W := Below.refl _ _
  go_enter Try.func3, Try.ntmps3
  go_wp2_with fail
  with_reducible refine (specReadSync_any s0 _  hg0).mono ?_
  rintro e w1 ⟨u1, rfl, h1, hb⟩
  have hs_1 := hb.size
  replace hB := below_step hB hb hB.size
  clear hb
  go_wp2_with fail
  with_reducible refine (implReadSync_any s0 _  hg0).mono ?_
  rintro e w2 ⟨u2, rfl, h2, hb⟩
  have hs_2 := hb.size
  replace h1 := h1.below hb
  replace hB := below_step hB hb hB.size
  clear hb
  go_wp2_with fail
  with_reducible refine (eqSyncBeatS_same u2 u1 _ _ _ h2.rd h1.rd).mono ?_
  rintro e w3 ⟨rfl, hb⟩
  have hs_3 := hb.size
  replace h1 := h1.below hb
  replace h2 := h2.below hb
  replace hB := below_step hB hb hB.size
  clear hb
  go_wp2_with fail
  with_reducible refine (markSyncBeatS_any _ _ _ _ _ _ _ h2 (by omega) (by omega)).mono ?_
  rintro e w4 ⟨rfl, hm, hc⟩
  have hs_4 := hc.size
  replace h1 := h1.kept hc (by omega)
  replace hB := below_chg_step hB hc hB.size (by omega)
  clear hc
  clear h2
  have h2 := hm
  clear hm
  go_wp2_with fail
  with_reducible refine (heldSyncBeatS_same _ _ _ _ _ _ h2 (by omega) (by omega)).mono ?_
  rintro e w5 ⟨rfl, hb⟩
  have hs_5 := hb.size
  replace h1 := h1.below hb
  replace h2 := h2.below hb
  replace hB := below_step hB hb hB.size
  clear hb
  go_wp2_with fail
  with_reducible refine (implReadSync_any s0 _  hg0).mono ?_
  rintro e w6 ⟨u3, rfl, h3, hb⟩
  have hs_6 := hb.size
  replace h1 := h1.below hb
  replace h2 := h2.below hb
  replace hB := below_step hB hb hB.size
  clear hb
  go_wp2_with fail
  with_reducible refine (eqSyncBeatS_same u3 u1 _ _ _ h3.rd h1.rd).mono ?_
  rintro e w7 ⟨rfl, hb⟩
  have hs_7 := hb.size
  replace h1 := h1.below hb
  replace h2 := h2.below hb
  replace h3 := h3.below hb
  replace hB := below_step hB hb hB.size
  clear hb
  go_wp2_with fail
  with_reducible refine (heldSyncBeatS_same _ _ _ _ _ _ h2 (by omega) (by omega)).mono ?_
  rintro e w8 ⟨rfl, hb⟩
  have hs_8 := hb.size
  replace h1 := h1.below hb
  replace h2 := h2.below hb
  replace h3 := h3.below hb
  replace hB := below_step hB hb hB.size
  clear hb
  go_wp2
  go_ret
  exact ⟨rfl, hB⟩

set_option maxRecDepth 100000 in
theorem fnExactReadSync_lifted (os : Os) (started : os.Started) (H : Type) (enc : TypeId × Value → H) :
    ReturnsInHanded {} Try.checked os 3 .any (Rows.fnExactReadSyncSpec.pre6 enc Try.prog Try.f3 Rows.fnExactReadSyncRow.domain false) (Rows.fnExactReadSyncSpec.post enc Try.prog Try.f3 false true false false) := by
  refine returnsInHanded_of_change_sized (C := Try.checked) Try.own started (by kernel_rfl) Try.func3
    (ChangeSpec.witness6 (enc := enc) (C := Try.checked) false ⟨#[], #[.string ⟨#[]⟩], []⟩ 8 (by kernel_rfl) (by kernel_rfl) (by kernel_rfl) (by kernel_rfl)) ?_
  intro W base args ds gs before hval0 hW _ hsz0 _
  have hsz : (DataW.weightsEach Try.prog (Try.f3.params.toList ++ Rows.fnExactReadSyncSpec.plain.varTypes Try.prog) (ds ++ gs)).all (· ≤ reachBytes) = true := hsz0
  clear hsz0
  have hval : ∀ (j : Nat) t v, Try.f3.params[j]? = some t → args[j]? = some v → Value.okWide Try.prog W .any base t v := hval0
  have hW' := hW
  obtain ⟨p, q, hA0, hV, rfl, _, _⟩ := hW
  have hA : DataW.TrodAll enc Try.prog W 0 (fun _ => true) true Try.f3.params.toList args.toList ds p := hA0
  rw [Try.params3] at hA hval hsz
  obtain ⟨v0, d0, rfl, rfl, h0⟩ := trodAll_one hA
  obtain ⟨rfl, rfl⟩ := trodVars_none hV
  clear hA0 hval0
  simp only [List.append_nil] at hW'
  have h0k := h0
  obtain ⟨s0, rfl, rfl, rfl, hs0⟩ := Go.ChangeMaps.open_string Try.underlying9 (hval 0 9 v0 rfl rfl) h0
  refine (fnExactReadSync_any0 W s0 hs0).mono fun e W' ⟨he, hb⟩ => ?_
  subst he
  exact ⟨_, rfl, _, _, _, [], _, [], hW', trodAll_mk1 (shut_bool Try.underlying4 true), (trodAll_mk1 (Below.trod Try.laidOut (by kernel_rfl) (of_decide_eq_true (by kernel_rfl)) h0k hb (fun x hx => by cases hx))), rfl, hb.frame _, fun h => by cases h⟩

theorem fnExactReadSync_holds : Rows.FnExactReadSyncSaid :=
  OpenClaim.holds_of_wide 3 Try.f3 rfl rfl rfl rfl rfl rfl rfl ⟨rfl, rfl, rfl, rfl, rfl⟩ rfl rfl rfl rfl rfl (by kernel_rfl) Try.func3 (by kernel_rfl)
    (of_decide_eq_true (by kernel_rfl)) (by unfold Func.isWrapper; first | (rw [if_pos (by decide +kernel)]; kernel_rfl) | (rw [if_neg (by decide +kernel)]; exact ⟨rfl, rfl⟩))
    (fun os started H enc _ => fnExactReadSync_lifted os started H enc)

#print axioms fnExactReadSync_holds
end Go.Proofs.Ytfeihkpaigadkaa
