/-
  Proved here: the law FnExactStarSync returns true for all inputs. No condition.
-/
import Derived.Test.YtdbjkgapgjmjoaaY6
namespace Go.Proofs.Ytdbjkgapgjmjoaa
open Go.ChangeShapes Go.WideShapes Go.ChangeAt Go.RowKit


set_option maxHeartbeats 4000000 in
theorem fnExactStarSync_any0 (W : World) (v0 : Value) (n0 : Nat) (T0 : List Th) (hA0 : RdT 2 W v0 n0 T0) (_hw0 : ∀ k, k < n0 * 2 → (Lit.int .i64 (gt T0 k).1).wf = true) : Calls Try.prog 10 #[v0] W fun e w' => e = .returned (.bool true) ∧ Below W.heap.size W w' := by
  obtain ⟨ht0, hl0, a0, c0, rfl, hc0⟩ := hA0
  have hA0 : RdT 2 W (.slice a0 n0 c0) n0 T0 := ⟨ht0, hl0, a0, c0, rfl, hc0⟩
  clear hc0
  have hB : Below W.heap.size W W := Below.refl _ _
  go_enter Try.func10, Try.ntmps10
  by_cases hgz0 : (n0 : Int) ≤ 1048576
  rotate_left
  · go_wp2_with fail
    with_reducible refine (szSyncBeatS_no (.slice a0 n0 c0) n0 T0 (1048576) _ (hA0.below hB) (by omega) (by omega) (by omega)).mono ?_
    rintro e w' ⟨rfl, hb⟩
    go_wp2
    go_ret
    exact ⟨rfl, below_step hB hb hB.size⟩
  go_wp2_with fail
  with_reducible refine (szSyncBeatS_yes (.slice a0 n0 c0) n0 T0 (1048576) _ (hA0.below hB) (by omega) (by omega) (by omega)).mono ?_
  rintro e w1 ⟨rfl, hb⟩
  have hs_1 := hb.size
  replace hB := below_step hB hb hB.size
  clear hb
  go_wp2_with fail
  with_reducible refine (toSyncBeatS_any (.slice a0 n0 c0) n0 T0 _ (hA0.below hB)).mono ?_
  rintro e w2 ⟨u1, rfl, h1, hb⟩
  have hs_2 := hb.size
  replace hB := below_step hB hb hB.size
  clear hb
  go_wp2_with fail
  with_reducible refine (specStarSync_any u1 n0 T0 _ h1.rd ).mono ?_
  rintro e w3 ⟨u2, rfl, h2, hb⟩
  have hs_3 := hb.size
  replace h1 := h1.below hb
  replace hB := below_step hB hb hB.size
  clear hb
  clear h1
  go_wp2_with fail
  with_reducible refine (toSyncBeatS_any (.slice a0 n0 c0) n0 T0 _ (hA0.below hB)).mono ?_
  rintro e w4 ⟨u3, rfl, h3, hb⟩
  have hs_4 := hb.size
  replace h2 := h2.below hb
  replace hB := below_step hB hb hB.size
  clear hb
  go_wp2_with fail
  with_reducible refine (implStarSync_any u3 n0 T0 _ h3.rd ).mono ?_
  rintro e w5 ⟨u4, rfl, h4, hb⟩
  have hs_5 := hb.size
  replace h2 := h2.below hb
  replace h3 := h3.below hb
  replace hB := below_step hB hb hB.size
  clear hb
  go_wp2_with fail
  with_reducible refine (eqSyncBeatS_same u4 u2 _ _ _ h4.rd h2.rd).mono ?_
  rintro e w6 ⟨rfl, hb⟩
  have hs_6 := hb.size
  replace h2 := h2.below hb
  replace h3 := h3.below hb
  replace h4 := h4.below hb
  replace hB := below_step hB hb hB.size
  clear hb
  go_wp2_with fail
  with_reducible refine (toSyncBeatS_any (.slice a0 n0 c0) n0 T0 _ (hA0.below hB)).mono ?_
  rintro e w7 ⟨u5, rfl, h5, hb⟩
  have hs_7 := hb.size
  replace h2 := h2.below hb
  replace h3 := h3.below hb
  replace h4 := h4.below hb
  replace hB := below_step hB hb hB.size
  clear hb
  go_wp2_with fail
  with_reducible refine (eqSyncBeatS_same u3 u5 n0 T0 _ h3.rd h5.rd).mono ?_
  rintro e w8 ⟨rfl, hb⟩
  have hs_8 := hb.size
  replace h2 := h2.below hb
  replace h3 := h3.below hb
  replace h4 := h4.below hb
  replace h5 := h5.below hb
  replace hB := below_step hB hb hB.size
  clear hb
  clear h5
  go_wp2_with fail
  with_reducible refine (markSyncBeatS_any _ n0 T0 _ _ _ _ h3 (by omega) (by omega)).mono ?_
  rintro e w9 ⟨rfl, hm, hc⟩
  have hs_9 := hc.size
  replace h2 := h2.kept hc (by omega)
  replace h4 := h4.kept hc (by omega)
  replace hB := below_chg_step hB hc hB.size (by omega)
  clear hc
  clear h3
  have h3 := hm
  clear hm
  have hk_9 : decide ((1 + 4 * (n0 : Int)) < 0) = false := by simp; omega
  go_wp2_with fail
  with_reducible refine (eqSyncBeatS_same u4 u2 _ _ _ h4.rd h2.rd).mono ?_
  rintro e w10 ⟨rfl, hb⟩
  have hs_10 := hb.size
  replace h2 := h2.below hb
  replace h3 := h3.below hb
  replace h4 := h4.below hb
  replace hB := below_step hB hb hB.size
  clear hb
  go_wp2_with fail
  with_reducible refine (markSyncBeatS_any _ _ _ _ _ _ _ h4 (by omega) (by omega)).mono ?_
  rintro e w11 ⟨rfl, hm, hc⟩
  have hs_11 := hc.size
  replace h2 := h2.kept hc (by omega)
  replace h3 := h3.kept hc (by omega)
  replace hB := below_chg_step hB hc hB.size (by omega)
  clear hc
  clear h4
  have h4 := hm
  clear hm
  go_wp2_with fail
  with_reducible refine (heldSyncBeatS_same _ _ _ _ _ _ h4 (by omega) (by omega)).mono ?_
  rintro e w12 ⟨rfl, hb⟩
  have hs_12 := hb.size
  replace h2 := h2.below hb
  replace h3 := h3.below hb
  replace h4 := h4.below hb
  replace hB := below_step hB hb hB.size
  clear hb
  go_wp2_with fail
  with_reducible refine (toSyncBeatS_any (.slice a0 n0 c0) n0 T0 _ (hA0.below hB)).mono ?_
  rintro e w13 ⟨u6, rfl, h6, hb⟩
  have hs_13 := hb.size
  replace h2 := h2.below hb
  replace h3 := h3.below hb
  replace h4 := h4.below hb
  replace hB := below_step hB hb hB.size
  clear hb
  go_wp2_with fail
  with_reducible refine (implStarSync_any u6 n0 T0 _ h6.rd ).mono ?_
  rintro e w14 ⟨u7, rfl, h7, hb⟩
  have hs_14 := hb.size
  replace h2 := h2.below hb
  replace h3 := h3.below hb
  replace h4 := h4.below hb
  replace h6 := h6.below hb
  replace hB := below_step hB hb hB.size
  clear hb
  clear h6
  go_wp2_with fail
  with_reducible refine (eqSyncBeatS_same u7 u2 _ _ _ h7.rd h2.rd).mono ?_
  rintro e w15 ⟨rfl, hb⟩
  have hs_15 := hb.size
  replace h2 := h2.below hb
  replace h3 := h3.below hb
  replace h4 := h4.below hb
  replace h7 := h7.below hb
  replace hB := below_step hB hb hB.size
  clear hb
  go_wp2_with fail
  with_reducible refine (heldSyncBeatS_same _ _ _ _ _ _ h4 (by omega) (by omega)).mono ?_
  rintro e w16 ⟨rfl, hb⟩
  have hs_16 := hb.size
  replace h2 := h2.below hb
  replace h3 := h3.below hb
  replace h4 := h4.below hb
  replace h7 := h7.below hb
  replace hB := below_step hB hb hB.size
  clear hb
  go_wp2
  go_ret
  exact ⟨rfl, hB⟩

set_option maxRecDepth 100000 in
theorem fnExactStarSync_lifted (os : Os) (started : os.Started) (H : Type) (enc : TypeId × Value → H) :
    ReturnsInHanded {} Try.checked os 10 .any (Rows.fnExactStarSyncSpec.pre6 enc Try.prog Try.f10 Rows.fnExactStarSyncRow.domain false) (Rows.fnExactStarSyncSpec.post enc Try.prog Try.f10 false true false false) := by
  refine returnsInHanded_of_change_sized (C := Try.checked) Try.own started (by kernel_rfl) Try.func10
    (ChangeSpec.witness6 (enc := enc) (C := Try.checked) false ⟨#[], #[.slice none 0 0], []⟩ 8 (by kernel_rfl) (by kernel_rfl) (by kernel_rfl) (by kernel_rfl)) ?_
  intro W base args ds gs before hval0 hW _ hsz0 _
  have hsz : (DataW.weightsEach Try.prog (Try.f10.params.toList ++ Rows.fnExactStarSyncSpec.plain.varTypes Try.prog) (ds ++ gs)).all (· ≤ reachBytes) = true := hsz0
  clear hsz0
  have hval : ∀ (j : Nat) t v, Try.f10.params[j]? = some t → args[j]? = some v → Value.okWide Try.prog W .any base t v := hval0
  have hW' := hW
  obtain ⟨p, q, hA0, hV, rfl, _, _⟩ := hW
  have hA : DataW.TrodAll enc Try.prog W 0 (fun _ => true) true Try.f10.params.toList args.toList ds p := hA0
  rw [Try.params10] at hA hval hsz
  obtain ⟨v0, d0, rfl, rfl, h0⟩ := trodAll_one hA
  obtain ⟨rfl, rfl⟩ := trodVars_none hV
  clear hA0 hval0
  simp only [List.append_nil] at hW'
  have hlt : ∀ x ∈ p, x.block < W.heap.size := fun x hx => by simpa using hW'.lt x (by simpa using hx)
  have h0k := h0
  obtain ⟨n0, T0, hA0, hw0⟩ := rdY_open (hval 0 22 v0 rfl rfl) h0 (fun el sp he => sized_slice hsz (j := 0) (t := 22) (e := 55) rfl (by rw [he]; rfl) Try.underlying22)
  refine (fnExactStarSync_any0 W v0 n0 T0 hA0 hw0).mono fun e W' ⟨he, hb⟩ => ?_
  subst he
  exact ⟨_, rfl, _, _, _, [], _, [], hW', trodAll_mk1 (shut_bool Try.underlying4 true), (trodAll_mk1 (Below.trod Try.laidOut (by kernel_rfl) (of_decide_eq_true (by kernel_rfl)) h0k hb (fun x hx => hlt x (by simp [hx])))), rfl, hb.frame _, fun h => by cases h⟩

theorem fnExactStarSync_holds : Rows.FnExactStarSyncSaid :=
  OpenClaim.holds_of_wide 10 Try.f10 rfl rfl rfl rfl rfl rfl rfl ⟨rfl, rfl, rfl, rfl, rfl⟩ rfl rfl rfl rfl rfl (by kernel_rfl) Try.func10 (by kernel_rfl)
    (of_decide_eq_true (by kernel_rfl)) (by unfold Func.isWrapper; first | (rw [if_pos (by decide +kernel)]; kernel_rfl) | (rw [if_neg (by decide +kernel)]; exact ⟨rfl, rfl⟩))
    (fun os started H enc _ => fnExactStarSync_lifted os started H enc)

#print axioms fnExactStarSync_holds
end Go.Proofs.Ytdbjkgapgjmjoaa
