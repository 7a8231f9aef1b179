/-
  Proved here: the law FnExactSyncText returns true for all inputs. No condition.
-/
import Derived.Test.YtdbjkgapgjmjoaaY7
namespace Go.Proofs.Ytdbjkgapgjmjoaa
open Go.ChangeShapes Go.WideShapes Go.ChangeAt Go.RowKit


set_option maxHeartbeats 4000000 in
theorem fnExactSyncText_any0 (W : World) (v0 : Value) (n0 : Nat) (T0 : List Th) (hA0 : RdT 2 W v0 n0 T0) (_hw0 : ∀ k, k < n0 * 2 → (Lit.int .i64 (gt T0 k).1).wf = true) : Calls Try.prog 8 #[v0] W fun e w' => e = .returned (.bool true) ∧ Below W.heap.size W w' := by
  obtain ⟨ht0, hl0, a0, c0, rfl, hc0⟩ := hA0
  have hA0 : RdT 2 W (.slice a0 n0 c0) n0 T0 := ⟨ht0, hl0, a0, c0, rfl, hc0⟩
  clear hc0
  have hB : Below W.heap.size W W := Below.refl _ _
  go_enter Try.func8, Try.ntmps8
  by_cases hgz0 : (n0 : Int) ≤ 1048576
  rotate_left
  · go_wp2_with fail
    with_reducible refine (szSyncBeatS_no (.slice a0 n0 c0) n0 T0 (1048576) _ (hA0.below hB) (by omega) (by omega) (by omega)).mono ?_
    rintro e w' ⟨rfl, hb⟩
    go_wp2
    go_ret
    exact ⟨rfl, below_step hB hb hB.size⟩
  go_wp2_with fail
  with_reducible refine (szSyncBeatS_yes (.slice a0 n0 c0) n0 T0 (1048576) _ (hA0.below hB) (by omega) (by omega) (by omega)).mono ?_
  rintro e w1 ⟨rfl, hb⟩
  have hs_1 := hb.size
  replace hB := below_step hB hb hB.size
  clear hb
  go_wp2_with fail
  with_reducible refine (toSyncBeatS_any (.slice a0 n0 c0) n0 T0 _ (hA0.below hB)).mono ?_
  rintro e w2 ⟨u1, rfl, h1, hb⟩
  have hs_2 := hb.size
  replace hB := below_step hB hb hB.size
  clear hb
  go_wp2_with fail
  with_reducible refine (specSyncText_any u1 n0 T0 _ h1.rd ).mono ?_
  rintro e w3 ⟨rfl, hb⟩
  have hs_3 := hb.size
  replace h1 := h1.below hb
  replace hB := below_step hB hb hB.size
  clear hb
  clear h1
  go_wp2_with fail
  with_reducible refine (toSyncBeatS_any (.slice a0 n0 c0) n0 T0 _ (hA0.below hB)).mono ?_
  rintro e w4 ⟨u2, rfl, h2, hb⟩
  have hs_4 := hb.size
  replace hB := below_step hB hb hB.size
  clear hb
  go_wp2_with fail
  with_reducible refine (implSyncText_any u2 n0 T0 _ h2.rd ).mono ?_
  rintro e w5 ⟨rfl, hb⟩
  have hs_5 := hb.size
  replace h2 := h2.below hb
  replace hB := below_step hB hb hB.size
  clear hb
  go_wp2_with fail
  with_reducible refine (toSyncBeatS_any (.slice a0 n0 c0) n0 T0 _ (hA0.below hB)).mono ?_
  rintro e w6 ⟨u3, rfl, h3, hb⟩
  have hs_6 := hb.size
  replace h2 := h2.below hb
  replace hB := below_step hB hb hB.size
  clear hb
  go_wp2_with fail
  with_reducible refine (eqSyncBeatS_same u2 u3 n0 T0 _ h2.rd h3.rd).mono ?_
  rintro e w7 ⟨rfl, hb⟩
  have hs_7 := hb.size
  replace h2 := h2.below hb
  replace h3 := h3.below hb
  replace hB := below_step hB hb hB.size
  clear hb
  clear h3
  go_wp2
  go_ret
  exact ⟨rfl, hB⟩

set_option maxRecDepth 100000 in
theorem fnExactSyncText_lifted (os : Os) (started : os.Started) (H : Type) (enc : TypeId × Value → H) :
    ReturnsInHanded {} Try.checked os 8 .any (Rows.fnExactSyncTextSpec.pre6 enc Try.prog Try.f8 Rows.fnExactSyncTextRow.domain false) (Rows.fnExactSyncTextSpec.post enc Try.prog Try.f8 false true false false) := by
  refine returnsInHanded_of_change_sized (C := Try.checked) Try.own started (by kernel_rfl) Try.func8
    (ChangeSpec.witness6 (enc := enc) (C := Try.checked) false ⟨#[], #[.slice none 0 0], []⟩ 8 (by kernel_rfl) (by kernel_rfl) (by kernel_rfl) (by kernel_rfl)) ?_
  intro W base args ds gs before hval0 hW _ hsz0 _
  have hsz : (DataW.weightsEach Try.prog (Try.f8.params.toList ++ Rows.fnExactSyncTextSpec.plain.varTypes Try.prog) (ds ++ gs)).all (· ≤ reachBytes) = true := hsz0
  clear hsz0
  have hval : ∀ (j : Nat) t v, Try.f8.params[j]? = some t → args[j]? = some v → Value.okWide Try.prog W .any base t v := hval0
  have hW' := hW
  obtain ⟨p, q, hA0, hV, rfl, _, _⟩ := hW
  have hA : DataW.TrodAll enc Try.prog W 0 (fun _ => true) true Try.f8.params.toList args.toList ds p := hA0
  rw [Try.params8] at hA hval hsz
  obtain ⟨v0, d0, rfl, rfl, h0⟩ := trodAll_one hA
  obtain ⟨rfl, rfl⟩ := trodVars_none hV
  clear hA0 hval0
  simp only [List.append_nil] at hW'
  have hlt : ∀ x ∈ p, x.block < W.heap.size := fun x hx => by simpa using hW'.lt x (by simpa using hx)
  have h0k := h0
  obtain ⟨n0, T0, hA0, hw0⟩ := rdY_open (hval 0 22 v0 rfl rfl) h0 (fun el sp he => sized_slice hsz (j := 0) (t := 22) (e := 55) rfl (by rw [he]; rfl) Try.underlying22)
  refine (fnExactSyncText_any0 W v0 n0 T0 hA0 hw0).mono fun e W' ⟨he, hb⟩ => ?_
  subst he
  exact ⟨_, rfl, _, _, _, [], _, [], hW', trodAll_mk1 (shut_bool Try.underlying4 true), (trodAll_mk1 (Below.trod Try.laidOut (by kernel_rfl) (of_decide_eq_true (by kernel_rfl)) h0k hb (fun x hx => hlt x (by simp [hx])))), rfl, hb.frame _, fun h => by cases h⟩

theorem fnExactSyncText_holds : Rows.FnExactSyncTextSaid :=
  OpenClaim.holds_of_wide 8 Try.f8 rfl rfl rfl rfl rfl rfl rfl ⟨rfl, rfl, rfl, rfl, rfl⟩ rfl rfl rfl rfl rfl (by kernel_rfl) Try.func8 (by kernel_rfl)
    (of_decide_eq_true (by kernel_rfl)) (by unfold Func.isWrapper; first | (rw [if_pos (by decide +kernel)]; kernel_rfl) | (rw [if_neg (by decide +kernel)]; exact ⟨rfl, rfl⟩))
    (fun os started H enc _ => fnExactSyncText_lifted os started H enc)

#print axioms fnExactSyncText_holds
end Go.Proofs.Ytdbjkgapgjmjoaa
