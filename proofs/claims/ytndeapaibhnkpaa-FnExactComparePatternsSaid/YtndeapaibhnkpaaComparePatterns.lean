/-
  Proved here: the law FnExactComparePatterns returns true for all lists of numbers. No condition.
-/
import Derived.Test.YtndeapaibhnkpaaInts
namespace Go.Proofs.Ytndeapaibhnkpaa
open Go.ChangeShapes Go.WideShapes Go.ChangeAt Go.RowKit


/-- How two lists of numbers compare: by length, then number by number. -/
def cmpL (A B : List Int) : Int :=
  if A.length < B.length then -1 else if B.length < A.length then 1 else cmpE A B
where
  cmpE : List Int → List Int → Int
  | a :: A, b :: B => if a < b then -1 else if b < a then 1 else cmpE A B
  | _, _ => 0

theorem cmpE_at (A B : List Int) : ∀ k, k < A.length → k < B.length → (∀ j, j < k → gi A j = gi B j) →
    (gi A k < gi B k → cmpL.cmpE A B = -1) ∧ (gi B k < gi A k → cmpL.cmpE A B = 1) := by
  induction A generalizing B with
  | nil => intro k hk; cases hk
  | cons a A ih =>
    cases B with
    | nil => intro k _ hk; cases hk
    | cons b B =>
      intro k h1 h2 h
      cases k with
      | zero =>
        simp only [gi, List.getD_cons_zero]
        constructor
        · intro hlt; simp [cmpL.cmpE, hlt]
        · intro hlt; simp [cmpL.cmpE, hlt]; omega
      | succ k =>
        have e0 := h 0 (Nat.succ_pos _)
        simp only [gi, List.getD_cons_zero] at e0
        subst e0
        have := ih B k (by simpa using h1) (by simpa using h2) (fun j hj => by have := h (j + 1) (by omega); simpa [gi] using this)
        simpa [gi, cmpL.cmpE] using this
theorem cmpE_same (A B : List Int) (hl : A.length = B.length) (h : ∀ j, j < A.length → gi A j = gi B j) : cmpL.cmpE A B = 0 := by
  obtain rfl := gi_ext hl h
  clear hl h
  induction A with
  | nil => rfl
  | cons a A ih => simp [cmpL.cmpE, ih]

theorem cmpL_lt {A B : List Int} (h : A.length < B.length) : cmpL A B = -1 := by simp [cmpL, h]
theorem cmpL_gt {A B : List Int} (h : B.length < A.length) : cmpL A B = 1 := by simp only [cmpL, if_neg (show ¬ A.length < B.length by omega), if_pos h]
theorem cmpL_eq {A B : List Int} (h : A.length = B.length) : cmpL A B = cmpL.cmpE A B := by simp only [cmpL, if_neg (show ¬ A.length < B.length by omega), if_neg (show ¬ B.length < A.length by omega)]

set_option maxHeartbeats 1000000 in
theorem l02Compare_any (va : Value) (A : List Int) (vb : Value) (B : List Int) (w : World) (hA : Rd w va A) (hB : Rd w vb B) :
    Calls Try.prog 31 #[va, vb] w fun e w' => e = .returned (.int .i64 (cmpL A B)) ∧ ∃ n, w' = w.drewN n := by
  obtain ⟨la, a, ca, rfl, ha⟩ := hA
  obtain ⟨lb, b, cb, rfl, hb⟩ := hB
  by_cases h1 : A.length < B.length
  · go_enter Try.func31, Try.ntmps31
    go_wp2
    go_ret
    exact ⟨ret_int (cmpL_lt h1).symm, 0, rfl⟩
  by_cases h2 : B.length < A.length
  · go_enter Try.func31, Try.ntmps31
    go_wp2
    go_ret
    exact ⟨ret_int (cmpL_gt h2).symm, 0, rfl⟩
  have HL : Hid (A.length = B.length) := by have : A.length = B.length := by omega
                                            exact this
  have d1 : ((A.length : Int) != (B.length : Int)) = false := by simp; omega
  clear h1 h2
  go_enter Try.func31, Try.ntmps31
  go_wp2
  go_loopw [5] (fun i wr => ∃ k n : Nat, k ≤ A.length ∧ i = .int .i64 k ∧ (∀ j, j < k → gi A j = gi B j) ∧ wr = w.drewN n) (fun i _ => A.length - (intOf i).toNat)
  case atStart => exact ⟨0, 0, Nat.zero_le _, rfl, fun j hj => absurd hj (Nat.not_lt_zero j), rfl⟩
  case round =>
    obtain ⟨k, n, hk, rfl, heq, rfl⟩ := hrel
    have Heq := Lib.hid heq
    clear heq
    by_cases hlt : k < A.length
    · have hltB : k < B.length := by have := HL.out; omega
      obtain ⟨ba, oa, rfl, hba, hca⟩ := ha (by omega)
      obtain ⟨bb, ob, rfl, hbb, hcb⟩ := hb (by omega)
      have h1 := hca k hlt
      have h2 := hcb k hltB
      have hx := Lib.hid (cmpE_at A B k hlt hltB Heq.out)
      clear hca hcb ha hb
      go_wp2
      go_quiet (fail)
      go_wp2
      · go_ret
        have hc : gi A k < gi B k := by assumption
        exact ⟨ret_int (by rw [cmpL_eq HL.out, hx.out.1 hc]), n + nq, World.drewN_drewN _ _ _⟩
      · go_quiet (fail)
        go_wp2
        · go_ret
          have hc : gi B k < gi A k := by assumption
          exact ⟨ret_int (by rw [cmpL_eq HL.out, hx.out.2 hc]), _, dd3 _ _ _ _⟩
        · go_roundw
          case rel =>
            have hc1 : gi B k ≤ gi A k := by assumption
            have hc2 : gi A k ≤ gi B k := by assumption
            refine ⟨k + 1, _, by omega, by go_num, fun j hj => ?_, rfl⟩
            by_cases hjk : j = k
            · rw [hjk]; omega
            · exact Heq.out j (by omega)
          case measure => simp [intOf]; omega
    · go_wp2
      go_ret
      exact ⟨ret_int (by rw [cmpL_eq HL.out, cmpE_same A B HL.out (fun j hj => Heq.out j (by omega))]), n, rfl⟩

theorem specCompare_any (va : Value) (A : List Int) (vb : Value) (B : List Int) (w : World) (hA : Rd w va A) (hB : Rd w vb B) :
    Calls Try.prog 20 #[va, vb] w fun e w' => e = .returned (.int .i64 (cmpL A B)) ∧ Below w.heap.size w w' := by
  go_enter Try.func20, Try.ntmps20
  go_wp2_with fail
  refine (l02Compare_any va A vb B _ hA hB).mono ?_
  rintro e w' ⟨rfl, n, rfl⟩
  go_wp2
  go_ret
  exact ⟨rfl, below_dn _ _⟩

set_option maxHeartbeats 1000000 in
theorem implCompare_any (va : Value) (A : List Int) (vb : Value) (B : List Int) (w : World) (hA : Rd w va A) (hB : Rd w vb B) :
    Calls Try.prog 22 #[va, vb] w fun e w' => e = .returned (.int .i64 (cmpL A B)) ∧ Below w.heap.size w w' := by
  obtain ⟨la, a, ca, rfl, ha⟩ := hA
  obtain ⟨lb, b, cb, rfl, hb⟩ := hB
  by_cases h1 : A.length < B.length
  · go_enter Try.func22, Try.ntmps22
    go_wp2
    go_ret
    exact ⟨ret_int (cmpL_lt h1).symm, Below.refl _ _⟩
  by_cases h2 : B.length < A.length
  · go_enter Try.func22, Try.ntmps22
    go_wp2
    go_ret
    exact ⟨ret_int (cmpL_gt h2).symm, Below.refl _ _⟩
  have HL : Hid (A.length = B.length) := by have : A.length = B.length := by omega
                                            exact this
  go_enter Try.func22, Try.ntmps22
  go_wp2
  go_loopw [20] (fun i wr => ∃ k n : Nat, k ≤ A.length ∧ i = .int .i64 k ∧ (∀ j, j < k → gi A j = gi B j) ∧ wr = w.drewN n) (fun i _ => A.length - (intOf i).toNat)
  case atStart => exact ⟨0, 0, Nat.zero_le _, rfl, fun j hj => absurd hj (Nat.not_lt_zero j), rfl⟩
  case round =>
    obtain ⟨k, n, hk, rfl, heq, rfl⟩ := hrel
    have Heq := Lib.hid heq
    clear heq
    by_cases hlt : k < A.length
    · have hltB : k < B.length := by have := HL.out; omega
      obtain ⟨ba, oa, rfl, hba, hca⟩ := ha (by omega)
      obtain ⟨bb, ob, rfl, hbb, hcb⟩ := hb (by omega)
      have h1 := hca k hlt
      have h2 := hcb k hltB
      have hx := Lib.hid (cmpE_at A B k hlt hltB Heq.out)
      clear hca hcb ha hb
      go_wp2
      go_quiet (fail)
      go_wp2
      · go_ret
        have hc : gi A k < gi B k := by assumption
        exact ⟨ret_int (by rw [cmpL_eq HL.out, hx.out.1 hc]), below_dn2 w _ _⟩
      · go_quiet (fail)
        go_wp2
        · go_ret
          have hc : gi B k < gi A k := by assumption
          exact ⟨ret_int (by rw [cmpL_eq HL.out, hx.out.2 hc]), below_dn3 w _ _ _⟩
        · go_roundw
          case rel =>
            have hc1 : gi B k ≤ gi A k := by assumption
            have hc2 : gi A k ≤ gi B k := by assumption
            refine ⟨k + 1, _, by omega, by go_num, fun j hj => ?_, rfl⟩
            by_cases hjk : j = k
            · rw [hjk]; omega
            · exact Heq.out j (by omega)
          case measure => simp [intOf]; omega
    · go_wp2
      go_ret
      exact ⟨ret_int (by rw [cmpL_eq HL.out, cmpE_same A B HL.out (fun j hj => Heq.out j (by omega))]), below_dn w _⟩

set_option maxHeartbeats 4000000 in
theorem fnExactComparePatterns_any0 (W : World) (v0 : Value) (A0 : List Int) (hA0 : Rd W v0 A0) (_hw0 : ∀ n ∈ A0, (Lit.int .i64 n).wf = true) (v1 : Value) (A1 : List Int) (hA1 : Rd W v1 A1) (_hw1 : ∀ n ∈ A1, (Lit.int .i64 n).wf = true) : Calls Try.prog 9 #[v0, v1] W fun e w' => e = .returned (.bool true) ∧ Below W.heap.size W w' := by
  obtain ⟨hl0, a0, c0, rfl, hc0⟩ := hA0
  have hA0 : Rd W (.slice a0 A0.length c0) A0 := ⟨hl0, a0, c0, rfl, hc0⟩
  clear hc0
  obtain ⟨hl1, a1, c1, rfl, hc1⟩ := hA1
  have hA1 : Rd W (.slice a1 A1.length c1) A1 := ⟨hl1, a1, c1, rfl, hc1⟩
  clear hc1
  by_cases hg0 : A0.length ≤ 1048576
  rotate_left
  · go_enter Try.func9, Try.ntmps9
    go_wp2
    go_ret
    exact ⟨rfl, Below.refl _ _⟩
  by_cases hg1 : A1.length ≤ 1048576
  rotate_left
  · go_enter Try.func9, Try.ntmps9
    go_wp2
    go_ret
    exact ⟨rfl, Below.refl _ _⟩
  have hB : Below W.heap.size W W := Below.refl _ _
  go_enter Try.func9, Try.ntmps9
  go_wp2_with fail
  with_reducible refine (toInt64S_any (.slice a0 A0.length c0) A0 _ (hA0.below hB)).mono ?_
  rintro e w1 ⟨u1, rfl, h1, hb⟩
  have hs_1 := hb.size
  replace hB := below_step hB hb hB.size
  clear hb
  go_wp2_with fail
  with_reducible refine (toInt64S_any (.slice a1 A1.length c1) A1 _ (hA1.below hB)).mono ?_
  rintro e w2 ⟨u2, rfl, h2, hb⟩
  have hs_2 := hb.size
  replace h1 := h1.below hb
  replace hB := below_step hB hb hB.size
  clear hb
  go_wp2_with fail
  with_reducible refine (specCompare_any u1 A0 u2 A1 _ h1.rd h2.rd ).mono ?_
  rintro e w3 ⟨rfl, hb⟩
  have hs_3 := hb.size
  replace h1 := h1.below hb
  replace h2 := h2.below hb
  replace hB := below_step hB hb hB.size
  clear hb
  clear h1
  clear h2
  go_wp2_with fail
  with_reducible refine (toInt64S_any (.slice a0 A0.length c0) A0 _ (hA0.below hB)).mono ?_
  rintro e w4 ⟨u3, rfl, h3, hb⟩
  have hs_4 := hb.size
  replace hB := below_step hB hb hB.size
  clear hb
  go_wp2_with fail
  with_reducible refine (toInt64S_any (.slice a1 A1.length c1) A1 _ (hA1.below hB)).mono ?_
  rintro e w5 ⟨u4, rfl, h4, hb⟩
  have hs_5 := hb.size
  replace h3 := h3.below hb
  replace hB := below_step hB hb hB.size
  clear hb
  go_wp2_with fail
  with_reducible refine (implCompare_any u3 A0 u4 A1 _ h3.rd h4.rd ).mono ?_
  rintro e w6 ⟨rfl, hb⟩
  have hs_6 := hb.size
  replace h3 := h3.below hb
  replace h4 := h4.below hb
  replace hB := below_step hB hb hB.size
  clear hb
  go_wp2_with fail
  with_reducible refine (toInt64S_any (.slice a0 A0.length c0) A0 _ (hA0.below hB)).mono ?_
  rintro e w7 ⟨u5, rfl, h5, hb⟩
  have hs_7 := hb.size
  replace h3 := h3.below hb
  replace h4 := h4.below hb
  replace hB := below_step hB hb hB.size
  clear hb
  go_wp2_with fail
  with_reducible refine (eqInt64S_same u3 u5 A0 _ h3.rd h5.rd).mono ?_
  rintro e w8 ⟨rfl, hb⟩
  have hs_8 := hb.size
  replace h3 := h3.below hb
  replace h4 := h4.below hb
  replace h5 := h5.below hb
  replace hB := below_step hB hb hB.size
  clear hb
  clear h5
  go_wp2_with fail
  with_reducible refine (toInt64S_any (.slice a1 A1.length c1) A1 _ (hA1.below hB)).mono ?_
  rintro e w9 ⟨u6, rfl, h6, hb⟩
  have hs_9 := hb.size
  replace h3 := h3.below hb
  replace h4 := h4.below hb
  replace hB := below_step hB hb hB.size
  clear hb
  go_wp2_with fail
  with_reducible refine (eqInt64S_same u4 u6 A1 _ h4.rd h6.rd).mono ?_
  rintro e w10 ⟨rfl, hb⟩
  have hs_10 := hb.size
  replace h3 := h3.below hb
  replace h4 := h4.below hb
  replace h6 := h6.below hb
  replace hB := below_step hB hb hB.size
  clear hb
  clear h6
  go_wp2
  go_ret
  exact ⟨rfl, hB⟩

set_option maxRecDepth 100000 in
theorem fnExactComparePatterns_lifted (os : Os) (started : os.Started) (H : Type) (enc : TypeId × Value → H) :
    ReturnsInHanded {} Try.checked os 9 .any (Rows.fnExactComparePatternsSpec.pre6 enc Try.prog Try.f9 Rows.fnExactComparePatternsRow.domain false) (Rows.fnExactComparePatternsSpec.post enc Try.prog Try.f9 false true false false) := by
  refine returnsInHanded_of_change_sized (C := Try.checked) Try.own started (by kernel_rfl) Try.func9
    (ChangeSpec.witness6 (enc := enc) (C := Try.checked) false ⟨#[], #[.slice none 0 0, .slice none 0 0], []⟩ 8 (by kernel_rfl) (by kernel_rfl) (by kernel_rfl) (by kernel_rfl)) ?_
  intro W base args ds gs before hval0 hW _ hsz0 _
  have hsz : (DataW.weightsEach Try.prog (Try.f9.params.toList ++ Rows.fnExactComparePatternsSpec.plain.varTypes Try.prog) (ds ++ gs)).all (· ≤ reachBytes) = true := hsz0
  clear hsz0
  have hval : ∀ (j : Nat) t v, Try.f9.params[j]? = some t → args[j]? = some v → Value.okWide Try.prog W .any base t v := hval0
  have hW' := hW
  obtain ⟨p, q, hA0, hV, rfl, _, _⟩ := hW
  have hA : DataW.TrodAll enc Try.prog W 0 (fun _ => true) true Try.f9.params.toList args.toList ds p := hA0
  rw [Try.params9] at hA hval hsz
  obtain ⟨v0, v1, d0, d1, p0, p1, rfl, rfl, rfl, h0, h1⟩ := trodAll_two hA
  obtain ⟨rfl, rfl⟩ := trodVars_none hV
  clear hA0 hval0
  simp only [List.append_nil] at hW'
  have hlt : ∀ x ∈ p0 ++ p1, x.block < W.heap.size := fun x hx => by simpa using hW'.lt x hx
  have h0k := h0
  obtain ⟨A0, hA0, hw0⟩ := rd_open (hval 0 27 v0 rfl rfl) h0 (fun el sp he => sized_slice hsz (j := 0) (t := 27) (e := 2) rfl (by rw [he]; rfl) Try.underlying27)
  have h1k := h1
  obtain ⟨A1, hA1, hw1⟩ := rd_open (hval 1 27 v1 rfl rfl) h1 (fun el sp he => sized_slice hsz (j := 1) (t := 27) (e := 2) rfl (by rw [he]; rfl) Try.underlying27)
  refine (fnExactComparePatterns_any0 W v0 A0 hA0 hw0 v1 A1 hA1 hw1).mono fun e W' ⟨he, hb⟩ => ?_
  subst he
  exact ⟨_, rfl, _, _, _, [], _, [], hW', trodAll_mk1 (shut_bool Try.underlying4 true), (trodAll_mk2 (Below.trod Try.laidOut (by kernel_rfl) (of_decide_eq_true (by kernel_rfl)) h0k hb (fun x hx => hlt x (by simp [hx]))) (Below.trod Try.laidOut (by kernel_rfl) (of_decide_eq_true (by kernel_rfl)) h1k hb (fun x hx => hlt x (by simp [hx])))), rfl, hb.frame _, fun h => by cases h⟩

theorem fnExactComparePatterns_holds : Rows.FnExactComparePatternsSaid :=
  OpenClaim.holds_of_wide 9 Try.f9 rfl rfl rfl rfl rfl rfl rfl ⟨rfl, rfl, rfl, rfl, rfl⟩ rfl rfl rfl rfl rfl (by kernel_rfl) Try.func9 (by kernel_rfl)
    (of_decide_eq_true (by kernel_rfl)) (by unfold Func.isWrapper; first | (rw [if_pos (by decide +kernel)]; kernel_rfl) | (rw [if_neg (by decide +kernel)]; exact ⟨rfl, rfl⟩))
    (fun os started H enc _ => fnExactComparePatterns_lifted os started H enc)

#print axioms fnExactComparePatterns_holds
end Go.Proofs.Ytndeapaibhnkpaa
