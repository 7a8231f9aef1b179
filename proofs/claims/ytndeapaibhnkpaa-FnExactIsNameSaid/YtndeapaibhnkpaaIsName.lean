/-
  Proved here: the law FnExactIsName returns true for every text. No condition.
-/
import Derived.Test.YtndeapaibhnkpaaBase
namespace Go.Proofs.Ytndeapaibhnkpaa
open Go.ChangeShapes Go.WideShapes Go.ChangeAt Go.RowKit

open Go.PlainAid

def smB (c : Int) : Bool := decide (97 ≤ c) && decide (c ≤ 122)
def dgB (c : Int) : Bool := decide (48 ≤ c) && decide (c ≤ 57)
/-- What byte k of a name may be. -/
def nmB (s : ByteArray) (k : Nat) : Bool := smB (bt s k) || (decide (k ≠ 0) && (dgB (bt s k) || bt s k == 45))
def nameB (s : ByteArray) : Bool := decide (1 ≤ s.size ∧ s.size ≤ 12 ∧ ∀ k, k < s.size → nmB s k = true)

theorem l01Small_any (c : Int) (w : World) : Calls Try.prog 26 #[.int .u8 c] w fun e w' => e = .returned (.bool (smB c)) ∧ w = w' := by
  cases h1 : decide (97 ≤ c) <;> cases h2 : decide (c ≤ 122)
  all_goals
    go_enter Try.func26, Try.ntmps26
    go_wp2
    go_ret
    exact ⟨ret_bool (by simp only [smB, h1, h2]; rfl), rfl⟩
theorem l01Digit_any (c : Int) (w : World) : Calls Try.prog 27 #[.int .u8 c] w fun e w' => e = .returned (.bool (dgB c)) ∧ w = w' := by
  cases h1 : decide (48 ≤ c) <;> cases h2 : decide (c ≤ 57)
  all_goals
    go_enter Try.func27, Try.ntmps27
    go_wp2
    go_ret
    exact ⟨ret_bool (by simp only [dgB, h1, h2]; rfl), rfl⟩
theorem isDigit_any (c : Int) (w : World) : Calls Try.prog 28 #[.int .u8 c] w fun e w' => e = .returned (.bool (dgB c)) ∧ w = w' := by
  cases h1 : decide (48 ≤ c) <;> cases h2 : decide (c ≤ 57)
  all_goals
    go_enter Try.func28, Try.ntmps28
    go_wp2
    go_ret
    exact ⟨ret_bool (by simp only [dgB, h1, h2]; rfl), rfl⟩

theorem nameB_no {s : ByteArray} (h : ¬ (1 ≤ s.size ∧ s.size ≤ 12)) : nameB s = false := by simp [nameB]; omega
theorem nameB_bad {s : ByteArray} {k : Nat} (hk : k < s.size) (h : nmB s k = false) : nameB s = false := by
  simp only [nameB, decide_eq_false_iff_not]
  intro hh
  have := hh.2.2 k hk
  simp [this] at h
theorem nameB_ok {s : ByteArray} (h1 : 1 ≤ s.size) (h2 : s.size ≤ 12) (h : ∀ k, k < s.size → nmB s k = true) : nameB s = true := by
  simp only [nameB, decide_eq_true_eq]
  exact ⟨h1, h2, h⟩

theorem nmB_zero {s : ByteArray} (h : smB (bt s 0) = false) : nmB s 0 = false := by simp [nmB, h]
theorem nmB_pos {s : ByteArray} {k : Nat} (h0 : smB (bt s 0) = true) : nmB s k = (smB (bt s k) || (dgB (bt s k) || bt s k == 45)) := by
  by_cases hk : k = 0
  · subst hk; simp [nmB, h0]
  · simp [nmB, hk]

set_option maxHeartbeats 4000000 in
theorem specIsName_any (s : ByteArray) (hs : s.size ≤ maxLen) (w : World) : Calls Try.prog 16 #[.string s] w fun e w' => e = .returned (.bool (nameB s)) ∧ w = w' := by
  unfold maxLen at hs
  have hbt := get_bt s
  by_cases h1 : 1 ≤ s.size
  · have hne := str_ne h1
    by_cases h2 : s.size ≤ 12
    · have hd : decide ((12 : Int) < (s.size : Int)) = false := by simp; omega
      cases h0 : smB (bt s 0)
      · go_enter Try.func16, Try.ntmps16
        go_wp2_with (go_at_call 26; refine (l01Small_any _ _).mono ?_; rintro e w' ⟨rfl, rfl⟩)
        go_ret
        exact ⟨ret_bool (nameB_bad (k := 0) (by omega) (nmB_zero h0)).symm, rfl⟩
      · go_enter Try.func16, Try.ntmps16
        go_wp2_with (go_at_call 26; refine (l01Small_any _ _).mono ?_; rintro e w' ⟨rfl, rfl⟩)
        go_loop [3] (fun i => ∃ k : Nat, k ≤ s.size ∧ i = .int .i64 k ∧ ∀ j, j < k → nmB s j = true) (fun i => s.size - (intOf i).toNat)
        case atStart => exact ⟨0, Nat.zero_le _, rfl, fun j hj => absurd hj (Nat.not_lt_zero j)⟩
        case round =>
          obtain ⟨k, hk, rfl, heq⟩ := hrel
          have Heq := Lib.hid heq
          have H0 := Lib.hid h0
          clear heq h0
          by_cases hlt : k < s.size
          · cases c1 : smB (bt s k) <;> cases c2 : dgB (bt s k) <;> cases c3 : (bt s k == 45)
            all_goals
              have c3' : (bt s k != 45) = !(bt s k == 45) := rfl
              rw [c3] at c3'
              go_wp2_with (first | (go_at_call 26; refine (l01Small_any _ _).mono ?_; rintro e w' ⟨rfl, rfl⟩) | (go_at_call 27; refine (l01Digit_any _ _).mono ?_; rintro e w' ⟨rfl, rfl⟩))
              first
                | (go_ret; exact ⟨ret_bool (nameB_bad hlt (by rw [nmB_pos H0.out, c1, c2, c3]; rfl)).symm, rfl⟩)
                | (go_round
                   case rel =>
                     refine ⟨k + 1, by omega, by go_num, fun j hj => ?_⟩
                     by_cases hjk : j = k
                     · rw [hjk, nmB_pos H0.out, c1, c2, c3]; rfl
                     · exact Heq.out j (by omega)
                   case measure => simp [intOf]; omega)
          · go_wp2
            go_ret
            exact ⟨ret_bool (nameB_ok h1 h2 (fun j hj => Heq.out j (by omega))).symm, rfl⟩
    · have hd : decide ((12 : Int) < (s.size : Int)) = true := by simp; omega
      go_enter Try.func16, Try.ntmps16
      go_wp2
      go_ret
      exact ⟨ret_bool (nameB_no (by omega)).symm, rfl⟩
  · have hne := str_nil (s := s) (by omega)
    go_enter Try.func16, Try.ntmps16
    go_wp2
    go_ret
    exact ⟨ret_bool (nameB_no (by omega)).symm, rfl⟩

set_option maxHeartbeats 4000000 in
theorem implIsName_any (s : ByteArray) (hs : s.size ≤ maxLen) (w : World) : Calls Try.prog 17 #[.string s] w fun e w' => e = .returned (.bool (nameB s)) ∧ w = w' := by
  unfold maxLen at hs
  have hbt := get_bt s
  by_cases h1 : 1 ≤ s.size
  · have hne : ((s.size : Int) == 0) = false := beq_eq_false_iff_ne.2 (by omega)
    by_cases h2 : s.size ≤ 12
    · have hd : decide ((12 : Int) < (s.size : Int)) = false := by simp; omega
      go_enter Try.func17, Try.ntmps17
      go_wp2
      go_loop [15] (fun i => ∃ k : Nat, k ≤ s.size ∧ i = .int .i64 k ∧ ∀ j, j < k → nmB s j = true) (fun i => s.size - (intOf i).toNat)
      case atStart => exact ⟨0, Nat.zero_le _, rfl, fun j hj => absurd hj (Nat.not_lt_zero j)⟩
      case round =>
        obtain ⟨k, hk, rfl, heq⟩ := hrel
        have Heq := Lib.hid heq
        clear heq
        by_cases hlt : k < s.size
        · have hz : ((k : Int) == 0) = decide (k = 0) := by
            rw [Bool.eq_iff_iff]; simp
          cases c1 : decide (97 ≤ bt s k) <;> cases c4 : decide (bt s k ≤ 122) <;> cases c2 : dgB (bt s k) <;> cases c3 : (bt s k == 45) <;> cases c5 : decide (k = 0)
          all_goals
            have hnm : nmB s k = ((decide (97 ≤ bt s k) && decide (bt s k ≤ 122)) || ((!decide (k = 0)) && (dgB (bt s k) || bt s k == 45))) := by simp [nmB, smB]
            rw [c1, c4, c2, c3, c5] at hnm
            have Hnm := Lib.hid hnm
            rw [c5] at hz
            have c3' : (bt s k != 45) = !(bt s k == 45) := rfl
            rw [c3] at c3'
            clear hnm c5
            go_wp2_with (go_at_call 28; refine (isDigit_any _ _).mono ?_; rintro e w' ⟨rfl, rfl⟩)
            first
              | (go_ret; exact ⟨ret_bool (nameB_bad hlt (by rw [Hnm.out]; rfl)).symm, rfl⟩)
              | (go_round
                 case rel =>
                   refine ⟨k + 1, by omega, by go_num, fun j hj => ?_⟩
                   by_cases hjk : j = k
                   · rw [hjk, Hnm.out]; rfl
                   · exact Heq.out j (by omega)
                 case measure => simp [intOf]; omega)
        · go_wp2
          go_ret
          exact ⟨ret_bool (nameB_ok h1 h2 (fun j hj => Heq.out j (by omega))).symm, rfl⟩
    · have hd : decide ((12 : Int) < (s.size : Int)) = true := by simp; omega
      go_enter Try.func17, Try.ntmps17
      go_wp2
      go_ret
      exact ⟨ret_bool (nameB_no (by omega)).symm, rfl⟩
  · have hne : ((s.size : Int) == 0) = true := beq_iff_eq.2 (by omega)
    go_enter Try.func17, Try.ntmps17
    go_wp2
    go_ret
    exact ⟨ret_bool (nameB_no (by omega)).symm, rfl⟩

set_option maxHeartbeats 400000 in
theorem isName_any (s : ByteArray) (hs : s.size ≤ maxLen) (w : World) : Calls Try.prog 7 #[.string s] w fun e w' => e = .returned (.bool true) ∧ Below w.heap.size w w' := by
  obtain ⟨r, hr⟩ : ∃ r : Bool, r = nameB s := ⟨_, rfl⟩
  have c1 := specIsName_any s hs w
  have c2 := implIsName_any s hs w
  rw [← hr] at c1 c2
  have C1 := Lib.hid c1
  have C2 := Lib.hid c2
  clear c1 c2 hr
  cases r
  all_goals
    go_enter Try.func7, Try.ntmps7
    go_wp2_with (first | (go_at_call 16; refine C1.out.mono ?_; rintro e w' ⟨rfl, rfl⟩) | (go_at_call 17; refine C2.out.mono ?_; rintro e w' ⟨rfl, rfl⟩))
    all_goals
      go_ret
      exact ⟨rfl, Below.refl _ _⟩

set_option maxRecDepth 100000 in
theorem fnExactIsName_lifted (os : Os) (started : os.Started) (H : Type) (enc : TypeId × Value → H) :
    ReturnsInHanded {} Try.checked os 7 .any (Rows.fnExactIsNameSpec.pre6 enc Try.prog Try.f7 Rows.fnExactIsNameRow.domain false) (Rows.fnExactIsNameSpec.post enc Try.prog Try.f7 false true false false) := by
  refine returnsInHanded_of_change_sized (C := Try.checked) Try.own started (by kernel_rfl) Try.func7
    (ChangeSpec.witness6 (enc := enc) (C := Try.checked) false ⟨#[], #[.string ⟨#[]⟩], []⟩ 8 (by kernel_rfl) (by kernel_rfl) (by kernel_rfl) (by kernel_rfl)) ?_
  intro W base args ds gs before hval0 hW _ hsz0 _
  have hsz : (DataW.weightsEach Try.prog (Try.f7.params.toList ++ Rows.fnExactIsNameSpec.plain.varTypes Try.prog) (ds ++ gs)).all (· ≤ reachBytes) = true := hsz0
  clear hsz0
  have hval : ∀ (j : Nat) t v, Try.f7.params[j]? = some t → args[j]? = some v → Value.okWide Try.prog W .any base t v := hval0
  have hW' := hW
  obtain ⟨p, q, hA0, hV, rfl, _, _⟩ := hW
  have hA : DataW.TrodAll enc Try.prog W 0 (fun _ => true) true Try.f7.params.toList args.toList ds p := hA0
  rw [Try.params7] at hA hval hsz
  obtain ⟨v0, d0, rfl, rfl, h0⟩ := trodAll_one hA
  obtain ⟨rfl, rfl⟩ := trodVars_none hV
  clear hA0 hval0
  simp only [List.append_nil] at hW'
  have hlt : ∀ x ∈ p, x.block < W.heap.size := fun x hx => by simpa using hW'.lt x hx
  have h0k := h0
  obtain ⟨s0, rfl, rfl, rfl, hs0⟩ := Go.ChangeMaps.open_string Try.underlying9 (hval 0 9 v0 rfl rfl) h0
  refine (isName_any s0 hs0 W).mono fun e W' ⟨he, hb⟩ => ?_
  subst he
  exact ⟨_, rfl, _, _, _, [], _, [], hW', trodAll_mk1 (shut_bool Try.underlying4 true), (trodAll_mk1 (Below.trod Try.laidOut (by kernel_rfl) (of_decide_eq_true (by kernel_rfl)) h0k hb (fun x hx => hlt x (by simp [hx])))), rfl, hb.frame _, fun h => by cases h⟩

theorem fnExactIsName_holds : Rows.FnExactIsNameSaid :=
  OpenClaim.holds_of_wide 7 Try.f7 rfl rfl rfl rfl rfl rfl rfl ⟨rfl, rfl, rfl, rfl, rfl⟩ rfl rfl rfl rfl rfl (by kernel_rfl) Try.func7 (by kernel_rfl)
    (of_decide_eq_true (by kernel_rfl)) (by unfold Func.isWrapper; first | (rw [if_pos (by decide +kernel)]; kernel_rfl) | (rw [if_neg (by decide +kernel)]; exact ⟨rfl, rfl⟩))
    (fun os started H enc _ => fnExactIsName_lifted os started H enc)

#print axioms fnExactIsName_holds
end Go.Proofs.Ytndeapaibhnkpaa
