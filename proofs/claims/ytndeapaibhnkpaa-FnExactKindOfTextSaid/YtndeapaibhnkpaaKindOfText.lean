/-
  Proved here: the law FnExactKindOfText returns true for every text. No condition.
-/
import Derived.Test.YtndeapaibhnkpaaBase
namespace Go.Proofs.Ytndeapaibhnkpaa
open Go.ChangeShapes Go.WideShapes Go.ChangeAt Go.RowKit

open Go.PlainAid

/-- The text has the byte c. -/
def hasB (s : ByteArray) (c : Int) : Bool := decide (∃ k, k < s.size ∧ bt s k = c)

set_option maxHeartbeats 400000 in
theorem l07Has_any (s : ByteArray) (c : Int) (hs : s.size ≤ maxLen) (w : World) : Calls Try.prog 29 #[.string s, .int .u8 c] w fun e w' => e = .returned (.bool (hasB s c)) ∧ w = w' := by
  unfold maxLen at hs
  have hbt := get_bt s
  go_enter Try.func29, Try.ntmps29
  go_wp2
  go_loop [5] (fun i => ∃ k : Nat, k ≤ s.size ∧ i = .int .i64 k ∧ ∀ j, j < k → bt s j ≠ c) (fun i => s.size - (intOf i).toNat)
  case atStart => exact ⟨0, Nat.zero_le _, rfl, fun j hj => absurd hj (Nat.not_lt_zero j)⟩
  case round =>
    obtain ⟨k, hk, rfl, heq⟩ := hrel
    have Heq := Lib.hid heq
    clear heq
    by_cases hlt : k < s.size
    · go_wp2
      · go_ret
        have he : (bt s k == c) = true := by assumption
        exact ⟨by simp [hasB]; exact ⟨k, hlt, by simpa using he⟩, rfl⟩
      · go_round
        case rel =>
          have he : (bt s k == c) = false := by assumption
          refine ⟨k + 1, by omega, by go_num, fun j hj => ?_⟩
          by_cases hjk : j = k
          · rw [hjk]; simpa using he
          · exact Heq.out j (by omega)
        case measure => simp [intOf]; omega
    · go_wp2
      go_ret
      exact ⟨by simp [hasB]; exact fun j hj => Heq.out j (by omega), rfl⟩

set_option maxHeartbeats 400000 in
theorem hasByte_any (s : ByteArray) (c : Int) (hs : s.size ≤ maxLen) (w : World) : Calls Try.prog 30 #[.string s, .int .u8 c] w fun e w' => e = .returned (.bool (hasB s c)) ∧ w = w' := by
  unfold maxLen at hs
  have hbt := get_bt s
  go_enter Try.func30, Try.ntmps30
  go_wp2
  go_loop [8] (fun i => ∃ k : Nat, k ≤ s.size ∧ i = .int .i64 k ∧ ∀ j, j < k → bt s j ≠ c) (fun i => s.size - (intOf i).toNat)
  case atStart => exact ⟨0, Nat.zero_le _, rfl, fun j hj => absurd hj (Nat.not_lt_zero j)⟩
  case round =>
    obtain ⟨k, hk, rfl, heq⟩ := hrel
    have Heq := Lib.hid heq
    clear heq
    by_cases hlt : k < s.size
    · go_wp2
      · go_ret
        have he : (bt s k == c) = true := by assumption
        exact ⟨by simp [hasB]; exact ⟨k, hlt, by simpa using he⟩, rfl⟩
      · go_round
        case rel =>
          have he : (bt s k == c) = false := by assumption
          refine ⟨k + 1, by omega, by go_num, fun j hj => ?_⟩
          by_cases hjk : j = k
          · rw [hjk]; simpa using he
          · exact Heq.out j (by omega)
        case measure => simp [intOf]; omega
    · go_wp2
      go_ret
      exact ⟨by simp [hasB]; exact fun j hj => Heq.out j (by omega), rfl⟩

set_option maxHeartbeats 400000 in
theorem specKind_any (s : ByteArray) (hs : s.size ≤ maxLen) (w : World) : Calls Try.prog 18 #[.string s] w fun e w' => e = .returned (.int .i64 (if hasB s 60 then 4 else if hasB s 40 then 3 else if hasB s 91 then 2 else 1)) ∧ w = w' := by
  cases h1 : hasB s 60 <;> cases h2 : hasB s 40 <;> cases h3 : hasB s 91
  all_goals
    go_enter Try.func18, Try.ntmps18
    go_wp2_with (go_at_call 29; refine (l07Has_any s _ hs _).mono ?_; rintro e w' ⟨rfl, rfl⟩)
    go_ret
    exact ⟨rfl, rfl⟩

set_option maxHeartbeats 400000 in
theorem implKind_any (s : ByteArray) (hs : s.size ≤ maxLen) (w : World) : Calls Try.prog 19 #[.string s] w fun e w' => e = .returned (.int .i64 (if hasB s 60 then 4 else if hasB s 40 then 3 else if hasB s 91 then 2 else 1)) ∧ w = w' := by
  cases h1 : hasB s 60 <;> cases h2 : hasB s 40 <;> cases h3 : hasB s 91
  all_goals
    go_enter Try.func19, Try.ntmps19
    go_wp2_with (go_at_call 30; refine (hasByte_any s _ hs _).mono ?_; rintro e w' ⟨rfl, rfl⟩)
    go_ret
    exact ⟨rfl, rfl⟩

set_option maxHeartbeats 400000 in
theorem kindOfText_any (s : ByteArray) (hs : s.size ≤ maxLen) (w : World) : Calls Try.prog 8 #[.string s] w fun e w' => e = .returned (.bool true) ∧ Below w.heap.size w w' := by
  obtain ⟨r, hr⟩ : ∃ r : Int, r = (if hasB s 60 then 4 else if hasB s 40 then 3 else if hasB s 91 then 2 else 1) := ⟨_, rfl⟩
  have c1 := specKind_any s hs w
  have c2 := implKind_any s hs w
  rw [← hr] at c1 c2
  have C1 := Lib.hid c1
  have C2 := Lib.hid c2
  clear c1 c2 hr
  go_enter Try.func8, Try.ntmps8
  go_wp2_with (first | (go_at_call 18; refine C1.out.mono ?_; rintro e w' ⟨rfl, rfl⟩) | (go_at_call 19; refine C2.out.mono ?_; rintro e w' ⟨rfl, rfl⟩))
  all_goals
    go_ret
    exact ⟨rfl, Below.refl _ _⟩

set_option maxRecDepth 100000 in
theorem fnExactKindOfText_lifted (os : Os) (started : os.Started) (H : Type) (enc : TypeId × Value → H) :
    ReturnsInHanded {} Try.checked os 8 .any (Rows.fnExactKindOfTextSpec.pre6 enc Try.prog Try.f8 Rows.fnExactKindOfTextRow.domain false) (Rows.fnExactKindOfTextSpec.post enc Try.prog Try.f8 false true false false) := by
  refine returnsInHanded_of_change_sized (C := Try.checked) Try.own started (by kernel_rfl) Try.func8
    (ChangeSpec.witness6 (enc := enc) (C := Try.checked) false ⟨#[], #[.string ⟨#[]⟩], []⟩ 8 (by kernel_rfl) (by kernel_rfl) (by kernel_rfl) (by kernel_rfl)) ?_
  intro W base args ds gs before hval0 hW _ hsz0 _
  have hsz : (DataW.weightsEach Try.prog (Try.f8.params.toList ++ Rows.fnExactKindOfTextSpec.plain.varTypes Try.prog) (ds ++ gs)).all (· ≤ reachBytes) = true := hsz0
  clear hsz0
  have hval : ∀ (j : Nat) t v, Try.f8.params[j]? = some t → args[j]? = some v → Value.okWide Try.prog W .any base t v := hval0
  have hW' := hW
  obtain ⟨p, q, hA0, hV, rfl, _, _⟩ := hW
  have hA : DataW.TrodAll enc Try.prog W 0 (fun _ => true) true Try.f8.params.toList args.toList ds p := hA0
  rw [Try.params8] at hA hval hsz
  obtain ⟨v0, d0, rfl, rfl, h0⟩ := trodAll_one hA
  obtain ⟨rfl, rfl⟩ := trodVars_none hV
  clear hA0 hval0
  simp only [List.append_nil] at hW'
  have hlt : ∀ x ∈ p, x.block < W.heap.size := fun x hx => by simpa using hW'.lt x hx
  have h0k := h0
  obtain ⟨s0, rfl, rfl, rfl, hs0⟩ := Go.ChangeMaps.open_string Try.underlying9 (hval 0 9 v0 rfl rfl) h0
  refine (kindOfText_any s0 hs0 W).mono fun e W' ⟨he, hb⟩ => ?_
  subst he
  exact ⟨_, rfl, _, _, _, [], _, [], hW', trodAll_mk1 (shut_bool Try.underlying4 true), (trodAll_mk1 (Below.trod Try.laidOut (by kernel_rfl) (of_decide_eq_true (by kernel_rfl)) h0k hb (fun x hx => hlt x (by simp [hx])))), rfl, hb.frame _, fun h => by cases h⟩

theorem fnExactKindOfText_holds : Rows.FnExactKindOfTextSaid :=
  OpenClaim.holds_of_wide 8 Try.f8 rfl rfl rfl rfl rfl rfl rfl ⟨rfl, rfl, rfl, rfl, rfl⟩ rfl rfl rfl rfl rfl (by kernel_rfl) Try.func8 (by kernel_rfl)
    (of_decide_eq_true (by kernel_rfl)) (by unfold Func.isWrapper; first | (rw [if_pos (by decide +kernel)]; kernel_rfl) | (rw [if_neg (by decide +kernel)]; exact ⟨rfl, rfl⟩))
    (fun os started H enc _ => fnExactKindOfText_lifted os started H enc)

#print axioms fnExactKindOfText_holds
end Go.Proofs.Ytndeapaibhnkpaa
