/-
  Contracts of the functions on synchronous patterns (chapter 5), second part: equality, clashes, validity. No condition beyond each contract's own.
-/
import Derived.Test.YtfeihkpaigadkaaY1
namespace Go.Proofs.Ytfeihkpaigadkaa
open Go.ChangeShapes Go.WideShapes Go.ChangeAt Go.RowKit


set_option maxHeartbeats 2000000 in
theorem l05Clash_any (v : Value) (n : Nat) (T : List Th) (w : World) (hp : RdT 2 w v n T) (hok : okY T n = true) :
    Calls Try.prog 20 #[v] w fun e w' => e = .returned (.tuple #[.int .i64 (cfA (landY T n) (n * 2)), .int .i64 (cfB (landY T n) (n * 2))]) ∧ Below w.heap.size w w' := by
  obtain ⟨h1, h6, hth⟩ := okY_true hok
  have hl : Hid (∀ k W, k < n * 2 → Below w.heap.size w W → Calls Try.prog 30 #[v, .int .i64 k] W fun e w' => e = .returned (.int .i64 (landY T n k)) ∧ Below W.heap.size W w') :=
    fun k W hk hB => l05Land_any v n T k W (hp.below hB) hk h6 (thS_true (hth k hk)).1 (thS_true (hth k hk)).2
  obtain ⟨_, la, a, ca, rfl, hz⟩ := hp
  clear hz hok hth
  go_enter Try.func20, Try.ntmps20
  go_wp2
  go_loopw [4] (fun i wr => ∃ k : Nat, 1 ≤ k ∧ k ≤ n * 2 ∧ i = .int .i64 k ∧ (∀ j, j < k → cfAt (landY T n) j = none) ∧ Below w.heap.size w wr) (fun i _ => n * 2 - (intOf i).toNat)
  case atStart => exact ⟨1, Nat.le_refl _, by omega, rfl, fun j hj => by obtain rfl : j = 0 := by omega
                                                                         rfl, Below.refl _ _⟩
  case round =>
    obtain ⟨k, hk1, hk, rfl, heq, hB⟩ := hrel
    have Heq := Lib.hid heq
    clear heq
    by_cases hlt : k < n * 2
    · have hdt : decide ((k : Int) < 2 * (n : Int)) = true := by simp; omega
      go_wp2
      go_loopw [5] (fun i wr => ∃ j : Nat, j ≤ k ∧ i = .int .i64 j ∧ (∀ t, t < j → landY T n t ≠ landY T n k) ∧ Below w.heap.size w wr) (fun i _ => k - (intOf i).toNat)
      case atStart => exact ⟨0, Nat.zero_le _, rfl, fun j hj => absurd hj (Nat.not_lt_zero j), hB⟩
      case round =>
        obtain ⟨j, hj, rfl, hne, hB2⟩ := hrel
        have Hne := Lib.hid hne
        clear hne
        by_cases hlt2 : j < k
        · go_wp2_with fail
          refine (hl.out j _ (by omega) hB2).mono ?_
          rintro e w1 ⟨rfl, hb1⟩
          have hB3 := below_step hB2 hb1 hB2.size
          go_wp2_with fail
          refine (hl.out k _ (by omega) hB3).mono ?_
          rintro e w2 ⟨rfl, hb2⟩
          have HB4 := Lib.hid (below_step hB3 hb2 hB3.size)
          clear hb1 hb2
          go_wp2
          · go_ret2
            have he : (landY T n j == landY T n k) = true := by assumption
            have hcl := cf_some hlt hlt2 (by simpa using he) Hne.out Heq.out
            exact ⟨ret2 (vint (cfA_some hcl).symm) (vint (cfB_some hcl).symm), HB4.out⟩
          · go_roundw
            case rel =>
              have he : (landY T n j == landY T n k) = false := by assumption
              refine ⟨j + 1, by omega, by go_num, fun t ht => ?_, HB4.out⟩
              by_cases htj : t = j
              · rw [htj]; simpa using he
              · exact Hne.out t (by omega)
            case measure => simp [intOf]; omega
        · go_wp2
          go_roundw
          case rel =>
            refine ⟨k + 1, by omega, by omega, by go_num, fun t ht => ?_, hB2⟩
            by_cases htk : t = k
            · rw [htk]; exact cfAt_none (fun i hi => Hne.out i (by omega))
            · exact Heq.out t (by omega)
          case measure => simp [intOf]; omega
    · go_wp2
      go_ret2
      have hcl := cf_none (f := landY T n) (n := n * 2) (fun t ht => Heq.out t (by omega))
      exact ⟨ret2 (vint (cfA_none hcl).symm) (vint (cfB_none hcl).symm), hB⟩

set_option maxHeartbeats 1000000 in
theorem l05Ok_any (v : Value) (n : Nat) (T : List Th) (w : World) (hp : RdT 2 w v n T) : Calls Try.prog 11 #[v] w fun e w' => e = .returned (.bool (validY T n)) ∧ Below w.heap.size w w' := by
  have hl := l05List_any v n T w hp
  cases hok : okY T n
  · rw [hok] at hl
    have Hl := Lib.hid hl
    clear hl
    go_enter Try.func11, Try.ntmps11
    go_wp2_with fail
    refine Hl.out.mono ?_
    rintro e w' ⟨rfl, hb⟩
    go_wp2
    go_ret
    exact ⟨ret_bool (by rw [validY, hok]; rfl), hb⟩
  · rw [hok] at hl
    have Hl := Lib.hid hl
    clear hl
    have hcl : Hid (∀ W, Below w.heap.size w W → Calls Try.prog 20 #[v] W fun e w' => e = .returned (.tuple #[.int .i64 (cfA (landY T n) (n * 2)), .int .i64 (cfB (landY T n) (n * 2))]) ∧ Below W.heap.size W w') := fun W hB => l05Clash_any v n T W (hp.below hB) hok
    go_enter Try.func11, Try.ntmps11
    go_wp2_with fail
    refine Hl.out.mono ?_
    rintro e w1 ⟨rfl, hb⟩
    go_wp2_with fail
    refine (hcl.out _ hb).mono ?_
    rintro e w2 ⟨rfl, hb2⟩
    go_wp2
    go_ret
    exact ⟨ret_bool (by rw [validY, hok, cfA_neg]; rfl), below_step hb hb2 hb.size⟩

set_option maxHeartbeats 2000000 in
theorem implSyncClash_any (v : Value) (n : Nat) (T : List Th) (w : World) (hp : RdT 2 w v n T) :
    Calls Try.prog 25 #[v] w fun e w' => e = .returned (.tuple #[.int .i64 (scA T n), .int .i64 (scB T n), .int .i64 (scC T n)]) ∧ Below w.heap.size w w' := by
  have hl0 := areSyncBeats_any v n T w hp
  cases hok : okY T n
  · rw [hok] at hl0
    have Hl := Lib.hid hl0
    clear hl0
    go_enter Try.func25, Try.ntmps25
    go_wp2_with fail
    refine Hl.out.mono ?_
    rintro e w' ⟨rfl, hb⟩
    go_wp2
    go_ret3
    exact ⟨ret3 (vint (by rw [scA, hok]; rfl)) (vint (by rw [scB, hok]; rfl)) (vint (by rw [scC, hok]; rfl)), hb⟩
  · rw [hok] at hl0
    have Hl := Lib.hid hl0
    clear hl0
    obtain ⟨h1, h6, hth⟩ := okY_true hok
    have Hok := Lib.hid hok
    clear hok
    have hl : Hid (∀ k W, k < n * 2 → Below w.heap.size w W → Calls Try.prog 34 #[v, .int .i64 k] W fun e w' => e = .returned (.int .i64 (landY T n k)) ∧ Below W.heap.size W w') :=
      fun k W hk hB => syncLanding_any v n T k W (hp.below hB) hk h6 (thS_true (hth k hk)).1 (thS_true (hth k hk)).2
    obtain ⟨_, la, a, ca, rfl, hz⟩ := hp
    clear hz hth
    go_enter Try.func25, Try.ntmps25
    go_wp2_with fail
    refine Hl.out.mono ?_
    rintro e w0 ⟨rfl, hb0⟩
    go_wp2
    go_loopw [13] (fun i wr => ∃ k : Nat, k ≤ n * 2 ∧ i = .int .i64 k ∧ (∀ j, j < k → cfAt (landY T n) j = none) ∧ Below w.heap.size w wr) (fun i _ => n * 2 - (intOf i).toNat)
    case atStart => exact ⟨0, Nat.zero_le _, rfl, fun j hj => absurd hj (Nat.not_lt_zero j), hb0⟩
    case round =>
      obtain ⟨k, hk, rfl, heq, hB⟩ := hrel
      have Heq := Lib.hid heq
      clear heq
      by_cases hlt : k < n * 2
      · have hdt : decide ((k : Int) < 2 * (n : Int)) = true := by simp; omega
        go_wp2
        go_loopw [17] (fun i wr => ∃ j : Nat, j ≤ k ∧ i = .int .i64 j ∧ (∀ t, t < j → landY T n t ≠ landY T n k) ∧ Below w.heap.size w wr) (fun i _ => k - (intOf i).toNat)
        case atStart => exact ⟨0, Nat.zero_le _, rfl, fun j hj => absurd hj (Nat.not_lt_zero j), hB⟩
        case round =>
          obtain ⟨j, hj, rfl, hne, hB2⟩ := hrel
          have Hne := Lib.hid hne
          clear hne
          by_cases hlt2 : j < k
          · go_wp2_with fail
            refine (hl.out j _ (by omega) hB2).mono ?_
            rintro e w1 ⟨rfl, hb1⟩
            have hB3 := below_step hB2 hb1 hB2.size
            go_wp2_with fail
            refine (hl.out k _ (by omega) hB3).mono ?_
            rintro e w2 ⟨rfl, hb2⟩
            have HB4 := Lib.hid (below_step hB3 hb2 hB3.size)
            clear hb1 hb2
            go_wp2
            · go_ret3
              have he : (landY T n j == landY T n k) = true := by assumption
              have hcl := cf_some hlt hlt2 (by simpa using he) Hne.out Heq.out
              exact ⟨ret3 (vint (by rw [scA, Hok.out, cfA_some hcl]; rfl)) (vint (by rw [scB, Hok.out, cfB_some hcl]; rfl)) (vint (by rw [scC, Hok.out, hcl]; rfl)), HB4.out⟩
            · go_roundw
              case rel =>
                have he : (landY T n j == landY T n k) = false := by assumption
                refine ⟨j + 1, by omega, by go_num, fun t ht => ?_, HB4.out⟩
                by_cases htj : t = j
                · rw [htj]; simpa using he
                · exact Hne.out t (by omega)
              case measure => simp [intOf]; omega
          · go_wp2
            go_roundw
            case rel =>
              refine ⟨k + 1, by omega, by go_num, fun t ht => ?_, hB2⟩
              by_cases htk : t = k
              · rw [htk]; exact cfAt_none (fun i hi => Hne.out i (by omega))
              · exact Heq.out t (by omega)
            case measure => simp [intOf]; omega
      · go_wp2
        go_ret3
        have hcl := cf_none (f := landY T n) (n := n * 2) (fun t ht => Heq.out t (by omega))
        exact ⟨ret3 (vint (by rw [scA, Hok.out, cfA_none hcl]; rfl)) (vint (by rw [scB, Hok.out, cfB_none hcl]; rfl)) (vint (by rw [scC, Hok.out, hcl]; rfl)), hB⟩

theorem implValidSync_any (v : Value) (n : Nat) (T : List Th) (w : World) (hp : RdT 2 w v n T) : Calls Try.prog 14 #[v] w fun e w' => e = .returned (.bool (validY T n)) ∧ Below w.heap.size w w' := by
  have hv := Lib.hid (valid_sc T n)
  go_enter Try.func14, Try.ntmps14
  go_wp2_with fail
  refine (implSyncClash_any _ n T _ hp).mono ?_
  rintro e w' ⟨rfl, hb⟩
  go_wp2
  go_ret
  exact ⟨ret_bool hv.out, hb⟩
end Go.Proofs.Ytfeihkpaigadkaa
