/-
  Contracts of the functions on siteswaps (chapter 2), of the program and of the reference. No condition beyond each contract's own.
-/
import Derived.Test.YtncfnbkddpdedaaInts
namespace Go.Proofs.Ytncfnbkddpdedaa
open Go.ChangeShapes Go.WideShapes Go.ChangeAt Go.RowKit


def btw (n lo hi : Int) : Bool := decide (lo ≤ n) && decide (n ≤ hi)
theorem btw_true {n lo hi : Int} (h1 : lo ≤ n) (h2 : n ≤ hi) : btw n lo hi = true := by simp [btw, h1, h2]
theorem btw_iff {n lo hi : Int} : btw n lo hi = true ↔ lo ≤ n ∧ n ≤ hi := by simp [btw]
theorem btw_false_iff {n lo hi : Int} : btw n lo hi = false ↔ ¬ (lo ≤ n ∧ n ≤ hi) := by rw [← btw_iff]; simp

theorem between_any (n lo hi : Int) (w : World) : Calls Try.prog 32 #[.int .i64 n, .int .i64 lo, .int .i64 hi] w fun e w' => e = .returned (.bool (btw n lo hi)) ∧ w = w' := by
  cases h1 : decide (lo ≤ n) <;> cases h2 : decide (n ≤ hi)
  all_goals
    go_enter Try.func32, Try.ntmps32
    go_wp2
    go_ret
    exact ⟨ret_bool (by simp only [btw, h1, h2]; rfl), rfl⟩

theorem l00In_any (n lo hi : Int) (w : World) : Calls Try.prog 44 #[.int .i64 n, .int .i64 lo, .int .i64 hi] w fun e w' => e = .returned (.bool (btw n lo hi)) ∧ w = w' := by
  cases h1 : decide (lo ≤ n) <;> cases h2 : decide (n ≤ hi)
  all_goals
    go_enter Try.func44, Try.ntmps44
    go_wp2
    go_ret
    exact ⟨ret_bool (by simp only [btw, h1, h2]; rfl), rfl⟩

/-- A list of throws: one to twelve numbers from 0 to 15. -/
def okT (p : List Int) : Bool := decide (1 ≤ p.length ∧ p.length ≤ 12 ∧ ∀ j, j < p.length → 0 ≤ gi p j ∧ gi p j ≤ 15)
theorem okT_bad {p : List Int} {k : Nat} (hk : k < p.length) (h : btw (gi p k) 0 15 = false) : okT p = false := by
  simp only [okT, decide_eq_false_iff_not]
  intro hh
  exact btw_false_iff.1 h (hh.2.2 k hk)
theorem okT_end {p : List Int} (h : ∀ j, j < p.length → btw (gi p j) 0 15 = true) : okT p = btw (p.length : Int) 1 12 := by
  rw [Bool.eq_iff_iff, btw_iff]
  simp only [okT, decide_eq_true_eq]
  constructor
  · intro hh; omega
  · intro hh; exact ⟨by omega, by omega, fun j hj => btw_iff.1 (h j hj)⟩
theorem okT_true {p : List Int} (h : okT p = true) : 1 ≤ p.length ∧ p.length ≤ 12 ∧ ∀ j, j < p.length → 0 ≤ gi p j ∧ gi p j ≤ 15 := by simpa [okT] using h

set_option maxHeartbeats 1000000 in
theorem l02List_any (v : Value) (p : List Int) (w : World) (hp : Rd w v p) : Calls Try.prog 28 #[v] w fun e w' => e = .returned (.bool (okT p)) ∧ w = w' := by
  obtain ⟨la, a, ca, rfl, ha⟩ := hp
  go_enter Try.func28, Try.ntmps28
  go_wp2
  go_loop [3] (fun i => ∃ k : Nat, k ≤ p.length ∧ i = .int .i64 k ∧ ∀ j, j < k → btw (gi p j) 0 15 = true) (fun i => p.length - (intOf i).toNat)
  case atStart => exact ⟨0, Nat.zero_le _, rfl, fun j hj => absurd hj (Nat.not_lt_zero j)⟩
  case round =>
    obtain ⟨k, hk, rfl, heq⟩ := hrel
    have Heq := Lib.hid heq
    clear heq
    by_cases hlt : k < p.length
    · obtain ⟨ba, oa, rfl, hba, hca⟩ := ha (by omega)
      have hc1 := hca k hlt
      clear hca ha
      cases hbt : btw (gi p k) 0 15
      all_goals
        go_wp2_with (go_at_call 44; refine (l00In_any _ _ _ _).mono ?_; rintro e w' ⟨rfl, rfl⟩)
      · go_ret
        exact ⟨ret_bool (okT_bad hlt hbt).symm, rfl⟩
      · go_round
        case rel =>
          refine ⟨k + 1, by omega, by go_num, fun j hj => ?_⟩
          by_cases hjk : j = k
          · rw [hjk]; exact hbt
          · exact Heq.out j (by omega)
        case measure => simp [intOf]; omega
    · go_wp2_with (go_at_call 44; refine (l00In_any _ _ _ _).mono ?_; rintro e w' ⟨rfl, rfl⟩)
      go_ret
      exact ⟨ret_bool (okT_end (fun j hj => Heq.out j (by omega))).symm, rfl⟩

set_option maxHeartbeats 1000000 in
theorem areThrows_any (v : Value) (p : List Int) (w : World) (hp : Rd w v p) : Calls Try.prog 45 #[v] w fun e w' => e = .returned (.bool (okT p)) ∧ w = w' := by
  obtain ⟨la, a, ca, rfl, ha⟩ := hp
  go_enter Try.func45, Try.ntmps45
  go_wp2
  go_loop [7] (fun i => ∃ k : Nat, k ≤ p.length ∧ i = .int .i64 k ∧ ∀ j, j < k → btw (gi p j) 0 15 = true) (fun i => p.length - (intOf i).toNat)
  case atStart => exact ⟨0, Nat.zero_le _, rfl, fun j hj => absurd hj (Nat.not_lt_zero j)⟩
  case round =>
    obtain ⟨k, hk, rfl, heq⟩ := hrel
    have Heq := Lib.hid heq
    clear heq
    by_cases hlt : k < p.length
    · obtain ⟨ba, oa, rfl, hba, hca⟩ := ha (by omega)
      have hc1 := hca k hlt
      clear hca ha
      cases hbt : btw (gi p k) 0 15
      all_goals
        go_wp2_with (go_at_call 32; refine (between_any _ _ _ _).mono ?_; rintro e w' ⟨rfl, rfl⟩)
      · go_ret
        exact ⟨ret_bool (okT_bad hlt hbt).symm, rfl⟩
      · go_round
        case rel =>
          refine ⟨k + 1, by omega, by go_num, fun j hj => ?_⟩
          by_cases hjk : j = k
          · rw [hjk]; exact hbt
          · exact Heq.out j (by omega)
        case measure => simp [intOf]; omega
    · go_wp2_with (go_at_call 32; refine (between_any _ _ _ _).mono ?_; rintro e w' ⟨rfl, rfl⟩)
      go_ret
      exact ⟨ret_bool (okT_end (fun j hj => Heq.out j (by omega))).symm, rfl⟩

/-- The beat, by the period, at which throw j lands. -/
def landI (p : List Int) (j : Nat) : Int := ((j : Int) + gi p j) % (p.length : Int)
def landL (p : List Int) (k : Nat) : List Int := (List.range k).map (landI p)
theorem landL_succ (p : List Int) (k : Nat) : landL p (k + 1) = landL p k ++ [landI p k] := by simp [landL, List.range_succ]
theorem landL_length (p : List Int) (k : Nat) : (landL p k).length = k := by simp [landL]
theorem landL_gi (p : List Int) {k n : Nat} (h : k < n) : gi (landL p n) k = landI p k := by
  rw [gi_eq (by rw [landL_length]; exact h)]
  simp [landL]

def clashAt (p : List Int) (k : Nat) : Option Nat := findI (fun i => decide (landI p i = landI p k)) k
def clash (p : List Int) : Option (Nat × Nat) := (findI (fun k => (clashAt p k).isSome) p.length).bind fun k => (clashAt p k).map fun i => (i, k)
theorem clashAt_none {p : List Int} {k : Nat} (h : ∀ i, i < k → landI p i ≠ landI p k) : clashAt p k = none := findI_none (fun j hj => by simp [h j hj])
theorem clash_some {p : List Int} {i k : Nat} (hk : k < p.length) (hi : i < k) (h : landI p i = landI p k) (h1 : ∀ j, j < i → landI p j ≠ landI p k) (h2 : ∀ j, j < k → clashAt p j = none) : clash p = some (i, k) := by
  have e1 : clashAt p k = some i := findI_some (by simp [h]) (fun j hj => by simp [h1 j hj]) hi
  have e2 : findI (fun k => (clashAt p k).isSome) p.length = some k := findI_some (by simp [e1]) (fun j hj => by simp [h2 j hj]) hk
  simp [clash, e2, e1]
theorem clash_none {p : List Int} (h : ∀ j, j < p.length → clashAt p j = none) : clash p = none := by
  have e : findI (fun k => (clashAt p k).isSome) p.length = none := findI_none (fun j hj => by simp [h j hj])
  simp [clash, e]
/-- The indices of the first clash; -1 twice if there is none. -/
def clA (p : List Int) : Int := match clash p with | some (i, _) => (i : Int) | none => -1
def clB (p : List Int) : Int := match clash p with | some (_, k) => (k : Int) | none => -1
theorem clA_none {p : List Int} (h : clash p = none) : clA p = -1 := by rw [clA, h]
theorem clB_none {p : List Int} (h : clash p = none) : clB p = -1 := by rw [clB, h]
theorem clA_some {p : List Int} {i k : Nat} (h : clash p = some (i, k)) : clA p = i := by rw [clA, h]
theorem clB_some {p : List Int} {i k : Nat} (h : clash p = some (i, k)) : clB p = k := by rw [clB, h]
def validB (p : List Int) : Bool := okT p && (clash p).isNone
theorem validB_true {p : List Int} (h : validB p = true) : 1 ≤ p.length ∧ p.length ≤ 12 ∧ ∀ j, j < p.length → 0 ≤ gi p j ∧ gi p j ≤ 15 := by
  simp only [validB, Bool.and_eq_true] at h
  exact okT_true h.1
theorem okT_of_valid {p : List Int} (h : validB p = true) : okT p = true := by
  simp only [validB, Bool.and_eq_true] at h
  exact h.1
theorem clA_neg (p : List Int) : decide (clA p < 0) = (clash p).isNone := by
  unfold clA
  cases clash p with
  | none => rfl
  | some x => obtain ⟨i, k⟩ := x; simp

theorem sum_in {p : List Int} {j : Nat} (h0 : 0 ≤ gi p j) (h1 : gi p j ≤ 15) (hj : j ≤ 100) : IntKind.i64.wrap ((j : Int) + gi p j) = (j : Int) + gi p j := IntWalk.i64_in _ (by omega)
theorem rem_in {p : List Int} {j n : Nat} (h0 : 0 ≤ gi p j) : ((j : Int) + gi p j).tmod (n : Int) = ((j : Int) + gi p j) % (n : Int) := Int.tmod_eq_emod_of_nonneg (by omega)
set_option maxHeartbeats 2000000 in
theorem l02Clash_any (v : Value) (p : List Int) (w : World) (hp : Rd w v p) (hok : okT p = true) :
    Calls Try.prog 29 #[v] w fun e w' => e = .returned (.tuple #[.int .i64 (clA p), .int .i64 (clB p)]) ∧ ∃ n, w' = w.drewN n := by
  obtain ⟨la, a, ca, rfl, ha⟩ := hp
  obtain ⟨h1, h12, hb⟩ := okT_true hok
  clear hok
  obtain ⟨ba, oa, rfl, hba, hca⟩ := ha (by omega)
  clear ha
  go_enter Try.func29, Try.ntmps29
  go_wp2
  go_loopw [5] (fun i wr => ∃ k n : Nat, 1 ≤ k ∧ k ≤ p.length ∧ i = .int .i64 k ∧ (∀ j, j < k → clashAt p j = none) ∧ wr = w.drewN n) (fun i _ => p.length - (intOf i).toNat)
  case atStart => exact ⟨1, 0, Nat.le_refl _, h1, rfl, fun j hj => by obtain rfl : j = 0 := by omega
                                                                      rfl, rfl⟩
  case round =>
    obtain ⟨k, n, hk1, hk, rfl, heq, rfl⟩ := hrel
    have Heq := Lib.hid heq
    clear heq
    by_cases hlt : k < p.length
    · have hck := hca k hlt
      have hbk := hb k hlt
      go_wp2
      obtain ⟨wo, hwo⟩ : ∃ wo : World, wo = w.drewN n := ⟨_, rfl⟩
      go_loopw [6] (fun i wr => ∃ j n : Nat, j ≤ k ∧ i = .int .i64 j ∧ (∀ t, t < j → landI p t ≠ landI p k) ∧ wr = w.drewN n) (fun i _ => k - (intOf i).toNat)
      case atStart => exact ⟨0, _, Nat.zero_le _, rfl, fun j hj => absurd hj (Nat.not_lt_zero j), rfl⟩
      case round =>
        obtain ⟨j, m, hj, rfl, hne, rfl⟩ := hrel
        have Hne := Lib.hid hne
        clear hne
        by_cases hlt2 : j < k
        · have hcj := hca j (by omega)
          have hbj := hb j (by omega)
          go_wp2
          have e1 := sum_in (p := p) hbj.1 hbj.2 (show j ≤ 100 by omega)
          have e2 := sum_in (p := p) hbk.1 hbk.2 (show k ≤ 100 by omega)
          have e3 := rem_in (n := p.length) (j := j) hbj.1
          have e4 := rem_in (n := p.length) (j := k) hbk.1
          go_quiet (fail)
          clear e1 e2 e3 e4
          go_wp2
          · go_ret2
            have he : (((j : Int) + gi p j) % (p.length : Int) == ((k : Int) + gi p k) % (p.length : Int)) = true := by assumption
            have hcl := clash_some hlt hlt2 (by simpa [landI] using he) Hne.out Heq.out
            exact ⟨ret2 (vint (clA_some hcl).symm) (vint (clB_some hcl).symm), _, dd2 _ _ _⟩
          · go_roundw
            case rel =>
              have he : (((j : Int) + gi p j) % (p.length : Int) == ((k : Int) + gi p k) % (p.length : Int)) = false := by assumption
              refine ⟨j + 1, _, by omega, by go_num, fun t ht => ?_, rfl⟩
              by_cases htj : t = j
              · rw [htj]; simpa [landI] using he
              · exact Hne.out t (by omega)
            case measure => simp [intOf]; omega
        · go_wp2
          go_roundw
          case rel =>
            refine ⟨k + 1, _, by omega, by omega, by go_num, fun t ht => ?_, rfl⟩
            by_cases htk : t = k
            · rw [htk]; exact clashAt_none (fun i hi => Hne.out i (by omega))
            · exact Heq.out t (by omega)
          case measure => simp [intOf]; omega
    · go_wp2
      go_ret2
      have hcl := clash_none (p := p) (fun t ht => Heq.out t (by omega))
      exact ⟨ret2 (vint (clA_none hcl).symm) (vint (clB_none hcl).symm), n, rfl⟩

theorem l02Ok_any (v : Value) (p : List Int) (w : World) (hp : Rd w v p) : Calls Try.prog 15 #[v] w fun e w' => e = .returned (.bool (validB p)) ∧ ∃ n, w' = w.drewN n := by
  cases hok : okT p
  · go_enter Try.func15, Try.ntmps15
    go_wp2_with (go_at_call 28; refine (l02List_any _ p _ hp).mono ?_; rintro e w' ⟨rfl, rfl⟩)
    go_ret
    exact ⟨ret_bool (by rw [validB, hok]; rfl), 0, rfl⟩
  · have hl := Lib.hid (l02List_any v p w hp)
    have hcl := Lib.hid (l02Clash_any v p w hp hok)
    go_enter Try.func15, Try.ntmps15
    go_wp2_with fail
    refine hl.out.mono ?_
    rintro e w' ⟨rfl, rfl⟩
    go_wp2_with fail
    refine hcl.out.mono ?_
    rintro e w' ⟨rfl, n, rfl⟩
    go_wp2
    go_ret
    exact ⟨ret_bool (by rw [validB, hok, clA_neg]; rfl), n, rfl⟩

/-- What CollisionOf answers. -/
def coA (p : List Int) : Int := if okT p then clA p else 0
def coB (p : List Int) : Int := if okT p then clB p else 0
def coC (p : List Int) : Int := if okT p then (if (clash p).isNone then 0 else 9) else 1
theorem valid_co (p : List Int) : (coC p == 0) = validB p := by
  unfold coC validB
  cases okT p with
  | false => rfl
  | true => cases (clash p).isNone <;> rfl
end Go.Proofs.Ytncfnbkddpdedaa
