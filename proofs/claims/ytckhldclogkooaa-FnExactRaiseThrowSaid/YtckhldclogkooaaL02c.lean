/-
  Contracts of the functions on siteswaps (chapter 2), third part: sums, highest throw, throws at a beat. No condition beyond each contract's own.
-/
import Derived.Test.YtckhldclogkooaaL02b
namespace Go.Proofs.Ytckhldclogkooaa
open Go.ChangeShapes Go.WideShapes Go.ChangeAt Go.RowKit


def sumTo (p : List Int) : Nat → Int
  | 0 => 0
  | k + 1 => sumTo p k + gi p k
theorem sumTo_bd {p : List Int} (h : ∀ j, j < p.length → 0 ≤ gi p j ∧ gi p j ≤ 15) : ∀ k, k ≤ p.length → 0 ≤ sumTo p k ∧ sumTo p k ≤ 15 * k
  | 0, _ => by simp [sumTo]
  | k + 1, hk => by
    have h1 := sumTo_bd h k (by omega)
    have h2 := h k (by omega)
    simp only [sumTo]
    omega
/-- The number of props: the mean throw. -/
def prV (p : List Int) : Int := sumTo p p.length / (p.length : Int)
def maxTo (p : List Int) : Nat → Int
  | 0 => 0
  | k + 1 => if maxTo p k < gi p k then gi p k else maxTo p k

set_option maxHeartbeats 1000000 in
theorem propsOf_any (v : Value) (p : List Int) (w : World) (hp : Rd w v p) (hok : okT p = true) :
    Calls Try.prog 50 #[v] w fun e w' => e = .returned (.int .i64 (prV p)) ∧ w = w' := by
  obtain ⟨h1, h12, hb⟩ := okT_true hok
  clear hok
  have hp0 := hp
  obtain ⟨la, a, ca, rfl, ha⟩ := hp
  obtain ⟨ba, oa, rfl, hba, hca⟩ := ha (by omega)
  clear ha
  go_enter Try.func50, Try.ntmps50
  go_wp2
  go_loop [3, 8] (fun s i => ∃ k : Nat, k ≤ p.length ∧ i = .int .i64 k ∧ s = .int .i64 (sumTo p k)) (fun _ i => p.length - (intOf i).toNat)
  case atStart => exact ⟨0, Nat.zero_le _, rfl, rfl⟩
  case round =>
    obtain ⟨k, hk, rfl, rfl⟩ := hrel
    have hsb := sumTo_bd hb k hk
    by_cases hlt : k < p.length
    · have hc := hca k hlt
      have hbk := hb k hlt
      go_wp2
      go_round
      case rel => exact ⟨k + 1, by omega, by go_num, rfl⟩
      case measure => simp [intOf]; omega
    · go_wp2_with (go_at_call 65; refine (period_any _ p _ hp0).mono ?_; rintro e w' ⟨rfl, rfl⟩)
      go_ret
      obtain rfl : k = p.length := by omega
      exact ⟨rfl, rfl⟩

set_option maxHeartbeats 1000000 in
theorem l02Sum_any (v : Value) (p : List Int) (w : World) (hp : Rd w v p) (hok : okT p = true) :
    Calls Try.prog 71 #[v] w fun e w' => e = .returned (.int .i64 (sumTo p p.length)) ∧ w = w' := by
  obtain ⟨h1, h12, hb⟩ := okT_true hok
  clear hok
  obtain ⟨la, a, ca, rfl, ha⟩ := hp
  obtain ⟨ba, oa, rfl, hba, hca⟩ := ha (by omega)
  clear ha
  go_enter Try.func71, Try.ntmps71
  go_wp2
  go_loop [3, 4] (fun s i => ∃ k : Nat, k ≤ p.length ∧ i = .int .i64 k ∧ s = .int .i64 (sumTo p k)) (fun _ i => p.length - (intOf i).toNat)
  case atStart => exact ⟨0, Nat.zero_le _, rfl, rfl⟩
  case round =>
    obtain ⟨k, hk, rfl, rfl⟩ := hrel
    have hsb := sumTo_bd hb k hk
    by_cases hlt : k < p.length
    · have hc := hca k hlt
      have hbk := hb k hlt
      go_wp2
      go_round
      case rel => exact ⟨k + 1, by omega, by go_num, rfl⟩
      case measure => simp [intOf]; omega
    · go_wp2
      go_ret
      obtain rfl : k = p.length := by omega
      exact ⟨rfl, rfl⟩

theorem l02Props_any (v : Value) (p : List Int) (w : World) (hp : Rd w v p) (hok : okT p = true) :
    Calls Try.prog 49 #[v] w fun e w' => e = .returned (.int .i64 (prV p)) ∧ w = w' := by
  obtain ⟨h1, h12, hb⟩ := okT_true hok
  have hsb := sumTo_bd hb p.length (Nat.le_refl _)
  have hc := Lib.hid (l02Sum_any v p w hp hok)
  obtain ⟨la, a, ca, rfl, ha⟩ := hp
  clear hok
  go_enter Try.func49, Try.ntmps49
  go_wp2_with fail
  refine hc.out.mono ?_
  rintro e w' ⟨rfl, rfl⟩
  go_wp2
  go_ret
  exact ⟨rfl, rfl⟩

def prA (p : List Int) : Int := if validB p then prV p else 0
def prC (p : List Int) : Int := if validB p then 0 else 1
def hiA (p : List Int) : Int := if validB p then maxTo p p.length else 0

set_option maxHeartbeats 1000000 in
theorem specProps_any (v : Value) (p : List Int) (w : World) (hp : Rd w v p) :
    Calls Try.prog 23 #[v] w fun e w' => e = .returned (.tuple #[.int .i64 (prA p), .int .i64 (prC p)]) ∧ Below w.heap.size w w' := by
  have hv := Lib.hid (l02Ok_any v p w hp)
  cases hval : validB p
  · rw [hval] at hv
    go_enter Try.func23, Try.ntmps23
    go_wp2_with fail
    refine hv.out.mono ?_
    rintro e w' ⟨rfl, n, rfl⟩
    go_wp2
    go_ret2
    exact ⟨ret2 (vint (by rw [prA, hval]; rfl)) (vint (by rw [prC, hval]; rfl)), below_dn _ _⟩
  · rw [hval] at hv
    have hpr := fun n => l02Props_any v p (w.drewN n) (hp.drewN n) (okT_of_valid hval)
    have hpr2 := Lib.hid hpr
    clear hpr
    go_enter Try.func23, Try.ntmps23
    go_wp2_with fail
    refine hv.out.mono ?_
    rintro e w' ⟨rfl, n, rfl⟩
    go_wp2_with fail
    refine (hpr2.out n).mono ?_
    rintro e w' ⟨rfl, rfl⟩
    go_wp2
    go_ret2
    exact ⟨ret2 (vint (by rw [prA, hval]; rfl)) (vint (by rw [prC, hval]; rfl)), below_dn _ _⟩

set_option maxHeartbeats 1000000 in
theorem implProps_any (v : Value) (p : List Int) (w : World) (hp : Rd w v p) :
    Calls Try.prog 24 #[v] w fun e w' => e = .returned (.tuple #[.int .i64 (prA p), .int .i64 (prC p)]) ∧ Below w.heap.size w w' := by
  have hv := Lib.hid (implValid_any v p w hp)
  cases hval : validB p
  · rw [hval] at hv
    go_enter Try.func24, Try.ntmps24
    go_wp2_with fail
    refine hv.out.mono ?_
    rintro e w' ⟨rfl, hb⟩
    go_wp2
    go_ret2
    exact ⟨ret2 (vint (by rw [prA, hval]; rfl)) (vint (by rw [prC, hval]; rfl)), hb⟩
  · rw [hval] at hv
    go_enter Try.func24, Try.ntmps24
    go_wp2_with fail
    refine hv.out.mono ?_
    rintro e w' ⟨rfl, hb⟩
    go_wp2_with fail
    refine (propsOf_any v p _ (hp.below hb) (okT_of_valid hval)).mono ?_
    rintro e w' ⟨rfl, rfl⟩
    go_wp2
    go_ret2
    exact ⟨ret2 (vint (by rw [prA, hval]; rfl)) (vint (by rw [prC, hval]; rfl)), hb⟩

set_option maxHeartbeats 1000000 in
theorem highest_any (v : Value) (p : List Int) (w : World) (hp : Rd w v p) :
    Calls Try.prog 52 #[v] w fun e w' => e = .returned (.int .i64 (maxTo p p.length)) ∧ w = w' := by
  obtain ⟨la, a, ca, rfl, ha⟩ := hp
  go_enter Try.func52, Try.ntmps52
  go_wp2
  go_loop [3, 8] (fun s i => ∃ k : Nat, k ≤ p.length ∧ i = .int .i64 k ∧ s = .int .i64 (maxTo p k)) (fun _ i => p.length - (intOf i).toNat)
  case atStart => exact ⟨0, Nat.zero_le _, rfl, rfl⟩
  case round =>
    obtain ⟨k, hk, rfl, rfl⟩ := hrel
    by_cases hlt : k < p.length
    · obtain ⟨ba, oa, rfl, hba, hca⟩ := ha (by omega)
      have hc := hca k hlt
      clear hca ha
      by_cases hm : maxTo p k < gi p k
      all_goals
        have Hm := Lib.hid hm
        go_wp2
        go_round
        case rel => exact ⟨k + 1, by omega, by go_num, by simp only [maxTo, Hm.out]; rfl⟩
        case measure => simp [intOf]; omega
    · go_wp2
      go_ret
      obtain rfl : k = p.length := by omega
      exact ⟨rfl, rfl⟩

theorem l00Max_any (x y : Int) (w : World) : Calls Try.prog 72 #[.int .i64 x, .int .i64 y] w fun e w' => e = .returned (.int .i64 (if x < y then y else x)) ∧ w = w' := by
  by_cases h : y < x
  · rw [if_neg (show ¬ x < y by omega)]
    go_enter Try.func72, Try.ntmps72
    go_wp2
    go_ret
    exact ⟨rfl, rfl⟩
  · have e : (if x < y then y else x) = y := by split <;> omega
    rw [e]
    go_enter Try.func72, Try.ntmps72
    go_wp2
    go_ret
    exact ⟨rfl, rfl⟩

set_option maxHeartbeats 1000000 in
theorem l02High_any (v : Value) (p : List Int) (w : World) (hp : Rd w v p) :
    Calls Try.prog 51 #[v] w fun e w' => e = .returned (.int .i64 (maxTo p p.length)) ∧ w = w' := by
  obtain ⟨la, a, ca, rfl, ha⟩ := hp
  go_enter Try.func51, Try.ntmps51
  go_wp2
  go_loop [3, 4] (fun s i => ∃ k : Nat, k ≤ p.length ∧ i = .int .i64 k ∧ s = .int .i64 (maxTo p k)) (fun _ i => p.length - (intOf i).toNat)
  case atStart => exact ⟨0, Nat.zero_le _, rfl, rfl⟩
  case round =>
    obtain ⟨k, hk, rfl, rfl⟩ := hrel
    by_cases hlt : k < p.length
    · obtain ⟨ba, oa, rfl, hba, hca⟩ := ha (by omega)
      have hc := hca k hlt
      clear hca ha
      have hm := Lib.hid (l00Max_any (maxTo p k) (gi p k) w)
      obtain ⟨m, hme⟩ : ∃ m, m = maxTo p (k + 1) := ⟨_, rfl⟩
      have Hme := Lib.hid hme
      rw [show (if maxTo p k < gi p k then gi p k else maxTo p k) = m from hme.symm] at hm
      clear hme
      go_wp2_with (go_at_call 72; refine hm.out.mono ?_; rintro e w' ⟨rfl, rfl⟩)
      go_round
      case rel => exact ⟨k + 1, by omega, by go_num, by rw [Hme.out]⟩
      case measure => simp [intOf]; omega
    · go_wp2
      go_ret
      obtain rfl : k = p.length := by omega
      exact ⟨rfl, rfl⟩

set_option maxHeartbeats 1000000 in
theorem specHighest_any (v : Value) (p : List Int) (w : World) (hp : Rd w v p) :
    Calls Try.prog 25 #[v] w fun e w' => e = .returned (.tuple #[.int .i64 (hiA p), .int .i64 (prC p)]) ∧ Below w.heap.size w w' := by
  have hv := Lib.hid (l02Ok_any v p w hp)
  cases hval : validB p
  · rw [hval] at hv
    go_enter Try.func25, Try.ntmps25
    go_wp2_with fail
    refine hv.out.mono ?_
    rintro e w' ⟨rfl, n, rfl⟩
    go_wp2
    go_ret2
    exact ⟨ret2 (vint (by rw [hiA, hval]; rfl)) (vint (by rw [prC, hval]; rfl)), below_dn _ _⟩
  · rw [hval] at hv
    go_enter Try.func25, Try.ntmps25
    go_wp2_with fail
    refine hv.out.mono ?_
    rintro e w' ⟨rfl, n, rfl⟩
    go_wp2_with fail
    refine (l02High_any v p _ (hp.drewN n)).mono ?_
    rintro e w' ⟨rfl, rfl⟩
    go_wp2
    go_ret2
    exact ⟨ret2 (vint (by rw [hiA, hval]; rfl)) (vint (by rw [prC, hval]; rfl)), below_dn _ _⟩

set_option maxHeartbeats 1000000 in
theorem implHighest_any (v : Value) (p : List Int) (w : World) (hp : Rd w v p) :
    Calls Try.prog 26 #[v] w fun e w' => e = .returned (.tuple #[.int .i64 (hiA p), .int .i64 (prC p)]) ∧ Below w.heap.size w w' := by
  have hv := Lib.hid (implValid_any v p w hp)
  cases hval : validB p
  · rw [hval] at hv
    go_enter Try.func26, Try.ntmps26
    go_wp2_with fail
    refine hv.out.mono ?_
    rintro e w' ⟨rfl, hb⟩
    go_wp2
    go_ret2
    exact ⟨ret2 (vint (by rw [hiA, hval]; rfl)) (vint (by rw [prC, hval]; rfl)), hb⟩
  · rw [hval] at hv
    go_enter Try.func26, Try.ntmps26
    go_wp2_with fail
    refine hv.out.mono ?_
    rintro e w' ⟨rfl, hb⟩
    go_wp2_with fail
    refine (highest_any v p _ (hp.below hb)).mono ?_
    rintro e w' ⟨rfl, rfl⟩
    go_wp2
    go_ret2
    exact ⟨ret2 (vint (by rw [hiA, hval]; rfl)) (vint (by rw [prC, hval]; rfl)), hb⟩

/-- LandingBeats: the landings of a pattern; none of what is no pattern. -/
def laL (p : List Int) : List Int := if validB p then landL p p.length else []

set_option maxHeartbeats 1000000 in
theorem specLanding_any (v : Value) (p : List Int) (w : World) (hp : Rd w v p) :
    Calls Try.prog 27 #[v] w fun e w' => ∃ u, e = .returned (.tuple #[u, .int .i64 (prC p)]) ∧ Own w' w.heap.size w'.heap.size u (laL p) ∧ Below w.heap.size w w' := by
  have hv := Lib.hid (l02Ok_any v p w hp)
  cases hval : validB p
  · rw [hval] at hv
    go_enter Try.func27, Try.ntmps27
    go_wp2_with fail
    refine hv.out.mono ?_
    rintro e w' ⟨rfl, n, rfl⟩
    go_wp2
    go_ret2
    exact ⟨_, ret2 rfl (vint (by rw [prC, hval]; rfl)), by rw [laL, hval]; exact own_nil _ _ _, below_dn _ _⟩
  · rw [hval] at hv
    go_enter Try.func27, Try.ntmps27
    go_wp2_with fail
    refine hv.out.mono ?_
    rintro e w' ⟨rfl, n, rfl⟩
    go_wp2_with fail
    refine (l02Lands_any v p _ (hp.drewN n) (okT_of_valid hval)).mono ?_
    rintro e w' ⟨u, rfl, hown, hb⟩
    go_wp2
    go_ret2
    exact ⟨_, ret2 rfl (vint (by rw [prC, hval]; rfl)), by rw [laL, hval]; exact hown, below_step (below_dn w n) hb (Nat.le_refl _)⟩

set_option maxHeartbeats 1000000 in
theorem implLanding_any (v : Value) (p : List Int) (w : World) (hp : Rd w v p) :
    Calls Try.prog 28 #[v] w fun e w' => ∃ u, e = .returned (.tuple #[u, .int .i64 (prC p)]) ∧ Own w' w.heap.size w'.heap.size u (laL p) ∧ Below w.heap.size w w' := by
  have hv := Lib.hid (implValid_any v p w hp)
  cases hval : validB p
  · rw [hval] at hv
    go_enter Try.func28, Try.ntmps28
    go_wp2_with fail
    refine hv.out.mono ?_
    rintro e w' ⟨rfl, hb⟩
    go_wp2
    go_ret2
    exact ⟨_, ret2 rfl (vint (by rw [prC, hval]; rfl)), by rw [laL, hval]; exact own_nil _ _ _, hb⟩
  · rw [hval] at hv
    go_enter Try.func28, Try.ntmps28
    go_wp2_with fail
    refine hv.out.mono ?_
    rintro e w1 ⟨rfl, hb⟩
    go_wp2_with fail
    refine (landings_any v p _ (hp.below hb) (okT_of_valid hval)).mono ?_
    rintro e w' ⟨u, rfl, hown, hb2⟩
    go_wp2
    go_ret2
    exact ⟨_, ret2 rfl (vint (by rw [prC, hval]; rfl)), by rw [laL, hval]; exact hown.mono hb.size (Nat.le_refl _), below_step hb hb2 hb.size⟩
end Go.Proofs.Ytckhldclogkooaa
