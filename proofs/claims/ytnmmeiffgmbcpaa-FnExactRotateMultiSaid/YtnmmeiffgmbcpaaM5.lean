/-
  Contracts of the functions on patterns with several throws at a beat (chapter 4), fifth part: landings and props. No condition beyond each contract's own.
-/
import Derived.Test.YtnmmeiffgmbcpaaM4
import Derived.Test.YtnmmeiffgmbcpaaL02c
import Derived.Deep.RegionHeld3
namespace Go.Proofs.Ytnmmeiffgmbcpaa
open Go.ChangeShapes Go.WideShapes Go.ChangeAt Go.RowKit


def vmC (R : List (List Int)) : Int := if vmB R then 0 else 1
def mlL (R : List (List Int)) : List Int := if vmB R then allC R R.length R.length else []
/-- The sum of the throws of the first k beats. -/
def sumM (R : List (List Int)) : Nat → Int
  | 0 => 0
  | k + 1 => sumM R k + sumTo (gr R k) (gr R k).length
theorem sumTo_b {L : List Int} (h : ∀ j, j < L.length → 0 ≤ gi L j ∧ gi L j ≤ 15) : ∀ k, k ≤ L.length → 0 ≤ sumTo L k ∧ sumTo L k ≤ 15 * k
  | 0, _ => by simp [sumTo]
  | k + 1, hk => by
    have h1 := sumTo_b h k (by omega)
    have h2 := h k (by omega)
    simp only [sumTo]
    omega
theorem sumM_bd {R : List (List Int)} (h : ∀ j, j < R.length → stB (gr R j) = true) : ∀ k, k ≤ R.length → 0 ≤ sumM R k ∧ sumM R k ≤ 60 * k
  | 0, _ => by simp [sumM]
  | k + 1, hk => by
    have h1 := sumM_bd h k (by omega)
    obtain ⟨_, h4, hb, _⟩ := stB_true (h k (by omega))
    have h2 := sumTo_b hb (gr R k).length (Nat.le_refl _)
    simp only [sumM]
    omega
def mpA (R : List (List Int)) : Int := if vmB R then sumM R R.length / (R.length : Int) else 0

set_option maxHeartbeats 4000000 in
theorem specMLand_any (a : Value) (R : List (List Int)) (w : World) (h : RdR w a R) :
    Calls Try.prog 31 #[.agg #[a]] w fun e w' => ∃ u, e = .returned (.tuple #[u, .int .i64 (vmC R)]) ∧ Own w' w.heap.size w'.heap.size u (mlL R) ∧ Below w.heap.size w w' := by
  obtain ⟨s1, c1, rfl⟩ := h.form
  have hv0 := l04Ok_any _ R _ (rdQM_box h)
  cases hval : vmB R
  · rw [hval] at hv0
    have hv := Lib.hid hv0
    clear hv0 h
    go_enter Try.func31, Try.ntmps31
    go_wp2_with fail
    refine hv.out.mono ?_
    rintro e w' ⟨rfl, hb⟩
    have HB := Lib.hid (below_step (box_below _ _) hb (by simp))
    clear hb
    go_wp2
    go_ret2
    exact ⟨_, ret2 rfl (vint (by rw [vmC, hval]; rfl)), by rw [mlL, hval]; exact own_nil _ _ _, HB.out⟩
  · rw [hval] at hv0
    have hv := Lib.hid hv0
    clear hv0
    obtain ⟨h1, h12, hst⟩ := okM_true (vmB_ok hval)
    have HST := Lib.hid (fun j hj => stB_true (hst j hj))
    have Hval := Lib.hid hval
    clear hval
    go_enter Try.func31, Try.ntmps31
    go_wp2_with fail
    refine hv.out.mono ?_
    rintro e w1 ⟨rfl, hb⟩
    obtain ⟨hcc, hzz⟩ := bcell hb
    have k0 : w1.cell? ⟨w.heap.size, 0, none⟩ = some (.slice s1 R.length c1) := (hcc _ _ (by simp)).trans (by simp)
    have hB := below_step (box_below _ _) hb (by simp)
    have hlt0 : w.heap.size < w1.heap.size := by have := hb.size; simp at this; omega
    clear hcc hzz hb
    have hq : RdQM w1 (.pointer (some ⟨w.heap.size, 0, none⟩)) R := ⟨w.heap.size, s1, c1, rfl, hlt0, k0, h.below hB⟩
    have hl := Lib.hid (l04Landings_any _ R _ hq (vmB_ok Hval.out))
    have HB := Lib.hid hB
    clear hq hB k0 h hst
    go_wp2_with fail
    refine hl.out.mono ?_
    rintro e w2 ⟨u, rfl, hu, hb2⟩
    have HU := Lib.hid (And.intro hu (And.intro (below_step HB.out hb2 HB.out.size) HB.out.size))
    clear hu hb2
    go_wp2
    go_ret2
    exact ⟨_, ret2 rfl (vint (by rw [vmC, Hval.out]; rfl)), by rw [mlL, Hval.out]; exact HU.out.1.mono HU.out.2.2 (Nat.le_refl _), HU.out.2.1⟩

set_option maxHeartbeats 4000000 in
theorem implMLand_any (a : Value) (R : List (List Int)) (w : World) (h : RdR w a R) :
    Calls Try.prog 32 #[.agg #[a]] w fun e w' => ∃ u, e = .returned (.tuple #[u, .int .i64 (vmC R)]) ∧ Own w' w.heap.size w'.heap.size u (mlL R) ∧ Below w.heap.size w w' := by
  obtain ⟨s1, c1, rfl⟩ := h.form
  have hv0 := implValidM_any _ R (w.alloc (.cells #[.slice s1 R.length c1] 34)) (h.below (box_below _ _))
  cases hval : vmB R
  · rw [hval] at hv0
    have hv := Lib.hid hv0
    clear hv0 h
    go_enter Try.func32, Try.ntmps32
    go_wp2_with fail
    refine hv.out.mono ?_
    rintro e w' ⟨rfl, hb⟩
    have HB := Lib.hid (below_step (box_below _ _) hb (by simp))
    clear hb
    go_wp2
    go_ret2
    exact ⟨_, ret2 rfl (vint (by rw [vmC, hval]; rfl)), by rw [mlL, hval]; exact own_nil _ _ _, HB.out⟩
  · rw [hval] at hv0
    have hv := Lib.hid hv0
    clear hv0
    obtain ⟨h1, h12, hst⟩ := okM_true (vmB_ok hval)
    have HST := Lib.hid (fun j hj => stB_true (hst j hj))
    have Hval := Lib.hid hval
    clear hval
    go_enter Try.func32, Try.ntmps32
    go_wp2_with fail
    refine hv.out.mono ?_
    rintro e w1 ⟨rfl, hb⟩
    obtain ⟨hcc, hzz⟩ := bcell hb
    have k0 : w1.cell? ⟨w.heap.size, 0, none⟩ = some (.slice s1 R.length c1) := (hcc _ _ (by simp)).trans (by simp)
    have hB := below_step (box_below _ _) hb (by simp)
    have hlt0 : w.heap.size < w1.heap.size := by have := hb.size; simp at this; omega
    clear hcc hzz hb
    have hl := Lib.hid (landingCounts_any _ R _ (h.below hB) (vmB_ok Hval.out))
    have HB := Lib.hid hB
    clear hB h hst
    go_wp2_with fail
    refine hl.out.mono ?_
    rintro e w2 ⟨u, rfl, hu, hb2⟩
    have HU := Lib.hid (And.intro hu (And.intro (below_step HB.out hb2 HB.out.size) HB.out.size))
    clear hu hb2
    go_wp2
    go_ret2
    exact ⟨_, ret2 rfl (vint (by rw [vmC, Hval.out]; rfl)), by rw [mlL, Hval.out]; exact HU.out.1.mono HU.out.2.2 (Nat.le_refl _), HU.out.2.1⟩

set_option maxHeartbeats 4000000 in
theorem l04Sum_any (p : Value) (R : List (List Int)) (w : World) (h : RdQM w p R) (hok : okM R = true) :
    Calls Try.prog 56 #[p] w fun e w' => e = .returned (.int .i64 (sumM R R.length)) ∧ w = w' := by
  obtain ⟨h1, h12, hst⟩ := okM_true hok
  have HST := Lib.hid (fun j hj => stB_true (hst j hj))
  have HBD := Lib.hid (sumM_bd hst)
  clear hst hok
  obtain ⟨bq, s, c, rfl, hltq, d1, la, a, ca, hv, ha⟩ := h
  cases hv
  go_enter Try.func56, Try.ntmps56
  go_wp2
  go_loop [3, 4] (fun o i => ∃ r : Nat, r ≤ R.length ∧ i = .int .i64 r ∧ o = .int .i64 (sumM R r)) (fun _ i => R.length - (intOf i).toNat)
  case atStart => exact ⟨0, Nat.zero_le _, rfl, rfl⟩
  case round =>
    obtain ⟨r, hr, rfl, rfl⟩ := hrel
    have hbm := HBD.out r hr
    by_cases hltr : r < R.length
    · obtain ⟨ba, oa, cs, rfl, hba, hca⟩ := ha (by omega)
      have p0 := (hca r hltr).1
      obtain ⟨lL, aL, cL, hvL, hcL⟩ := (hca r hltr).2
      rw [hvL] at p0
      have bst := HST.out r hltr
      have HN := Lib.hid (show sumM R (r + 1) = sumM R r + sumTo (gr R r) (gr R r).length from rfl)
      obtain ⟨L, hL⟩ : ∃ L, L = gr R r := ⟨_, rfl⟩
      obtain ⟨S0, hS0⟩ : ∃ S0, S0 = sumM R r := ⟨_, rfl⟩
      rw [← hL, ← hS0] at HN
      rw [← hL] at p0 hcL lL bst
      rw [← hS0] at hbm ⊢
      have HBB := Lib.hid bst.2.2.1
      have hL4 := bst.2.1
      clear hL hS0 hvL hca ha bst
      go_wp2
      go_loop [3, 5] (fun o i => ∃ k : Nat, k ≤ L.length ∧ i = .int .i64 k ∧ o = .int .i64 (S0 + sumTo L k)) (fun _ i => L.length - (intOf i).toNat)
      case atStart => exact ⟨0, Nat.zero_le _, rfl, by simp [sumTo]⟩
      case round =>
        obtain ⟨k, hk, rfl, rfl⟩ := hrel
        have hsb := sumTo_b HBB.out k hk
        by_cases hlt : k < L.length
        · obtain ⟨bb, ob, rfl, hbb, hcb⟩ := hcL (by omega)
          have y1 := hcb k hlt
          have bt := HBB.out k hlt
          have HS := Lib.hid (show sumTo L (k + 1) = sumTo L k + gi L k from rfl)
          clear hcb hcL
          go_wp2
          go_round
          case rel => exact ⟨k + 1, by omega, by go_num, by rw [HS.out]; exact vint (by omega)⟩
          case measure => simp [intOf]; omega
        · obtain rfl : k = L.length := by omega
          go_wp2
          go_round
          case rel => exact ⟨r + 1, by omega, by go_num, by rw [HN.out]⟩
          case measure => simp [intOf]; omega
    · obtain rfl : r = R.length := by omega
      go_wp2
      go_ret
      exact ⟨rfl, rfl⟩

set_option maxHeartbeats 4000000 in
theorem specMProps_any (a : Value) (R : List (List Int)) (w : World) (h : RdR w a R) :
    Calls Try.prog 29 #[.agg #[a]] w fun e w' => e = .returned (.tuple #[.int .i64 (mpA R), .int .i64 (vmC R)]) ∧ Below w.heap.size w w' := by
  obtain ⟨s1, c1, rfl⟩ := h.form
  have hv0 := l04Ok_any _ R _ (rdQM_box h)
  cases hval : vmB R
  · rw [hval] at hv0
    have hv := Lib.hid hv0
    clear hv0 h
    go_enter Try.func29, Try.ntmps29
    go_wp2_with fail
    refine hv.out.mono ?_
    rintro e w' ⟨rfl, hb⟩
    have HB := Lib.hid (below_step (box_below _ _) hb (by simp))
    clear hb
    go_wp2
    go_ret2
    exact ⟨ret2 (vint (by rw [mpA, hval]; rfl)) (vint (by rw [vmC, hval]; rfl)), HB.out⟩
  · rw [hval] at hv0
    have hv := Lib.hid hv0
    clear hv0
    obtain ⟨h1, h12, hst⟩ := okM_true (vmB_ok hval)
    have HST := Lib.hid (fun j hj => stB_true (hst j hj))
    have Hval := Lib.hid hval
    clear hval
    go_enter Try.func29, Try.ntmps29
    go_wp2_with fail
    refine hv.out.mono ?_
    rintro e w1 ⟨rfl, hb⟩
    obtain ⟨hcc, hzz⟩ := bcell hb
    have k0 : w1.cell? ⟨w.heap.size, 0, none⟩ = some (.slice s1 R.length c1) := (hcc _ _ (by simp)).trans (by simp)
    have hB := below_step (box_below _ _) hb (by simp)
    have hlt0 : w.heap.size < w1.heap.size := by have := hb.size; simp at this; omega
    clear hcc hzz hb
    have hq : RdQM w1 (.pointer (some ⟨w.heap.size, 0, none⟩)) R := ⟨w.heap.size, s1, c1, rfl, hlt0, k0, h.below hB⟩
    have la := h.1
    have hs : Hid (∀ n, Calls Try.prog 56 #[.pointer (some ⟨w.heap.size, 0, none⟩)] (w1.drewN n) fun e w' => e = .returned (.int .i64 (sumM R R.length)) ∧ w' = w1.drewN n) := fun n => (l04Sum_any _ R _ (hq.below (below_dn w1 n)) (vmB_ok Hval.out)).mono fun e w' ⟨he, hw⟩ => ⟨he, hw.symm⟩
    have hbm := sumM_bd hst R.length (Nat.le_refl _)
    have e1 : (sumM R R.length).tdiv (R.length : Int) = sumM R R.length / (R.length : Int) := Int.tdiv_eq_ediv_of_nonneg hbm.1
    have e2 : 0 ≤ sumM R R.length / (R.length : Int) := Int.ediv_nonneg hbm.1 (by omega)
    have e3 : sumM R R.length / (R.length : Int) ≤ sumM R R.length := Int.ediv_le_self _ hbm.1
    have e4 : IntKind.i64.wrap (sumM R R.length / (R.length : Int)) = sumM R R.length / (R.length : Int) := IntWalk.i64_in _ (by omega)
    have hn0 : ¬ (R.length : Int) = 0 := by omega
    have hr0 : ¬ R.length = 0 := by omega
    have HB := Lib.hid hB
    clear hq hB h hst
    go_wp2
    go_quiet ((go_at_call 56; exact Calls.quiet_of_same (hs.out _)))
    clear e1 e4
    go_wp2
    go_ret2
    exact ⟨ret2 (vint (by rw [mpA, Hval.out]; rfl)) (vint (by rw [vmC, Hval.out]; rfl)), below_step HB.out (below_dn _ _) HB.out.size⟩

set_option maxHeartbeats 4000000 in
theorem implMProps_any (a : Value) (R : List (List Int)) (w : World) (h : RdR w a R) :
    Calls Try.prog 30 #[.agg #[a]] w fun e w' => e = .returned (.tuple #[.int .i64 (mpA R), .int .i64 (vmC R)]) ∧ Below w.heap.size w w' := by
  obtain ⟨s1, c1, rfl⟩ := h.form
  have hv0 := implValidM_any _ R (w.alloc (.cells #[.slice s1 R.length c1] 34)) (h.below (box_below _ _))
  cases hval : vmB R
  · rw [hval] at hv0
    have hv := Lib.hid hv0
    clear hv0 h
    go_enter Try.func30, Try.ntmps30
    go_wp2_with fail
    refine hv.out.mono ?_
    rintro e w' ⟨rfl, hb⟩
    have HB := Lib.hid (below_step (box_below _ _) hb (by simp))
    clear hb
    go_wp2
    go_ret2
    exact ⟨ret2 (vint (by rw [mpA, hval]; rfl)) (vint (by rw [vmC, hval]; rfl)), HB.out⟩
  · rw [hval] at hv0
    have hv := Lib.hid hv0
    clear hv0
    obtain ⟨h1, h12, hst⟩ := okM_true (vmB_ok hval)
    have HST := Lib.hid (fun j hj => stB_true (hst j hj))
    have Hval := Lib.hid hval
    clear hval
    have HBD := Lib.hid (sumM_bd hst)
    clear hst
    go_enter Try.func30, Try.ntmps30
    go_wp2_with fail
    refine hv.out.mono ?_
    rintro e w1 ⟨rfl, hb⟩
    obtain ⟨hcc, hzz⟩ := bcell hb
    have k0 : w1.cell? ⟨w.heap.size, 0, none⟩ = some (.slice s1 R.length c1) := (hcc _ _ (by simp)).trans (by simp)
    have hB := below_step (box_below _ _) hb (by simp)
    have hlt0 : w.heap.size < w1.heap.size := by have := hb.size; simp at this; omega
    clear hcc hzz hb
    have h3 := h.below hB
    have HBX := Lib.hid hB
    clear h hB
    obtain ⟨la, a, ca, hv2, ha⟩ := h3
    cases hv2
    go_wp2
    go_loop [4, 15] (fun o i => ∃ r : Nat, r ≤ R.length ∧ i = .int .i64 r ∧ o = .int .i64 (sumM R r)) (fun _ i => R.length - (intOf i).toNat)
    case atStart => exact ⟨0, Nat.zero_le _, rfl, rfl⟩
    case round =>
      obtain ⟨r, hr, rfl, rfl⟩ := hrel
      have hbm := HBD.out r hr
      by_cases hltr : r < R.length
      · obtain ⟨ba, oa, cs, rfl, hba, hca⟩ := ha (by omega)
        have p0 := (hca r hltr).1
        obtain ⟨lL, aL, cL, hvL, hcL⟩ := (hca r hltr).2
        rw [hvL] at p0
        have bst := HST.out r hltr
        have HN := Lib.hid (show sumM R (r + 1) = sumM R r + sumTo (gr R r) (gr R r).length from rfl)
        obtain ⟨L, hL⟩ : ∃ L, L = gr R r := ⟨_, rfl⟩
        obtain ⟨S0, hS0⟩ : ∃ S0, S0 = sumM R r := ⟨_, rfl⟩
        rw [← hL, ← hS0] at HN
        rw [← hL] at p0 hcL lL bst
        rw [← hS0] at hbm ⊢
        have HBB := Lib.hid bst.2.2.1
        have hL4 := bst.2.1
        clear hL hS0 hvL hca ha bst
        go_wp2
        go_loop [4, 21] (fun o i => ∃ k : Nat, k ≤ L.length ∧ i = .int .i64 k ∧ o = .int .i64 (S0 + sumTo L k)) (fun _ i => L.length - (intOf i).toNat)
        case atStart => exact ⟨0, Nat.zero_le _, rfl, by simp [sumTo]⟩
        case round =>
          obtain ⟨k, hk, rfl, rfl⟩ := hrel
          have hsb := sumTo_b HBB.out k hk
          by_cases hlt : k < L.length
          · obtain ⟨bb, ob, rfl, hbb, hcb⟩ := hcL (by omega)
            have y1 := hcb k hlt
            have bt := HBB.out k hlt
            have HS := Lib.hid (show sumTo L (k + 1) = sumTo L k + gi L k from rfl)
            clear hcb hcL
            go_wp2
            go_round
            case rel => exact ⟨k + 1, by omega, by go_num, by rw [HS.out]; exact vint (by omega)⟩
            case measure => simp [intOf]; omega
          · obtain rfl : k = L.length := by omega
            go_wp2
            go_round
            case rel => exact ⟨r + 1, by omega, by go_num, by rw [HN.out]⟩
            case measure => simp [intOf]; omega
      · obtain rfl : r = R.length := by omega
        have e1 : (sumM R R.length).tdiv (R.length : Int) = sumM R R.length / (R.length : Int) := Int.tdiv_eq_ediv_of_nonneg hbm.1
        have e2 : 0 ≤ sumM R R.length / (R.length : Int) := Int.ediv_nonneg hbm.1 (by omega)
        have e3 : sumM R R.length / (R.length : Int) ≤ sumM R R.length := Int.ediv_le_self _ hbm.1
        have hn0 : ¬ (R.length : Int) = 0 := by omega
        have hr0 : ¬ R.length = 0 := by omega
        go_wp2
        go_ret2
        exact ⟨ret2 (vint (by rw [mpA, Hval.out]; rfl)) (vint (by rw [vmC, Hval.out]; rfl)), HBX.out⟩
end Go.Proofs.Ytnmmeiffgmbcpaa
