/-
  Contracts of the functions on patterns with several throws at a beat (chapter 4), fourth part: validity. No condition beyond each contract's own.
-/
import Derived.Test.YtloebbeaccjgjaaM3
namespace Go.Proofs.Ytloebbeaccjgjaa
open Go.ChangeShapes Go.WideShapes Go.ChangeAt Go.RowKit


/-- How many props are thrown at a beat. -/
def thM (L : List Int) : Int := if gi L 0 = 0 then 0 else (L.length : Int)
/-- A valid pattern. -/
def vmB (R : List (List Int)) : Bool := okM R && decide (∀ i, i < R.length → gi (allC R R.length R.length) i = thM (gr R i))
theorem vmB_ok {R : List (List Int)} (h : vmB R = true) : okM R = true := by
  simp only [vmB, Bool.and_eq_true] at h
  exact h.1
theorem vmB_shape {R : List (List Int)} (h : okM R = false) : vmB R = false := by rw [vmB, h]; rfl
theorem vmB_no {R : List (List Int)} {i : Nat} (hi : i < R.length) (h : gi (allC R R.length R.length) i ≠ thM (gr R i)) : vmB R = false := by
  rw [vmB, decide_eq_false (fun hh => h (hh i hi))]
  simp
theorem vmB_yes {R : List (List Int)} (h : okM R = true) (hh : ∀ i, i < R.length → gi (allC R R.length R.length) i = thM (gr R i)) : vmB R = true := by
  rw [vmB, h, decide_eq_true hh]
  rfl

theorem thrown_any (v : Value) (L : List Int) (w : World) (hp : Rd w v L) (h1 : 1 ≤ L.length) (_hst : gi L 0 = 0 → L.length = 1) :
    Calls Try.prog 44 #[v] w fun e w' => e = .returned (.int .i64 (thM L)) ∧ w = w' := by
  obtain ⟨la, a, ca, rfl, ha⟩ := hp
  obtain ⟨ba, oa, rfl, hba, hca⟩ := ha (by omega)
  have p1 := hca 0 (by omega)
  rw [Nat.add_zero] at p1
  clear ha hca
  by_cases h0 : gi L 0 = 0
  · have ht : Hid (thM L = 0) := by show thM L = 0; rw [thM, if_pos h0]
    have e0 : (gi L 0 == 0) = true := bT h0
    rw [ht.out]
    rw [h0] at p1
    clear h0 e0
    go_enter Try.func44, Try.ntmps44
    go_wp2
    go_ret
    exact ⟨rfl, rfl⟩
  · have ht : Hid (thM L = L.length) := by show thM L = _; rw [thM, if_neg h0]
    have e0 : (gi L 0 == 0) = false := bF h0
    rw [ht.out]
    go_enter Try.func44, Try.ntmps44
    go_wp2
    go_ret
    exact ⟨rfl, rfl⟩

theorem l04Thrown_any (v : Value) (L : List Int) (w : World) (hp : Rd w v L) (h1 : 1 ≤ L.length) (hst : gi L 0 = 0 → L.length = 1) :
    Calls Try.prog 41 #[v] w fun e w' => e = .returned (.int .i64 (thM L)) ∧ w = w' := by
  obtain ⟨la, a, ca, rfl, ha⟩ := hp
  obtain ⟨ba, oa, rfl, hba, hca⟩ := ha (by omega)
  have p1 := hca 0 (by omega)
  rw [Nat.add_zero] at p1
  clear ha hca
  by_cases h0 : gi L 0 = 0
  · have ht : Hid (thM L = 0) := by show thM L = 0; rw [thM, if_pos h0]
    have hl := hst h0
    have hl2 : ((L.length : Int) == 1) = true := bT (by omega)
    rw [ht.out]
    clear hst hl
    rw [h0] at p1
    clear h0
    go_enter Try.func41, Try.ntmps41
    go_wp2
    go_ret
    exact ⟨rfl, rfl⟩
  · have ht : Hid (thM L = L.length) := by show thM L = _; rw [thM, if_neg h0]
    have e0 : (gi L 0 == 0) = false := bF h0
    rw [ht.out]
    clear hst
    cases hl2 : ((L.length : Int) == 1)
    all_goals
      go_enter Try.func41, Try.ntmps41
      go_wp2
      go_ret
      exact ⟨rfl, rfl⟩

set_option maxRecDepth 20000 in
set_option maxHeartbeats 4000000 in
theorem l04Ok_any (p : Value) (R : List (List Int)) (w : World) (h : RdQM w p R) :
    Calls Try.prog 26 #[p] w fun e w' => e = .returned (.bool (vmB R)) ∧ Below w.heap.size w w' := by
  have hs := l04Shape_any p R w h
  cases hok : okM R
  · rw [hok] at hs
    have HS := Lib.hid hs
    clear hs
    go_enter Try.func26, Try.ntmps26
    go_wp2_with fail
    refine HS.out.mono ?_
    rintro e w' ⟨rfl, n, rfl⟩
    go_wp2
    go_ret
    exact ⟨ret_bool (vmB_shape hok).symm, below_dn _ _⟩
  · rw [hok] at hs
    have HS := Lib.hid hs
    clear hs
    have hld := Lib.hid (fun W (hW : Below w.heap.size w W) => l04Landings_any p R W (h.below hW) hok)
    obtain ⟨h1, h12, hst⟩ := okM_true hok
    have HST := Lib.hid (fun j hj => stB_true (hst j hj))
    have Hok := Lib.hid hok
    clear hst hok
    obtain ⟨bq, s, c, rfl, hltq, d1, la, a, ca, hv, ha⟩ := h
    cases hv
    obtain ⟨ba, oa, cs, rfl, hba, hca⟩ := ha (by omega)
    have HCA := Lib.hid hca
    clear ha hca
    go_enter Try.func26, Try.ntmps26
    go_wp2_with fail
    refine HS.out.mono ?_
    rintro e w0 ⟨rfl, n0, hw0⟩
    have hB0 : Below w.heap.size w w0 := by rw [hw0]; exact below_dn _ _
    clear hw0
    go_wp2_with fail
    refine (hld.out _ hB0).mono ?_
    rintro e w1 ⟨u, rfl, hu, hb1⟩
    have hB1 := below_step hB0 hb1 hB0.size
    clear hb1 hB0
    obtain ⟨lC, aC, cC, hvC, hcC⟩ := hu.rd
    subst hvC
    obtain ⟨C, hC⟩ : ∃ C, C = allC R R.length R.length := ⟨_, rfl⟩
    have hCl : C.length = R.length := by rw [hC]; exact allC_length _ _ _
    rw [← hC] at hcC lC ⊢
    have HCC := Lib.hid hC
    obtain ⟨bc, oc, rfl, hbc, hcc⟩ := hcC (by omega)
    rw [hCl] at hcc ⊢
    have z1 := (hB1.cell (p := ⟨bq, 0, none⟩) hltq).trans d1
    have HB1 := Lib.hid hB1
    have HU := Lib.hid hcc
    clear hcC hu hC hCl lC hcc d1
    go_wp2
    go_loopw [4] (fun i wr => ∃ k q : Nat, k ≤ R.length ∧ i = .int .i64 k ∧ (∀ j, j < k → gi C j = thM (gr R j)) ∧ wr = w1.drewN q) (fun i _ => R.length - (intOf i).toNat)
    case atStart => exact ⟨0, 0, Nat.zero_le _, rfl, fun j hj => absurd hj (Nat.not_lt_zero j), rfl⟩
    case round =>
      obtain ⟨k, q, hk, rfl, heq, hwr⟩ := hrel
      have Heq := Lib.hid heq
      clear heq
      by_cases hlt : k < R.length
      · have y0 : wr.cell? ⟨bq, 0, none⟩ = some (.slice (some ⟨ba, oa, none⟩) R.length c) := by rw [hwr]; exact z1
        have y1 : wr.cell? ⟨bc, oc + k, none⟩ = some (.int .i64 (gi C k)) := by rw [hwr]; exact HU.out k hlt
        have y2 : wr.cell? ⟨ba, oa + k, none⟩ = some (cs k) := by rw [hwr]; exact (HB1.out.cell (p := ⟨ba, oa + k, none⟩) hba).trans (HCA.out k hlt).1
        have hth : Hid (∀ n, Calls Try.prog 41 #[cs k] (wr.drewN n) fun e w' => e = .returned (.int .i64 (thM (gr R k))) ∧ w' = wr.drewN n) := by
          intro n
          rw [hwr]
          exact (l04Thrown_any _ (gr R k) _ ((((HCA.out k hlt).2.below HB1.out).drewN q).drewN n) (HST.out k hlt).1 (HST.out k hlt).2.2.2).mono fun e w' ⟨he, hw⟩ => ⟨he, hw.symm⟩
        have Hwr := Lib.hid hwr
        clear hwr
        cases hd : (gi C k == thM (gr R k))
        all_goals
          have Hd := Lib.hid hd
          go_wp2
          go_quiet ((go_at_call 41; exact Calls.quiet_of_same (hth.out _)))
          go_wp2
        · go_ret
          exact ⟨ret_bool (vmB_no hlt (by rw [← HCC.out]; exact fun h => by have := Hd.out; rw [h] at this; simp at this)).symm, by rw [Hwr.out]; exact below_step HB1.out (below_dn2 _ _ _) HB1.out.size⟩
        · go_roundw
          case rel =>
            refine ⟨k + 1, _, by omega, by go_num, fun j hj => ?_, by rw [Hwr.out]; exact dd2 _ _ _⟩
            by_cases hjk : j = k
            · rw [hjk]; simpa using Hd.out
            · exact Heq.out j (by omega)
          case measure => simp [intOf]; omega
      · go_wp2
        go_ret
        obtain rfl : k = R.length := by omega
        exact ⟨ret_bool (vmB_yes Hok.out (by rw [← HCC.out]; exact Heq.out)).symm, below_step HB1.out (below_dn _ _) HB1.out.size⟩

set_option maxRecDepth 20000 in
set_option maxHeartbeats 4000000 in
theorem implValidM_any (a : Value) (R : List (List Int)) (w : World) (h : RdR w a R) :
    Calls Try.prog 29 #[.agg #[a]] w fun e w' => e = .returned (.bool (vmB R)) ∧ Below w.heap.size w w' := by
  obtain ⟨s1, c1, rfl⟩ := h.form
  have hs := fun W (hW : Below w.heap.size w W) => areStacks_any _ R W (h.below hW)
  cases hok : okM R
  · rw [hok] at hs
    have HS := Lib.hid hs
    clear hs h
    go_enter Try.func29, Try.ntmps29
    go_wp2_with fail
    refine (HS.out _ (box_below _ _)).mono ?_
    rintro e w' ⟨rfl, rfl⟩
    go_wp2
    go_ret
    exact ⟨ret_bool (vmB_shape hok).symm, box_below _ _⟩
  · rw [hok] at hs
    have HS := Lib.hid hs
    clear hs
    have hld := Lib.hid (fun W (hW : Below w.heap.size w W) => landingCounts_any _ R W (h.below hW) hok)
    obtain ⟨h1, h12, hst⟩ := okM_true hok
    have HST := Lib.hid (fun j hj => stB_true (hst j hj))
    have Hok := Lib.hid hok
    clear hst hok
    obtain ⟨la, a, ca, hv, ha⟩ := h
    cases hv
    obtain ⟨ba, oa, cs, rfl, hba, hca⟩ := ha (by omega)
    have HCA := Lib.hid hca
    clear ha hca
    go_enter Try.func29, Try.ntmps29
    go_wp2_with fail
    refine (HS.out _ (box_below _ _)).mono ?_
    rintro e w0 ⟨rfl, rfl⟩
    go_wp2_with fail
    refine (hld.out _ (box_below _ _)).mono ?_
    rintro e w1 ⟨u, rfl, hu, hb1⟩
    obtain ⟨hcx, hzx⟩ := bcell hb1
    have z1 : w1.cell? ⟨w.heap.size, 0, none⟩ = some (.slice (some ⟨ba, oa, none⟩) R.length c1) := (hcx _ _ (by simp)).trans (by simp)
    have hB1 := below_step (box_below _ _) hb1 (by simp)
    clear hb1 hcx hzx
    obtain ⟨lC, aC, cC, hvC, hcC⟩ := hu.rd
    subst hvC
    obtain ⟨C, hC⟩ : ∃ C, C = allC R R.length R.length := ⟨_, rfl⟩
    have hCl : C.length = R.length := by rw [hC]; exact allC_length _ _ _
    rw [← hC] at hcC lC ⊢
    have HCC := Lib.hid hC
    obtain ⟨bc, oc, rfl, hbc, hcc⟩ := hcC (by omega)
    rw [hCl] at hcc ⊢
    have HB1 := Lib.hid hB1
    have HU := Lib.hid hcc
    clear hcC hu hC hCl lC hcc hB1
    go_wp2
    go_loop [13] (fun i => ∃ k : Nat, k ≤ R.length ∧ i = .int .i64 k ∧ (∀ j, j < k → gi C j = thM (gr R j))) (fun i => R.length - (intOf i).toNat)
    case atStart => exact ⟨0, Nat.zero_le _, rfl, fun j hj => absurd hj (Nat.not_lt_zero j)⟩
    case round =>
      obtain ⟨k, hk, rfl, heq⟩ := hrel
      have Heq := Lib.hid heq
      clear heq
      by_cases hlt : k < R.length
      · have y1 := HU.out k hlt
        have y2 := (HB1.out.cell (p := ⟨ba, oa + k, none⟩) hba).trans (HCA.out k hlt).1
        have hth := Lib.hid (thrown_any _ (gr R k) _ ((HCA.out k hlt).2.below HB1.out) (HST.out k hlt).1 (HST.out k hlt).2.2.2)
        cases hd : (gi C k == thM (gr R k))
        all_goals
          have Hd := Lib.hid hd
          go_wp2_with (go_at_call 44; refine hth.out.mono ?_; rintro e w' ⟨rfl, rfl⟩)
        · go_ret
          exact ⟨ret_bool (vmB_no hlt (by rw [← HCC.out]; exact fun h => by have := Hd.out; rw [h] at this; simp at this)).symm, HB1.out⟩
        · go_round
          case rel =>
            refine ⟨k + 1, by omega, by go_num, fun j hj => ?_⟩
            by_cases hjk : j = k
            · rw [hjk]; simpa using Hd.out
            · exact Heq.out j (by omega)
          case measure => simp [intOf]; omega
      · go_wp2
        go_ret
        obtain rfl : k = R.length := by omega
        exact ⟨ret_bool (vmB_yes Hok.out (by rw [← HCC.out]; exact Heq.out)).symm, HB1.out⟩
end Go.Proofs.Ytloebbeaccjgjaa
