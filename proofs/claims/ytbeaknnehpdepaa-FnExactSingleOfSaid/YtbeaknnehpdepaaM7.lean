/-
  Contracts of the functions on patterns with several throws at a beat (chapter 4), seventh part: patterns with one throw at each beat. No condition beyond each contract's own.
-/
import Derived.Test.YtbeaknnehpdepaaM4
import Derived.Test.YtbeaknnehpdepaaL02b
namespace Go.Proofs.Ytbeaknnehpdepaa
open Go.ChangeShapes Go.WideShapes Go.ChangeAt Go.RowKit


/-- The first throws of the first k beats. -/
def hdL (R : List (List Int)) (k : Nat) : List Int := (List.range k).map fun j => gi (gr R j) 0
theorem hdL_length (R : List (List Int)) (k : Nat) : (hdL R k).length = k := by simp [hdL]
theorem hdL_succ (R : List (List Int)) (k : Nat) : hdL R (k + 1) = hdL R k ++ [gi (gr R k) 0] := by simp [hdL, List.range_succ]
def oneB (R : List (List Int)) : Bool := decide (∀ j, j < R.length → ¬ 1 < (gr R j).length)
def soL (R : List (List Int)) : List Int := if vmB R && oneB R then hdL R R.length else []
def soC (R : List (List Int)) : Int := if vmB R then (if oneB R then 0 else 10) else 1
theorem oneB_no {R : List (List Int)} {k : Nat} (hk : k < R.length) (h : 1 < (gr R k).length) : oneB R = false := decide_eq_false (fun hh => hh k hk h)
theorem oneB_yes {R : List (List Int)} (h : ∀ j, j < R.length → ¬ 1 < (gr R j).length) : oneB R = true := decide_eq_true h
theorem own_hd {w : World} {lo lo' : Nat} {v : Value} {zs : List Int} (h : w.ownsRow lo 2 1 v zs.length (zs.map (Value.int .i64))) (hl : zs.length ≤ 17592186044416) (hlo : lo' ≤ lo) : Own w lo' w.heap.size v zs :=
  Own.mono ⟨hl, h, fun k hk => (h.lt k hk).2⟩ hlo (Nat.le_refl _)

set_option maxRecDepth 20000 in
set_option maxHeartbeats 4000000 in
theorem specSingle_any (a : Value) (R : List (List Int)) (w : World) (h : RdR w a R) :
    Calls Try.prog 37 #[.agg #[a]] w fun e w' => ∃ u, e = .returned (.tuple #[u, .int .i64 (soC R)]) ∧ Own w' w.heap.size w'.heap.size u (soL R) ∧ Below w.heap.size w w' := by
  obtain ⟨s1, c1, rfl⟩ := h.form
  have hv0 := l04Ok_any _ R _ (rdQM_box h)
  cases hval : vmB R
  · rw [hval] at hv0
    have hv := Lib.hid hv0
    clear hv0 h
    go_enter Try.func37, Try.ntmps37
    go_wp2_with fail
    refine hv.out.mono ?_
    rintro e w' ⟨rfl, hb⟩
    have HB := Lib.hid (below_step (box_below _ _) hb (by simp))
    clear hb
    go_wp2
    go_ret2
    exact ⟨_, ret2 rfl (vint (by rw [soC, hval]; rfl)), by rw [soL, hval]; exact own_nil _ _ _, HB.out⟩
  · rw [hval] at hv0
    have hv := Lib.hid hv0
    clear hv0
    obtain ⟨h1, h12, hst⟩ := okM_true (vmB_ok hval)
    have HST := Lib.hid (fun j hj => stB_true (hst j hj))
    have Hval := Lib.hid hval
    clear hval hst
    obtain ⟨la, a, ca, hv', ha⟩ := h
    cases hv'
    obtain ⟨ba, oa, cs, rfl, hba, hca⟩ := ha (by omega)
    have HCA := Lib.hid hca
    clear ha hca
    go_enter Try.func37, Try.ntmps37
    go_wp2_with fail
    refine hv.out.mono ?_
    rintro e w1 ⟨rfl, hb⟩
    obtain ⟨hcc, hzz⟩ := bcell hb
    have k0 : w1.cell? ⟨w.heap.size, 0, none⟩ = some (.slice (some ⟨ba, oa, none⟩) R.length c1) := (hcc _ _ (by simp)).trans (by simp)
    have hB := below_step (box_below _ _) hb (by simp)
    have hlt0 : w.heap.size < w1.heap.size := by have := hb.size; simp at this; omega
    clear hcc hzz hb
    have hs1 := hB.size
    have HB1 := Lib.hid hB
    clear hB
    go_wp2
    go_loopw [4, 5] (fun o i wr => ∃ k : Nat, k ≤ R.length ∧ i = .int .i64 k ∧ (∀ j, j < k → ¬ 1 < (gr R j).length) ∧ wr.ownsRow w1.heap.size 2 1 o (hdL R k).length ((hdL R k).map (Value.int .i64)) ∧ Below w1.heap.size w1 wr) (fun _ i _ => R.length - (intOf i).toNat)
    case atStart => exact ⟨0, Nat.zero_le _, rfl, fun j hj => absurd hj (Nat.not_lt_zero j), World.ownsRow_made w1 #[] 0 (Nat.le_refl _) (by decide) (by simp), (Below.refl _ _).alloc (Nat.le_refl _) _⟩
    case round =>
      obtain ⟨k, hk, rfl, hone, hown, hB⟩ := hrel
      have HONE := Lib.hid hone
      have hll := Lib.hid (hdL_length R k)
      have HOWN := Lib.hid (And.intro hown hB)
      have z0 : wr.cell? ⟨w.heap.size, 0, none⟩ = some (.slice (some ⟨ba, oa, none⟩) R.length c1) := (hB.cell (p := ⟨w.heap.size, 0, none⟩) hlt0).trans k0
      clear hone hown
      by_cases hlt : k < R.length
      · have p0 : wr.cell? ⟨ba, oa + k, none⟩ = some (cs k) := ((hB.cell (p := ⟨ba, oa + k, none⟩) (by show ba < _; omega)).trans (HB1.out.cell (p := ⟨ba, oa + k, none⟩) hba)).trans (HCA.out k hlt).1
        obtain ⟨lL, aL, cL, hvL, hcL⟩ := ((HCA.out k hlt).2.below HB1.out).below hB
        rw [hvL] at p0
        have hn1 := (HST.out k hlt).1
        obtain ⟨bb, ob, rfl, hbb, hcb⟩ := hcL (by omega)
        have y1 := hcb 0 (by omega)
        rw [Nat.add_zero] at y1
        have HO := Lib.hid (fun h => oneB_no (k := k) hlt h)
        have HS := Lib.hid (hdL_succ R k)
        obtain ⟨L, hL⟩ : ∃ L, L = gr R k := ⟨_, rfl⟩
        rw [← hL] at p0 lL hn1 y1 HO HS
        have HLL := Lib.hid hL
        clear hcb hcL hvL hL hB
        by_cases h2 : 1 < L.length
        · go_wp2
          go_ret2
          exact ⟨_, ret2 rfl (vint (by rw [soC, Hval.out, HO.out h2]; rfl)), by rw [soL, HO.out h2, Bool.and_false]; exact own_nil _ _ _, below_step HB1.out HOWN.out.2 hs1⟩
        · go_wp2_with (at_builtin; refine push_int rfl _ _ rfl rfl rfl HOWN.out.1 HOWN.out.2.size (by rw [hll.out]; omega) ?_; intro v' w' hown' hb')
          have HN := Lib.hid (And.intro hown' (HOWN.out.2.trans hb'))
          clear hown' hb'
          go_wp2
          go_roundw
          case rel =>
            refine ⟨k + 1, by omega, by go_num, fun j hj => ?_, by rw [HS.out]; exact HN.out.1, HN.out.2⟩
            by_cases hjk : j = k
            · rw [hjk, ← HLL.out]; exact h2
            · exact HONE.out j (by omega)
          case measure => simp [intOf]; omega
      · clear hB
        go_wp2
        go_ret2
        obtain rfl : k = R.length := by omega
        exact ⟨_, ret2 rfl (vint (by rw [soC, Hval.out, oneB_yes HONE.out]; rfl)), by rw [soL, Hval.out, oneB_yes HONE.out]; exact own_hd HOWN.out.1 (by have := hll.out; simp; omega) hs1, below_step HB1.out HOWN.out.2 hs1⟩

set_option maxRecDepth 20000 in
set_option maxHeartbeats 4000000 in
theorem implSingle_any (a : Value) (R : List (List Int)) (w : World) (h : RdR w a R) :
    Calls Try.prog 39 #[.agg #[a]] w fun e w' => ∃ u, e = .returned (.tuple #[u, .int .i64 (soC R)]) ∧ Own w' w.heap.size w'.heap.size u (soL R) ∧ Below w.heap.size w w' := by
  obtain ⟨s1, c1, rfl⟩ := h.form
  have hv0 := implValidM_any _ R (w.alloc (.cells #[.slice s1 R.length c1] 35)) (h.below (box_below _ _))
  cases hval : vmB R
  · rw [hval] at hv0
    have hv := Lib.hid hv0
    clear hv0 h
    go_enter Try.func39, Try.ntmps39
    go_wp2_with fail
    refine hv.out.mono ?_
    rintro e w' ⟨rfl, hb⟩
    have HB := Lib.hid (below_step (box_below _ _) hb (by simp))
    clear hb
    go_wp2
    go_ret2
    exact ⟨_, ret2 rfl (vint (by rw [soC, hval]; rfl)), by rw [soL, hval]; exact own_nil _ _ _, HB.out⟩
  · rw [hval] at hv0
    have hv := Lib.hid hv0
    clear hv0
    obtain ⟨h1, h12, hst⟩ := okM_true (vmB_ok hval)
    have HST := Lib.hid (fun j hj => stB_true (hst j hj))
    have Hval := Lib.hid hval
    clear hval hst
    obtain ⟨la, a, ca, hv', ha⟩ := h
    cases hv'
    obtain ⟨ba, oa, cs, rfl, hba, hca⟩ := ha (by omega)
    have HCA := Lib.hid hca
    clear ha hca
    go_enter Try.func39, Try.ntmps39
    go_wp2_with fail
    refine hv.out.mono ?_
    rintro e w1 ⟨rfl, hb⟩
    obtain ⟨hcc, hzz⟩ := bcell hb
    have k0 : w1.cell? ⟨w.heap.size, 0, none⟩ = some (.slice (some ⟨ba, oa, none⟩) R.length c1) := (hcc _ _ (by simp)).trans (by simp)
    have hB := below_step (box_below _ _) hb (by simp)
    have hlt0 : w.heap.size < w1.heap.size := by have := hb.size; simp at this; omega
    clear hcc hzz hb
    have hs1 := hB.size
    have HB1 := Lib.hid hB
    clear hB
    go_wp2
    go_loopw [4, 14] (fun o i wr => ∃ k : Nat, k ≤ R.length ∧ i = .int .i64 k ∧ (∀ j, j < k → ¬ 1 < (gr R j).length) ∧ wr.ownsRow w1.heap.size 2 1 o (hdL R k).length ((hdL R k).map (Value.int .i64)) ∧ Below w1.heap.size w1 wr) (fun _ i _ => R.length - (intOf i).toNat)
    case atStart => exact ⟨0, Nat.zero_le _, rfl, fun j hj => absurd hj (Nat.not_lt_zero j), World.ownsRow_made w1 #[] 0 (Nat.le_refl _) (by decide) (by simp), (Below.refl _ _).alloc (Nat.le_refl _) _⟩
    case round =>
      obtain ⟨k, hk, rfl, hone, hown, hB⟩ := hrel
      have HONE := Lib.hid hone
      have hll := Lib.hid (hdL_length R k)
      have HOWN := Lib.hid (And.intro hown hB)
      clear hone hown
      by_cases hlt : k < R.length
      · have p0 : wr.cell? ⟨ba, oa + k, none⟩ = some (cs k) := ((hB.cell (p := ⟨ba, oa + k, none⟩) (by show ba < _; omega)).trans (HB1.out.cell (p := ⟨ba, oa + k, none⟩) hba)).trans (HCA.out k hlt).1
        obtain ⟨lL, aL, cL, hvL, hcL⟩ := ((HCA.out k hlt).2.below HB1.out).below hB
        rw [hvL] at p0
        have hn1 := (HST.out k hlt).1
        obtain ⟨bb, ob, rfl, hbb, hcb⟩ := hcL (by omega)
        have y1 := hcb 0 (by omega)
        rw [Nat.add_zero] at y1
        have HO := Lib.hid (fun h => oneB_no (k := k) hlt h)
        have HS := Lib.hid (hdL_succ R k)
        obtain ⟨L, hL⟩ : ∃ L, L = gr R k := ⟨_, rfl⟩
        rw [← hL] at p0 lL hn1 y1 HO HS
        have HLL := Lib.hid hL
        clear hcb hcL hvL hL hB
        by_cases h2 : 1 < L.length
        · go_wp2
          go_ret2
          exact ⟨_, ret2 rfl (vint (by rw [soC, Hval.out, HO.out h2]; rfl)), by rw [soL, HO.out h2, Bool.and_false]; exact own_nil _ _ _, below_step HB1.out HOWN.out.2 hs1⟩
        · go_wp2_with (at_builtin; refine push_int rfl _ _ rfl rfl rfl HOWN.out.1 HOWN.out.2.size (by rw [hll.out]; omega) ?_; intro v' w' hown' hb')
          have HN := Lib.hid (And.intro hown' (HOWN.out.2.trans hb'))
          clear hown' hb'
          go_wp2
          go_roundw
          case rel =>
            refine ⟨k + 1, by omega, by go_num, fun j hj => ?_, by rw [HS.out]; exact HN.out.1, HN.out.2⟩
            by_cases hjk : j = k
            · rw [hjk, ← HLL.out]; exact h2
            · exact HONE.out j (by omega)
          case measure => simp [intOf]; omega
      · clear hB
        go_wp2
        go_ret2
        obtain rfl : k = R.length := by omega
        exact ⟨_, ret2 rfl (vint (by rw [soC, Hval.out, oneB_yes HONE.out]; rfl)), by rw [soL, Hval.out, oneB_yes HONE.out]; exact own_hd HOWN.out.1 (by have := hll.out; simp; omega) hs1, below_step HB1.out HOWN.out.2 hs1⟩
end Go.Proofs.Ytbeaknnehpdepaa
