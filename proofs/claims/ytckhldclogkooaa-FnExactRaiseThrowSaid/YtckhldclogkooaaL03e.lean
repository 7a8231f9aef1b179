/-
  Contracts of the operations on patterns (chapter 3), fifth part: a throw raised. No condition beyond each contract's own.
-/
import Derived.Test.YtckhldclogkooaaL03c
import Derived.Deep.RegionWith
namespace Go.Proofs.Ytckhldclogkooaa
open Go.ChangeShapes Go.WideShapes Go.ChangeAt Go.RowKit


/-- RaiseThrow: the list with throw j raised by a period; the code; the answer. -/
def raL (p : List Int) (j : Nat) : List Int := p.set j (gi p j + p.length)
def raC (p : List Int) (i : Int) : Int := if validB p then (if btw i 0 ((p.length : Int) - 1) && decide (gi p i.toNat + (p.length : Int) ≤ 15) then 0 else 2) else 1
def raR (p : List Int) (i : Int) : List Int := if raC p i = 0 then raL p i.toNat else []
theorem ra_ok {p : List Int} {j : Nat} (h : okT p = true) (hj : j < p.length) : okT (raL p j) = decide (gi p j + (p.length : Int) ≤ 15) := by
  obtain ⟨h1, h12, hb⟩ := okT_true h
  rw [Bool.eq_iff_iff]
  simp only [okT, raL, decide_eq_true_eq, List.length_set]
  constructor
  · rintro ⟨_, _, hh⟩
    have := hh j hj
    rw [gi_set hj, if_pos rfl] at this
    exact this.2
  · intro hle
    refine ⟨h1, h12, fun t ht => ?_⟩
    rw [gi_set hj]
    split
    · have := hb j hj; omega
    · exact hb t ht

set_option maxHeartbeats 2000000 in
theorem specRaise_any (v : Value) (p : List Int) (i : Int) (w : World) (hp : Rd w v p) :
    Calls Try.prog 39 #[v, .int .i64 i] w fun e w' => ∃ u, e = .returned (.tuple #[u, .int .i64 (raC p i)]) ∧ Own w' w.heap.size w'.heap.size u (raR p i) ∧ Below w.heap.size w w' := by
  have hv := Lib.hid (l02Ok_any v p w hp)
  have hp0 := hp
  obtain ⟨la, a, ca, rfl, ha⟩ := hp
  clear ha
  cases hval : validB p
  · rw [hval] at hv
    have hc : raC p i = 1 := by rw [raC, hval]; rfl
    have Hc := Lib.hid hc
    rw [hc]
    clear hc
    go_enter Try.func39, Try.ntmps39
    go_wp2_with fail
    refine hv.out.mono ?_
    rintro e w' ⟨rfl, n, rfl⟩
    go_wp2
    go_ret2
    exact ⟨_, rfl, by rw [raR, if_neg (by rw [Hc.out]; decide)]; exact own_nil _ _ _, below_dn _ _⟩
  · rw [hval] at hv
    obtain ⟨h1, h12, hbd⟩ := validB_true hval
    have hok := okT_of_valid hval
    cases hbt : btw i 0 ((p.length : Int) - 1)
    · have hc : raC p i = 2 := by rw [raC, hval, hbt]; rfl
      have Hc := Lib.hid hc
      rw [hc]
      clear hc hbd hok
      go_enter Try.func39, Try.ntmps39
      go_wp2_with fail
      refine hv.out.mono ?_
      rintro e w' ⟨rfl, n, rfl⟩
      go_wp2_with (go_at_call 62; refine (l00In_any _ _ _ _).mono ?_; rintro e w' ⟨rfl, rfl⟩)
      go_ret2
      exact ⟨_, rfl, by rw [raR, if_neg (by rw [Hc.out]; decide)]; exact own_nil _ _ _, below_dn _ _⟩
    · obtain ⟨b1, b2⟩ := btw_iff.1 hbt
      obtain ⟨j, rfl⟩ : ∃ j : Nat, i = j := ⟨i.toNat, by omega⟩
      have hj : j < p.length := by omega
      have hbj := hbd j hj
      have hok2 := Lib.hid (ra_ok hok hj)
      have hrc : raC p (j : Int) = if okT (raL p j) then 0 else 2 := by
        rw [raC, hval, hbt, hok2.out]
        simp
      have Hrc := Lib.hid hrc
      have Hbt := Lib.hid hbt
      have hq : Hid ((j : Int).toNat = j) := Int.toNat_natCast j
      clear hbd hok hval hrc
      go_enter Try.func39, Try.ntmps39
      go_wp2_with fail
      refine hv.out.mono ?_
      rintro e w' ⟨rfl, n, hw'⟩
      have hb1 : Below w.heap.size w w' := by rw [hw']; exact below_dn _ _
      clear hw'
      go_wp2_with (go_at_call 62; refine (l00In_any _ _ _ _).mono ?_; rintro e w' ⟨rfl, rfl⟩)
      refine (l00Own_any _ p _ (hp0.below hb1) h1).mono ?_
      rintro e w2 ⟨u, rfl, hown, hb2⟩
      have hB := below_step hb1 hb2 hb1.size
      obtain ⟨g, cap, rfl, hlo, hhi, hgs, hcg, hfg⟩ := hown.opened h1
      have hcj := hcg j hj
      have hfj := hfg j
      have hset := Own.set rfl hown j (gi p j + p.length)
      have hs1 := hb1.size
      have hB3 := hB.setCell (p := ⟨g, j, none⟩) (by show w.heap.size ≤ g; omega) (.int .i64 (gi p j + p.length))
      have Hset := Lib.hid hset
      have HB3 := Lib.hid hB3
      clear hcg hfg hset hB3 hown hbt
      go_wp2_with fail
      cases hok3 : okT (raL p j)
      · refine (l03Checked_no _ _ _ Hset.out.rd hok3).mono ?_
        rintro e w4 ⟨rfl, rfl⟩
        go_wp2
        go_ret2
        have hc : raC p (j : Int) = 2 := by rw [Hrc.out, hok3]; rfl
        exact ⟨_, ret2 rfl (vint hc.symm), by rw [raR, if_neg (by rw [hc]; decide)]; exact own_nil _ _ _, HB3.out⟩
      · refine (l03Checked_yes _ _ _ Hset.out.rd hok3).mono ?_
        rintro e w4 ⟨rfl, rfl⟩
        go_wp2
        go_ret2
        have hc : raC p (j : Int) = 0 := by rw [Hrc.out, hok3]; rfl
        refine ⟨_, ret2 rfl (vint hc.symm), ?_, HB3.out⟩
        rw [raR, if_pos hc, hq.out]
        exact Hset.out.mono hs1 (by simp)

theorem own_drew {w : World} {lo hi : Nat} {v : Value} {zs : List Int} (h : Own w lo hi v zs) : Own w.drew lo hi v zs := h

set_option maxHeartbeats 2000000 in
theorem implRaise_any (v : Value) (p : List Int) (i : Int) (w : World) (hp : Rd w v p) :
    Calls Try.prog 40 #[v, .int .i64 i] w fun e w' => ∃ u, e = .returned (.tuple #[u, .int .i64 (raC p i)]) ∧ Own w' w.heap.size w'.heap.size u (raR p i) ∧ Below w.heap.size w w' := by
  have hv := Lib.hid (implValid_any v p w hp)
  have hp0 := hp
  obtain ⟨la, a, ca, rfl, ha⟩ := hp
  cases hval : validB p
  · rw [hval] at hv
    have hc : raC p i = 1 := by rw [raC, hval]; rfl
    have Hc := Lib.hid hc
    rw [hc]
    clear hc ha
    go_enter Try.func40, Try.ntmps40
    go_wp2_with fail
    refine hv.out.mono ?_
    rintro e w' ⟨rfl, hb⟩
    go_wp2
    go_ret2
    exact ⟨_, rfl, by rw [raR, if_neg (by rw [Hc.out]; decide)]; exact own_nil _ _ _, hb⟩
  · rw [hval] at hv
    obtain ⟨h1, h12, hbd⟩ := validB_true hval
    obtain ⟨ba, oa, rfl, hba, hca⟩ := ha (by omega)
    clear ha
    cases hbt : btw i 0 ((p.length : Int) - 1)
    · have hc : raC p i = 2 := by rw [raC, hval, hbt]; rfl
      have Hc := Lib.hid hc
      have Hbt := Lib.hid hbt
      rw [hc]
      clear hc hbd hca hbt
      go_enter Try.func40, Try.ntmps40
      go_wp2_with fail
      refine hv.out.mono ?_
      rintro e w1 ⟨rfl, hb⟩
      have hix : Hid (∀ n, Calls Try.prog 69 #[.slice (some ⟨ba, oa, none⟩) p.length ca, .int .i64 i] (w1.drewN n) fun e w' => e = .returned (.bool false) ∧ w' = w1.drewN n) := fun n => (isIndex_any _ p i _ ((hp0.below hb).drewN n)).mono fun e w' ⟨he, hw⟩ => ⟨by rw [he, Hbt.out], hw.symm⟩
      go_wp2
      go_quiet ((go_at_call 69; exact Calls.quiet_of_same (hix.out _)))
      go_wp2
      go_ret2
      exact ⟨_, rfl, by rw [raR, if_neg (by rw [Hc.out]; decide)]; exact own_nil _ _ _, below_step hb (below_dn _ _) hb.size⟩
    · obtain ⟨b1, b2⟩ := btw_iff.1 hbt
      obtain ⟨j, rfl⟩ : ∃ j : Nat, i = j := ⟨i.toNat, by omega⟩
      have hj : j < p.length := by omega
      have hbj := hbd j hj
      have hcj0 := hca j hj
      have hq : Hid ((j : Int).toNat = j) := Int.toNat_natCast j
      have hrc : Hid (raC p (j : Int) = if decide (gi p j + (p.length : Int) ≤ 15) = true then 0 else 2) := by
        show raC p (j : Int) = _
        rw [raC, hval, hbt, Int.toNat_natCast]
        simp
      have Hbt := Lib.hid hbt
      have esum : IntKind.i64.wrap (gi p j + (p.length : Int)) = gi p j + (p.length : Int) := IntWalk.i64_in _ (by omega)
      clear hbd hca hval hbt
      cases hle : decide (gi p j + (p.length : Int) ≤ 15)
      · have hc : raC p (j : Int) = 2 := by rw [hrc.out, hle]; rfl
        have Hc := Lib.hid hc
        rw [hc]
        have hgt : decide ((15 : Int) < gi p j + (p.length : Int)) = true := by simp at hle ⊢; omega
        clear hc hle
        go_enter Try.func40, Try.ntmps40
        go_wp2_with fail
        refine hv.out.mono ?_
        rintro e w1 ⟨rfl, hb⟩
        have hcj := (hb.cell (p := ⟨ba, oa + j, none⟩) hba).trans hcj0
        have hix : Hid (∀ n, Calls Try.prog 69 #[.slice (some ⟨ba, oa, none⟩) p.length ca, .int .i64 (j : Int)] (w1.drewN n) fun e w' => e = .returned (.bool true) ∧ w' = w1.drewN n) := fun n => (isIndex_any _ p _ _ ((hp0.below hb).drewN n)).mono fun e w' ⟨he, hw⟩ => ⟨by rw [he, Hbt.out], hw.symm⟩
        have hpe : Hid (∀ n, Calls Try.prog 65 #[.slice (some ⟨ba, oa, none⟩) p.length ca] (w1.drewN n) fun e w' => e = .returned (.int .i64 p.length) ∧ w' = w1.drewN n) := fun n => (period_any _ p _ ((hp0.below hb).drewN n)).mono fun e w' ⟨he, hw⟩ => ⟨he, hw.symm⟩
        clear hcj0
        go_wp2
        go_quiet ((first | (go_at_call 69; exact Calls.quiet_of_same (hix.out _)) | (go_at_call 65; exact Calls.quiet_of_same (hpe.out _))))
        go_wp2
        go_ret2
        exact ⟨_, rfl, by rw [raR, if_neg (by rw [Hc.out]; decide)]; exact own_nil _ _ _, below_step hb (below_dn _ _) hb.size⟩
      · have hc : raC p (j : Int) = 0 := by rw [hrc.out, hle]; rfl
        have hR : raR p (j : Int) = raL p j := by rw [raR, if_pos hc, hq.out]
        rw [hc, hR]
        have hgt : decide ((15 : Int) < gi p j + (p.length : Int)) = false := by simp at hle ⊢; omega
        clear hc hle hR
        go_enter Try.func40, Try.ntmps40
        go_wp2_with fail
        refine hv.out.mono ?_
        rintro e w1 ⟨rfl, hb⟩
        have hcj := (hb.cell (p := ⟨ba, oa + j, none⟩) hba).trans hcj0
        have hix : Hid (∀ n, Calls Try.prog 69 #[.slice (some ⟨ba, oa, none⟩) p.length ca, .int .i64 (j : Int)] (w1.drewN n) fun e w' => e = .returned (.bool true) ∧ w' = w1.drewN n) := fun n => (isIndex_any _ p _ _ ((hp0.below hb).drewN n)).mono fun e w' ⟨he, hw⟩ => ⟨by rw [he, Hbt.out], hw.symm⟩
        have hpe : Hid (∀ n, Calls Try.prog 65 #[.slice (some ⟨ba, oa, none⟩) p.length ca] (w1.drewN n) fun e w' => e = .returned (.int .i64 p.length) ∧ w' = w1.drewN n) := fun n => (period_any _ p _ ((hp0.below hb).drewN n)).mono fun e w' ⟨he, hw⟩ => ⟨he, hw.symm⟩
        clear hcj0
        go_wp2
        go_quiet ((first | (go_at_call 69; exact Calls.quiet_of_same (hix.out _)) | (go_at_call 65; exact Calls.quiet_of_same (hpe.out _))))
        clear hgt hcj
        go_wp2_with fail
        have hB1 := below_step hb (below_dn w1 nq) hb.size
        refine (copyNumbers_any _ p _ ((hp0.below hb).drewN nq) h1).mono ?_
        rintro e w2 ⟨u, rfl, hown, hb2⟩
        have hB := below_step hB1 hb2 hB1.size
        obtain ⟨g, cap, rfl, hlo, hhi, hgs, hcg, hfg⟩ := hown.opened h1
        have hcj := hcg j hj
        have hfj := hfg j
        have Hset := Lib.hid (Own.set rfl hown j (gi p j + p.length))
        have hs1 := hb.size
        have hlo' : w1.heap.size ≤ g := hlo
        have HB3 := Lib.hid (hB.setCell (p := ⟨g, j, none⟩) (by show w.heap.size ≤ g; omega) (.int .i64 (gi p j + p.length)))
        have hp2 : Hid (Rd w2 (.slice (some ⟨ba, oa, none⟩) p.length ca) p) := hp0.below hB
        clear hcg hfg hown hix hpe hlo
        go_wp2_with fail
        go_region_with (go_at_call 65; refine (period_any _ p _ ?_).mono ?_; exact hp2.out; rintro e w' ⟨rfl, rfl⟩)
        all_goals
          go_wp2
          go_ret2
          exact ⟨_, rfl, own_drew (Hset.out.mono hs1 (by simp)), HB3.out.drew⟩
end Go.Proofs.Ytckhldclogkooaa
