/-
  Contracts of the operations on patterns (chapter 3), sixth part: landings swapped. No condition beyond each contract's own.
-/
import Derived.Test.YtbeaknnehpdepaaL03c
import Derived.Deep.RegionWith
namespace Go.Proofs.Ytbeaknnehpdepaa
open Go.ChangeShapes Go.WideShapes Go.ChangeAt Go.RowKit


/-- SwapLandings: the list with the landings of throws i and k exchanged; the code; the answer. -/
def swL (p : List Int) (i k : Nat) : List Int := (p.set i (gi p k + k - i)).set k (gi p i + i - k)
def swC (p : List Int) (i k : Int) : Int := if validB p then (if btw i 0 ((p.length : Int) - 1) && btw k 0 ((p.length : Int) - 1) && okT (swL p i.toNat k.toNat) then 0 else 2) else 1
def swR (p : List Int) (i k : Int) : List Int := if swC p i k = 0 then swL p i.toNat k.toNat else []

set_option maxHeartbeats 4000000 in
theorem specSwap_any (v : Value) (p : List Int) (i k : Int) (w : World) (hp : Rd w v p) :
    Calls Try.prog 13 #[v, .int .i64 i, .int .i64 k] w fun e w' => ∃ u, e = .returned (.tuple #[u, .int .i64 (swC p i k)]) ∧ Own w' w.heap.size w'.heap.size u (swR p i k) ∧ Below w.heap.size w w' := by
  have hv := Lib.hid (l02Ok_any v p w hp)
  have hp0 := hp
  obtain ⟨la, a, ca, rfl, ha⟩ := hp
  cases hval : validB p
  · rw [hval] at hv
    have hc : swC p i k = 1 := by rw [swC, hval]; rfl
    have Hc := Lib.hid hc
    rw [hc]
    clear hc ha
    go_enter Try.func13, Try.ntmps13
    go_wp2_with fail
    refine hv.out.mono ?_
    rintro e w' ⟨rfl, n, rfl⟩
    go_wp2
    go_ret2
    exact ⟨_, rfl, by rw [swR, if_neg (by rw [Hc.out]; decide)]; exact own_nil _ _ _, below_dn _ _⟩
  · rw [hval] at hv
    obtain ⟨h1, h12, hbd⟩ := validB_true hval
    obtain ⟨ba, oa, rfl, hba, hca⟩ := ha (by omega)
    clear ha
    cases hbi : btw i 0 ((p.length : Int) - 1)
    · have hc : swC p i k = 2 := by rw [swC, hval, hbi]; rfl
      have Hc := Lib.hid hc
      rw [hc]
      clear hc hbd hca
      go_enter Try.func13, Try.ntmps13
      go_wp2_with fail
      refine hv.out.mono ?_
      rintro e w' ⟨rfl, n, rfl⟩
      go_wp2_with (go_at_call 46; refine (l00In_any _ _ _ _).mono ?_; rintro e w' ⟨rfl, rfl⟩)
      go_ret2
      exact ⟨_, rfl, by rw [swR, if_neg (by rw [Hc.out]; decide)]; exact own_nil _ _ _, below_dn _ _⟩
    cases hbk : btw k 0 ((p.length : Int) - 1)
    · have hc : swC p i k = 2 := by rw [swC, hval, hbi, hbk]; rfl
      have Hc := Lib.hid hc
      rw [hc]
      clear hc hbd hca
      go_enter Try.func13, Try.ntmps13
      go_wp2_with fail
      refine hv.out.mono ?_
      rintro e w' ⟨rfl, n, rfl⟩
      go_wp2_with (go_at_call 46; refine (l00In_any _ _ _ _).mono ?_; rintro e w' ⟨rfl, rfl⟩)
      go_ret2
      exact ⟨_, rfl, by rw [swR, if_neg (by rw [Hc.out]; decide)]; exact own_nil _ _ _, below_dn _ _⟩
    obtain ⟨b1, b2⟩ := btw_iff.1 hbi
    obtain ⟨b3, b4⟩ := btw_iff.1 hbk
    obtain ⟨i, rfl⟩ : ∃ j : Nat, i = j := ⟨i.toNat, by omega⟩
    obtain ⟨k, rfl⟩ : ∃ j : Nat, k = j := ⟨k.toNat, by omega⟩
    have hi : i < p.length := by omega
    have hk : k < p.length := by omega
    have gb1 := hbd i hi
    have gb2 := hbd k hk
    have ci0 := hca i hi
    have ck0 := hca k hk
    have hsc : Hid (swC p (i : Int) (k : Int) = if okT (swL p i k) then 0 else 2) := by
      show swC p (i : Int) (k : Int) = _
      rw [swC, hval, hbi, hbk, Int.toNat_natCast, Int.toNat_natCast]
      simp
    have hsr : Hid (swL p (i : Int).toNat (k : Int).toNat = swL p i k) := by
      show swL p (i : Int).toNat (k : Int).toNat = swL p i k
      rw [Int.toNat_natCast, Int.toNat_natCast]
    have Hbi := Lib.hid hbi
    have Hbk := Lib.hid hbk
    clear hbd hval hca
    go_enter Try.func13, Try.ntmps13
    go_wp2_with fail
    refine hv.out.mono ?_
    rintro e w1 ⟨rfl, n, hw'⟩
    have hb1 : Below w.heap.size w w1 := by rw [hw']; exact below_dn _ _
    clear hw'
    go_wp2_with (go_at_call 46; refine (l00In_any _ _ _ _).mono ?_; rintro e w' ⟨rfl, rfl⟩)
    refine (l00Own_any _ p _ (hp0.below hb1) h1).mono ?_
    rintro e w2 ⟨u, rfl, hown, hb2⟩
    have hB := below_step hb1 hb2 hb1.size
    have ci := (hB.cell (p := ⟨ba, oa + i, none⟩) hba).trans ci0
    have ck := (hB.cell (p := ⟨ba, oa + k, none⟩) hba).trans ck0
    obtain ⟨g, cap, rfl, hlo, hhi, hgs, hcg, hfg⟩ := hown.opened h1
    have hs1 := hb1.size
    have hne : ba ≠ g := by omega
    have fi := hfg i
    have fk := hfg k
    have gc1 := hcg i hi
    have gc2 := hcg k hk
    have Hset1 := Lib.hid (Own.set rfl hown i (gi p k + k - i))
    have HB3 := Lib.hid (hB.setCell (p := ⟨g, i, none⟩) (by show w.heap.size ≤ g; omega) (.int .i64 (gi p k + k - i)))
    have Hset2 := Lib.hid (Own.set (by simp) Hset1.out k (gi p i + i - k))
    have HB4 := Lib.hid (HB3.out.setCell (p := ⟨g, k, none⟩) (by show w.heap.size ≤ g; omega) (.int .i64 (gi p i + i - k)))
    obtain ⟨v', hv'⟩ := cell?_setCell_some (w := w2) (p := ⟨g, i, none⟩) (x := .int .i64 (gi p k + k - i)) (q := ⟨g, k, none⟩) (v := .int .i64 (gi p k)) gc2
    clear hcg hfg hown hbi hbk ci0 ck0
    go_wp2_with fail
    cases hok3 : okT (swL p i k)
    · refine (l03Checked_no _ _ _ Hset2.out.rd hok3).mono ?_
      rintro e w4 ⟨rfl, rfl⟩
      go_wp2
      go_ret2
      have hc : swC p (i : Int) (k : Int) = 2 := by rw [hsc.out, hok3]; rfl
      exact ⟨_, ret2 rfl (vint hc.symm), by rw [swR, if_neg (by rw [hc]; decide)]; exact own_nil _ _ _, HB4.out⟩
    · refine (l03Checked_yes _ _ _ Hset2.out.rd hok3).mono ?_
      rintro e w4 ⟨rfl, rfl⟩
      go_wp2
      go_ret2
      have hc : swC p (i : Int) (k : Int) = 0 := by rw [hsc.out, hok3]; rfl
      refine ⟨_, ret2 rfl (vint hc.symm), ?_, HB4.out⟩
      rw [swR, if_pos hc, hsr.out]
      exact Hset2.out.mono hs1 (by simp)

theorem own_drew {w : World} {lo hi : Nat} {v : Value} {zs : List Int} (h : Own w lo hi v zs) : Own w.drew lo hi v zs := h

set_option maxHeartbeats 4000000 in
theorem implSwap_any (v : Value) (p : List Int) (i k : Int) (w : World) (hp : Rd w v p) :
    Calls Try.prog 15 #[v, .int .i64 i, .int .i64 k] w fun e w' => ∃ u, e = .returned (.tuple #[u, .int .i64 (swC p i k)]) ∧ Own w' w.heap.size w'.heap.size u (swR p i k) ∧ Below w.heap.size w w' := by
  have hv := Lib.hid (implValid_any v p w hp)
  have hp0 := hp
  obtain ⟨la, a, ca, rfl, ha⟩ := hp
  cases hval : validB p
  · rw [hval] at hv
    have hc : swC p i k = 1 := by rw [swC, hval]; rfl
    have Hc := Lib.hid hc
    rw [hc]
    clear hc ha
    go_enter Try.func15, Try.ntmps15
    go_wp2_with fail
    refine hv.out.mono ?_
    rintro e w' ⟨rfl, hb⟩
    go_wp2
    go_ret2
    exact ⟨_, rfl, by rw [swR, if_neg (by rw [Hc.out]; decide)]; exact own_nil _ _ _, hb⟩
  · rw [hval] at hv
    obtain ⟨h1, h12, hbd⟩ := validB_true hval
    obtain ⟨ba, oa, rfl, hba, hca⟩ := ha (by omega)
    clear ha
    cases hbi : btw i 0 ((p.length : Int) - 1)
    · have hc : swC p i k = 2 := by rw [swC, hval, hbi]; rfl
      have Hc := Lib.hid hc
      rw [hc]
      clear hc hbd hca
      go_enter Try.func15, Try.ntmps15
      go_wp2_with fail
      refine hv.out.mono ?_
      rintro e w1 ⟨rfl, hb⟩
      have hp1 := hp0.below hb
      go_wp2_with (go_at_call 50; refine (isIndex_any _ p _ _ hp1).mono ?_; rintro e w' ⟨rfl, rfl⟩)
      go_ret2
      exact ⟨_, rfl, by rw [swR, if_neg (by rw [Hc.out]; decide)]; exact own_nil _ _ _, hb⟩
    cases hbk : btw k 0 ((p.length : Int) - 1)
    · have hc : swC p i k = 2 := by rw [swC, hval, hbi, hbk]; rfl
      have Hc := Lib.hid hc
      rw [hc]
      clear hc hbd hca
      go_enter Try.func15, Try.ntmps15
      go_wp2_with fail
      refine hv.out.mono ?_
      rintro e w1 ⟨rfl, hb⟩
      have hp1 := hp0.below hb
      go_wp2_with (go_at_call 50; refine (isIndex_any _ p _ _ hp1).mono ?_; rintro e w' ⟨rfl, rfl⟩)
      go_ret2
      exact ⟨_, rfl, by rw [swR, if_neg (by rw [Hc.out]; decide)]; exact own_nil _ _ _, hb⟩
    obtain ⟨b1, b2⟩ := btw_iff.1 hbi
    obtain ⟨b3, b4⟩ := btw_iff.1 hbk
    obtain ⟨i, rfl⟩ : ∃ j : Nat, i = j := ⟨i.toNat, by omega⟩
    obtain ⟨k, rfl⟩ : ∃ j : Nat, k = j := ⟨k.toNat, by omega⟩
    have hi : i < p.length := by omega
    have hk : k < p.length := by omega
    have gb1 := hbd i hi
    have gb2 := hbd k hk
    have ci0 := hca i hi
    have ck0 := hca k hk
    have hsc : Hid (swC p (i : Int) (k : Int) = if okT (swL p i k) then 0 else 2) := by
      show swC p (i : Int) (k : Int) = _
      rw [swC, hval, hbi, hbk, Int.toNat_natCast, Int.toNat_natCast]
      simp
    have hsr : Hid (swL p (i : Int).toNat (k : Int).toNat = swL p i k) := by
      show swL p (i : Int).toNat (k : Int).toNat = swL p i k
      rw [Int.toNat_natCast, Int.toNat_natCast]
    have e1 : IntKind.i64.wrap (gi p k + (k : Int)) = gi p k + (k : Int) := IntWalk.i64_in _ (by omega)
    have e2 : IntKind.i64.wrap (gi p k + (k : Int) - (i : Int)) = gi p k + (k : Int) - (i : Int) := IntWalk.i64_in _ (by omega)
    have e3 : IntKind.i64.wrap (gi p i + (i : Int)) = gi p i + (i : Int) := IntWalk.i64_in _ (by omega)
    have e4 : IntKind.i64.wrap (gi p i + (i : Int) - (k : Int)) = gi p i + (i : Int) - (k : Int) := IntWalk.i64_in _ (by omega)
    clear hbd hval hca
    go_enter Try.func15, Try.ntmps15
    go_wp2_with fail
    refine hv.out.mono ?_
    rintro e w1 ⟨rfl, hb1⟩
    have hp1 := hp0.below hb1
    go_wp2_with (go_at_call 50; refine (isIndex_any _ p _ _ hp1).mono ?_; rintro e w' ⟨rfl, rfl⟩)
    refine (copyNumbers_any _ p _ hp1 h1).mono ?_
    rintro e w2 ⟨u, rfl, hown, hb2⟩
    have hB := below_step hb1 hb2 hb1.size
    have ci := (hB.cell (p := ⟨ba, oa + i, none⟩) hba).trans ci0
    have ck := (hB.cell (p := ⟨ba, oa + k, none⟩) hba).trans ck0
    obtain ⟨g, cap, rfl, hlo, hhi, hgs, hcg, hfg⟩ := hown.opened h1
    have hs1 := hb1.size
    have hne : ba ≠ g := by omega
    have fi := hfg i
    have fk := hfg k
    have gc1 := hcg i hi
    have gc2 := hcg k hk
    have Hset1 := Lib.hid (Own.set rfl hown i (gi p k + k - i))
    have HB3 := Lib.hid (hB.setCell (p := ⟨g, i, none⟩) (by show w.heap.size ≤ g; omega) (.int .i64 (gi p k + k - i)))
    have Hset2 := Lib.hid (Own.set (by simp) Hset1.out k (gi p i + i - k))
    have HB4 := Lib.hid (HB3.out.setCell (p := ⟨g, k, none⟩) (by show w.heap.size ≤ g; omega) (.int .i64 (gi p i + i - k)))
    obtain ⟨v', hv'⟩ := cell?_setCell_some (w := w2) (p := ⟨g, i, none⟩) (x := .int .i64 (gi p k + k - i)) (q := ⟨g, k, none⟩) (v := .int .i64 (gi p k)) gc2
    clear hcg hfg hown hbi hbk ci0 ck0
    go_wp2_with fail
    go_region_with (fail)
    all_goals
      have hat := Lib.hid (areThrows_any _ (swL p i k) _ (own_drew Hset2.out).rd)
      cases hok3 : okT (swL p i k)
      · rw [hok3] at hat
        go_wp2_with fail
        refine hat.out.mono ?_
        rintro e w4 ⟨rfl, rfl⟩
        go_wp2
        go_ret2
        have hc : swC p (i : Int) (k : Int) = 2 := by rw [hsc.out, hok3]; rfl
        exact ⟨_, ret2 rfl (vint hc.symm), by rw [swR, if_neg (by rw [hc]; decide)]; exact own_nil _ _ _, HB4.out.drew⟩
      · rw [hok3] at hat
        go_wp2_with fail
        refine hat.out.mono ?_
        rintro e w4 ⟨rfl, rfl⟩
        go_wp2
        go_ret2
        have hc : swC p (i : Int) (k : Int) = 0 := by rw [hsc.out, hok3]; rfl
        refine ⟨_, ret2 rfl (vint hc.symm), ?_, HB4.out.drew⟩
        rw [swR, if_pos hc, hsr.out]
        exact own_drew (Hset2.out.mono hs1 (by simp))
end Go.Proofs.Ytbeaknnehpdepaa
