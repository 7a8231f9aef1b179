/-
  Contracts of SortBeat (chapter 4). No condition beyond each contract's own.
-/
import Derived.Test.YtloebbeaccjgjaaSo3
import Derived.Test.YtloebbeaccjgjaaL02b
namespace Go.Proofs.Ytloebbeaccjgjaa
open Go.ChangeShapes Go.WideShapes Go.ChangeAt Go.RowKit


/-- All throws are between 0 and 15. -/
def sbA (L : List Int) : Bool := decide (∀ j, j < L.length → btw (gi L j) 0 15 = true)
def sbC (L : List Int) : Int := if sbA L then (if (srtB L).length ≤ 4 then 0 else 5) else 1
def sbL (L : List Int) : List Int := if sbA L then (if (srtB L).length ≤ 4 then srtB L else []) else []

set_option maxRecDepth 20000 in
set_option maxHeartbeats 4000000 in
theorem specSortBeat_any (v : Value) (L : List Int) (w : World) (hL : Rd w v L) (hl : L.length ≤ 1048576) :
    Calls Try.prog 6 #[v] w fun e w' => ∃ u, e = .returned (.tuple #[u, .int .i64 (sbC L)]) ∧ Own w' w.heap.size w'.heap.size u (sbL L) ∧ Below w.heap.size w w' := by
  have HL := Lib.hid hL
  obtain ⟨_, a, ca, rfl, ha⟩ := hL
  go_enter Try.func6, Try.ntmps6
  go_wp2
  go_loopw [4] (fun i wr => ∃ k : Nat, k ≤ L.length ∧ i = .int .i64 k ∧ (∀ j, j < k → btw (gi L j) 0 15 = true) ∧ wr = w) (fun i _ => L.length - (intOf i).toNat)
  case atStart => exact ⟨0, Nat.zero_le _, rfl, fun j hj => absurd hj (Nat.not_lt_zero j), rfl⟩
  case round =>
    obtain ⟨k, hk, rfl, hb, rfl⟩ := hrel
    by_cases hlt : k < L.length
    · obtain ⟨ba, oa, rfl, hba, hca⟩ := ha (by omega)
      have p1 := hca k hlt
      have hin := fun W => l00In_any (gi L k) 0 15 W
      cases hv : btw (gi L k) 0 15
      · have HC := Lib.hid (show sbC L = 1 by rw [sbC, sbA, if_neg]; simp only [decide_eq_true_eq]; intro h; rw [h k hlt] at hv; cases hv)
        have HQ := Lib.hid (show sbL L = [] by rw [sbL, sbA, if_neg]; simp only [decide_eq_true_eq]; intro h; rw [h k hlt] at hv; cases hv)
        rw [hv] at hin
        have HIN := Lib.hid hin
        clear hin hv hb hca ha
        go_wp2_with (go_at_call 21; refine (HIN.out _).mono ?_; rintro e w' ⟨rfl, rfl⟩)
        go_ret2
        rw [HC.out, HQ.out]
        exact ⟨_, rfl, own_nil _ _ _, Below.refl _ _⟩
      · have HV := Lib.hid hv
        have HB := Lib.hid hb
        rw [hv] at hin
        have HIN := Lib.hid hin
        clear hin hv hb hca ha
        go_wp2_with (go_at_call 21; refine (HIN.out _).mono ?_; rintro e w' ⟨rfl, rfl⟩)
        go_roundw
        case rel => exact ⟨k + 1, by omega, by go_num, fun j hj => by
          by_cases e : j = k
          · subst e; exact HV.out
          · exact HB.out j (by omega), by first | rfl | trivial⟩
        case measure => simp [intOf]; omega
    · obtain rfl : k = L.length := by omega
      have h0 : ∀ j, j < L.length → 0 ≤ gi L j := fun j hj => (btw_iff.1 (hb j hj)).1
      have hA : sbA L = true := by rw [sbA]; simpa using hb
      have HS : Hid (Calls Try.prog 22 #[.slice a L.length ca] wr fun e w' => ∃ u, e = .returned u ∧ Own w' wr.heap.size w'.heap.size u (srtB L) ∧ Below wr.heap.size wr w') := l04Sort_any _ L _ HL.out h0 hl
      by_cases h4 : (srtB L).length ≤ 4
      · have HC := Lib.hid (show sbC L = 0 by rw [sbC, hA, if_pos rfl, if_pos h4])
        have HQ := Lib.hid (show sbL L = srtB L by rw [sbL, hA, if_pos rfl, if_pos h4])
        clear hb ha h0 hA
        go_wp2_with fail
        refine HS.out.mono ?_
        rintro e w1 ⟨u, rfl, hu, hbw⟩
        obtain ⟨_, a', c', hu', _⟩ := hu.rd
        subst hu'
        have HU := Lib.hid (And.intro hu hbw)
        clear hu hbw
        go_wp2
        go_ret2
        rw [HC.out, HQ.out]
        exact ⟨_, rfl, HU.out.1, HU.out.2⟩
      · have HC := Lib.hid (show sbC L = 5 by rw [sbC, hA, if_pos rfl, if_neg h4])
        have HQ := Lib.hid (show sbL L = [] by rw [sbL, hA, if_pos rfl, if_neg h4])
        clear hb ha h0 hA
        go_wp2_with fail
        refine HS.out.mono ?_
        rintro e w1 ⟨u, rfl, hu, hbw⟩
        obtain ⟨_, a', c', hu', _⟩ := hu.rd
        subst hu'
        have HU := Lib.hid hbw
        clear hu hbw
        go_wp2
        go_ret2
        rw [HC.out, HQ.out]
        exact ⟨_, rfl, own_nil _ _ _, HU.out⟩

set_option maxRecDepth 20000 in
set_option maxHeartbeats 4000000 in
theorem implSortBeat_any (v : Value) (L : List Int) (w : World) (hL : Rd w v L) (hl : L.length ≤ 1048576) :
    Calls Try.prog 8 #[v] w fun e w' => ∃ u, e = .returned (.tuple #[u, .int .i64 (sbC L)]) ∧ Own w' w.heap.size w'.heap.size u (sbL L) ∧ Below w.heap.size w w' := by
  have HL := Lib.hid hL
  obtain ⟨_, a, ca, rfl, ha⟩ := hL
  go_enter Try.func8, Try.ntmps8
  go_wp2
  go_loopw [9] (fun i wr => ∃ k : Nat, k ≤ L.length ∧ i = .int .i64 k ∧ (∀ j, j < k → btw (gi L j) 0 15 = true) ∧ wr = w) (fun i _ => L.length - (intOf i).toNat)
  case atStart => exact ⟨0, Nat.zero_le _, rfl, fun j hj => absurd hj (Nat.not_lt_zero j), rfl⟩
  case round =>
    obtain ⟨k, hk, rfl, hb, rfl⟩ := hrel
    by_cases hlt : k < L.length
    · obtain ⟨ba, oa, rfl, hba, hca⟩ := ha (by omega)
      have p1 := hca k hlt
      have hin := fun W => between_any (gi L k) 0 15 W
      cases hv : btw (gi L k) 0 15
      · have HC := Lib.hid (show sbC L = 1 by rw [sbC, sbA, if_neg]; simp only [decide_eq_true_eq]; intro h; rw [h k hlt] at hv; cases hv)
        have HQ := Lib.hid (show sbL L = [] by rw [sbL, sbA, if_neg]; simp only [decide_eq_true_eq]; intro h; rw [h k hlt] at hv; cases hv)
        rw [hv] at hin
        have HIN := Lib.hid hin
        clear hin hv hb hca ha
        go_wp2_with (go_at_call 23; refine (HIN.out _).mono ?_; rintro e w' ⟨rfl, rfl⟩)
        go_ret2
        rw [HC.out, HQ.out]
        exact ⟨_, rfl, own_nil _ _ _, Below.refl _ _⟩
      · have HV := Lib.hid hv
        have HB := Lib.hid hb
        rw [hv] at hin
        have HIN := Lib.hid hin
        clear hin hv hb hca ha
        go_wp2_with (go_at_call 23; refine (HIN.out _).mono ?_; rintro e w' ⟨rfl, rfl⟩)
        go_roundw
        case rel => exact ⟨k + 1, by omega, by go_num, fun j hj => by
          by_cases e : j = k
          · subst e; exact HV.out
          · exact HB.out j (by omega), by first | rfl | trivial⟩
        case measure => simp [intOf]; omega
    · obtain rfl : k = L.length := by omega
      have h0 : ∀ j, j < L.length → 0 ≤ gi L j := fun j hj => (btw_iff.1 (hb j hj)).1
      have hA : sbA L = true := by rw [sbA]; simpa using hb
      have HS : Hid (Calls Try.prog 24 #[.slice a L.length ca] wr fun e w' => ∃ u, e = .returned u ∧ Own w' wr.heap.size w'.heap.size u (srtB L) ∧ Below wr.heap.size wr w') := sortBeat_any _ L _ HL.out hl
      by_cases h4 : (srtB L).length ≤ 4
      · have HC := Lib.hid (show sbC L = 0 by rw [sbC, hA, if_pos rfl, if_pos h4])
        have HQ := Lib.hid (show sbL L = srtB L by rw [sbL, hA, if_pos rfl, if_pos h4])
        clear hb ha h0 hA
        go_wp2_with fail
        refine HS.out.mono ?_
        rintro e w1 ⟨u, rfl, hu, hbw⟩
        obtain ⟨_, a', c', hu', _⟩ := hu.rd
        subst hu'
        have HU := Lib.hid (And.intro hu hbw)
        clear hu hbw
        go_wp2
        go_ret2
        rw [HC.out, HQ.out]
        exact ⟨_, rfl, HU.out.1, HU.out.2⟩
      · have HC := Lib.hid (show sbC L = 5 by rw [sbC, hA, if_pos rfl, if_neg h4])
        have HQ := Lib.hid (show sbL L = [] by rw [sbL, hA, if_pos rfl, if_neg h4])
        clear hb ha h0 hA
        go_wp2_with fail
        refine HS.out.mono ?_
        rintro e w1 ⟨u, rfl, hu, hbw⟩
        obtain ⟨_, a', c', hu', _⟩ := hu.rd
        subst hu'
        have HU := Lib.hid hbw
        clear hu hbw
        go_wp2
        go_ret2
        rw [HC.out, HQ.out]
        exact ⟨_, rfl, own_nil _ _ _, HU.out⟩
end Go.Proofs.Ytloebbeaccjgjaa
