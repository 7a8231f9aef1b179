/-
  Contracts of the functions on patterns with several throws at a beat (chapter 4), second part: shapes. No condition beyond each contract's own.
-/
import Derived.Test.YtloebbeaccjgjaaMhelp
import Derived.Test.YtloebbeaccjgjaaL02
namespace Go.Proofs.Ytloebbeaccjgjaa
open Go.ChangeShapes Go.WideShapes Go.ChangeAt Go.RowKit


/-- Element k of a beat is one. -/
def elB (L : List Int) (k : Nat) : Bool := btw (gi L k) 0 15 && !((gi L k == 0) && decide ((1 : Int) < L.length)) && !(decide ((0 : Int) < k) && decide (gi L (k - 1) < gi L k))
/-- A beat. -/
def stB (L : List Int) : Bool := decide ((1 ≤ L.length ∧ L.length ≤ 4) ∧ ∀ k, k < L.length → elB L k = true)
theorem stB_bad {L : List Int} {k : Nat} (hk : k < L.length) (h : elB L k = false) : stB L = false := by
  simp only [stB, decide_eq_false_iff_not]
  intro hh
  rw [hh.2 k hk] at h
  cases h
theorem stB_len {L : List Int} (h : btw (L.length : Int) 1 4 = false) : stB L = false := by
  simp only [stB, decide_eq_false_iff_not]
  intro hh
  exact btw_false_iff.1 h (by omega)
theorem stB_end {L : List Int} (h : ∀ k, k < L.length → elB L k = true) : stB L = btw (L.length : Int) 1 4 := by
  rw [Bool.eq_iff_iff, btw_iff]
  simp only [stB, decide_eq_true_eq]
  constructor
  · intro hh; omega
  · intro hh; exact ⟨by omega, h⟩
theorem stB_true {L : List Int} (h : stB L = true) : 1 ≤ L.length ∧ L.length ≤ 4 ∧ (∀ k, k < L.length → 0 ≤ gi L k ∧ gi L k ≤ 15) ∧ (gi L 0 = 0 → L.length = 1) := by
  simp only [stB, decide_eq_true_eq] at h
  obtain ⟨⟨h1, h2⟩, h3⟩ := h
  refine ⟨h1, h2, fun k hk => ?_, fun h0 => ?_⟩
  · have := h3 k hk
    simp only [elB, Bool.and_eq_true] at this
    exact btw_iff.1 this.1.1
  · have := h3 0 (by omega)
    simp only [elB, Bool.and_eq_true] at this
    have h4 := this.1.2
    rw [h0] at h4
    simp at h4
    omega
/-- All beats are ones. -/
def okM (R : List (List Int)) : Bool := decide ((1 ≤ R.length ∧ R.length ≤ 12) ∧ ∀ j, j < R.length → stB (gr R j) = true)
theorem okM_bad {R : List (List Int)} {k : Nat} (hk : k < R.length) (h : stB (gr R k) = false) : okM R = false := by
  simp only [okM, decide_eq_false_iff_not]
  intro hh
  rw [hh.2 k hk] at h
  cases h
theorem okM_len {R : List (List Int)} (h : btw (R.length : Int) 1 12 = false) : okM R = false := by
  simp only [okM, decide_eq_false_iff_not]
  intro hh
  exact btw_false_iff.1 h (by omega)
theorem okM_end {R : List (List Int)} (h : ∀ k, k < R.length → stB (gr R k) = true) : okM R = btw (R.length : Int) 1 12 := by
  rw [Bool.eq_iff_iff, btw_iff]
  simp only [okM, decide_eq_true_eq]
  constructor
  · intro hh; omega
  · intro hh; exact ⟨by omega, h⟩
theorem okM_true {R : List (List Int)} (h : okM R = true) : 1 ≤ R.length ∧ R.length ≤ 12 ∧ ∀ j, j < R.length → stB (gr R j) = true := by
  simp only [okM, decide_eq_true_eq] at h
  exact ⟨h.1.1, h.1.2, h.2⟩

set_option maxHeartbeats 4000000 in
theorem isStack_any (v : Value) (L : List Int) (w : World) (hp : Rd w v L) :
    Calls Try.prog 52 #[v] w fun e w' => e = .returned (.bool (stB L)) ∧ w = w' := by
  obtain ⟨la, a, ca, rfl, ha⟩ := hp
  go_enter Try.func52, Try.ntmps52
  go_wp2
  go_loop [7] (fun i => ∃ k : Nat, k ≤ L.length ∧ i = .int .i64 k ∧ ∀ j, j < k → elB L j = true) (fun i => L.length - (intOf i).toNat)
  case atStart => exact ⟨0, Nat.zero_le _, rfl, fun j hj => absurd hj (Nat.not_lt_zero j)⟩
  case round =>
    obtain ⟨k, hk, rfl, heq⟩ := hrel
    have Heq := Lib.hid heq
    clear heq
    by_cases hlt : k < L.length
    · obtain ⟨ba, oa, rfl, hba, hca⟩ := ha (by omega)
      have p1 := hca k hlt
      have p0 := fun h : 0 < k => hca (k - 1) (by omega)
      clear hca ha
      have hel := Lib.hid (show elB L k = (btw (gi L k) 0 15 && !((gi L k == 0) && decide ((1 : Int) < L.length)) && !(decide ((0 : Int) < k) && decide (gi L (k - 1) < gi L k))) from rfl)
      cases h1 : btw (gi L k) 0 15
      · have H1 := Lib.hid (show elB L k = false by rw [hel.out, h1]; rfl)
        clear p0
        go_wp2_with (go_at_call 23; refine (between_any _ _ _ _).mono ?_; rintro e w' ⟨rfl, rfl⟩)
        go_ret
        exact ⟨ret_bool (stB_bad hlt H1.out).symm, rfl⟩
      by_cases hk0 : 0 < k
      · obtain ⟨m, rfl⟩ : ∃ m, k = m + 1 := ⟨k - 1, by omega⟩
        have q0 := p0 hk0
        rw [show m + 1 - 1 = m by omega] at q0 hel
        clear p0
        have hd0 : decide ((0 : Int) < ((m + 1 : Nat) : Int)) = true := decide_eq_true (by omega)
        cases h2 : (gi L (m + 1) == 0) <;> cases h3 : decide ((1 : Int) < L.length) <;> cases h4 : decide (gi L m < gi L (m + 1))
        all_goals
          have H1 := hel.out
          rw [h1, h2, h3, hd0, h4] at H1
          have H2 := Lib.hid H1
          clear H1
          go_wp2_with (go_at_call 23; refine (between_any _ _ _ _).mono ?_; rintro e w' ⟨rfl, rfl⟩)
          first
          | (go_round
             case rel =>
               refine ⟨m + 1 + 1, by omega, by go_num, fun j hj => ?_⟩
               by_cases hjk : j = m + 1
               · rw [hjk]; exact H2.out
               · exact Heq.out j (by omega)
             case measure => simp [intOf]; omega)
          | (go_ret
             exact ⟨ret_bool (stB_bad hlt H2.out).symm, rfl⟩)
      · obtain rfl : k = 0 := by omega
        clear p0
        rw [Nat.add_zero] at p1
        have hd0 : decide ((0 : Int) < ((0 : Nat) : Int)) = false := rfl
        cases h2 : (gi L 0 == 0) <;> cases h3 : decide ((1 : Int) < L.length)
        all_goals
          have H1 := hel.out
          rw [h1, h2, h3, hd0] at H1
          have H2 := Lib.hid H1
          clear H1
          go_wp2_with (go_at_call 23; refine (between_any _ _ _ _).mono ?_; rintro e w' ⟨rfl, rfl⟩)
          first
          | (go_round
             case rel =>
               refine ⟨0 + 1, by omega, by go_num, fun j hj => ?_⟩
               obtain rfl : j = 0 := by omega
               exact H2.out
             case measure => simp [intOf]; omega)
          | (go_ret
             exact ⟨ret_bool (stB_bad hlt H2.out).symm, rfl⟩)
    · go_wp2_with (go_at_call 23; refine (between_any _ _ _ _).mono ?_; rintro e w' ⟨rfl, rfl⟩)
      go_ret
      exact ⟨ret_bool (stB_end (fun j hj => Heq.out j (by omega))).symm, rfl⟩

set_option maxHeartbeats 2000000 in
theorem areStacks_any (v : Value) (R : List (List Int)) (w : World) (hp : RdR w v R) :
    Calls Try.prog 42 #[v] w fun e w' => e = .returned (.bool (okM R)) ∧ w = w' := by
  obtain ⟨la, a, ca, rfl, ha⟩ := hp
  go_enter Try.func42, Try.ntmps42
  go_wp2
  go_loop [7] (fun i => ∃ k : Nat, k ≤ R.length ∧ i = .int .i64 k ∧ ∀ j, j < k → stB (gr R j) = true) (fun i => R.length - (intOf i).toNat)
  case atStart => exact ⟨0, Nat.zero_le _, rfl, fun j hj => absurd hj (Nat.not_lt_zero j)⟩
  case round =>
    obtain ⟨k, hk, rfl, heq⟩ := hrel
    have Heq := Lib.hid heq
    clear heq
    by_cases hlt : k < R.length
    · obtain ⟨ba, oa, cs, rfl, hba, hca⟩ := ha (by omega)
      have p1 := (hca k hlt).1
      have hst := isStack_any (cs k) (gr R k) w (hca k hlt).2
      clear hca ha
      cases h1 : stB (gr R k)
      all_goals
        rw [h1] at hst
        have HST := Lib.hid hst
        have H1 := Lib.hid h1
        clear hst h1
        go_wp2_with (go_at_call 52; refine HST.out.mono ?_; rintro e w' ⟨rfl, rfl⟩)
      · go_ret
        exact ⟨ret_bool (okM_bad hlt H1.out).symm, rfl⟩
      · go_round
        case rel =>
          refine ⟨k + 1, by omega, by go_num, fun j hj => ?_⟩
          by_cases hjk : j = k
          · rw [hjk]; exact H1.out
          · exact Heq.out j (by omega)
        case measure => simp [intOf]; omega
    · go_wp2_with (go_at_call 23; refine (between_any _ _ _ _).mono ?_; rintro e w' ⟨rfl, rfl⟩)
      go_ret
      exact ⟨ret_bool (okM_end (fun j hj => Heq.out j (by omega))).symm, rfl⟩

/-- The pointer p leads to a pattern that reads as the rows R. -/
def RdQM (w : World) (p : Value) (R : List (List Int)) : Prop :=
  ∃ b s c, p = .pointer (some ⟨b, 0, none⟩) ∧ b < w.heap.size ∧ w.cell? ⟨b, 0, none⟩ = some (.slice s R.length c) ∧ RdR w (.slice s R.length c) R
theorem RdQM.below {w w' : World} {p : Value} {R : List (List Int)} (h : RdQM w p R) (hb : Below w.heap.size w w') : RdQM w' p R := by
  obtain ⟨b, s, c, hp, hlt, h1, h2⟩ := h
  exact ⟨b, s, c, hp, Nat.lt_of_lt_of_le hlt hb.size, (hb.cell (p := ⟨b, 0, none⟩) hlt).trans h1, h2.below hb⟩
theorem RdR.form {w : World} {v : Value} {R : List (List Int)} (h : RdR w v R) : ∃ s c, v = .slice s R.length c := by
  obtain ⟨_, s, c, hv, _⟩ := h
  exact ⟨s, c, hv⟩
theorem rdQM_box {w : World} {s : Option Addr} {c : Nat} {R : List (List Int)} (h : RdR w (.slice s R.length c) R) :
    RdQM (w.alloc (.cells #[.slice s R.length c] 33)) (.pointer (some ⟨w.heap.size, 0, none⟩)) R :=
  ⟨w.heap.size, s, c, rfl, by simp, by simp, h.below (box_below _ _)⟩

set_option maxRecDepth 20000 in
set_option maxHeartbeats 8000000 in
theorem l04Shape_any (p : Value) (R : List (List Int)) (w : World) (h : RdQM w p R) :
    Calls Try.prog 39 #[p] w fun e w' => e = .returned (.bool (okM R)) ∧ ∃ n, w' = w.drewN n := by
  obtain ⟨b, s, c, rfl, hltb, d1, la, sa, ca, hv, ha⟩ := h
  cases hv
  cases hlen : btw (R.length : Int) 1 12
  · have HL := Lib.hid hlen
    clear ha
    go_enter Try.func39, Try.ntmps39
    go_wp2_with (go_at_call 21; refine (l00In_any _ _ _ _).mono ?_; rintro e w' ⟨rfl, rfl⟩)
    go_ret
    exact ⟨ret_bool (okM_len HL.out).symm, 0, rfl⟩
  have hlen2 := btw_iff.1 hlen
  have HL := Lib.hid hlen
  go_enter Try.func39, Try.ntmps39
  go_wp2_with (go_at_call 21; refine (l00In_any _ _ _ _).mono ?_; rintro e w' ⟨rfl, rfl⟩)
  clear hlen
  go_loopw [3] (fun i wr => ∃ k q : Nat, k ≤ R.length ∧ i = .int .i64 k ∧ (∀ j, j < k → stB (gr R j) = true) ∧ wr = w.drewN q) (fun i _ => R.length - (intOf i).toNat)
  case atStart => exact ⟨0, 0, Nat.zero_le _, rfl, fun j hj => absurd hj (Nat.not_lt_zero j), rfl⟩
  case round =>
    obtain ⟨r, q, hr, rfl, heq, rfl⟩ := hrel
    have Heq := Lib.hid heq
    clear heq
    by_cases hltr : r < R.length
    · obtain ⟨ba, oa, cs, rfl, hba, hca⟩ := ha (by omega)
      have p1 := (hca r hltr).1
      obtain ⟨lL, aL, cL, hvL, hcL⟩ := (hca r hltr).2
      rw [hvL] at p1
      clear hca ha
      obtain ⟨L, hL⟩ : ∃ L, L = gr R r := ⟨_, rfl⟩
      rw [← hL] at p1 hcL lL
      have HLr := Lib.hid hL
      clear hL hvL
      cases h4 : btw (L.length : Int) 1 4
      · have H4 := Lib.hid h4
        go_wp2_with (go_at_call 21; refine (l00In_any _ _ _ _).mono ?_; rintro e w' ⟨rfl, rfl⟩)
        go_ret
        exact ⟨ret_bool (okM_bad hltr (by rw [← HLr.out]; exact stB_len H4.out)).symm, _, rfl⟩
      have h44 := btw_iff.1 h4
      have H4 := Lib.hid h4
      go_wp2_with (go_at_call 21; refine (l00In_any _ _ _ _).mono ?_; rintro e w' ⟨rfl, rfl⟩)
      clear h4
      go_loopw [5] (fun i wr => ∃ k q : Nat, k ≤ L.length ∧ i = .int .i64 k ∧ (∀ j, j < k → elB L j = true) ∧ wr = w.drewN q) (fun i _ => L.length - (intOf i).toNat)
      case atStart => exact ⟨0, _, Nat.zero_le _, rfl, fun j hj => absurd hj (Nat.not_lt_zero j), rfl⟩
      case round =>
        obtain ⟨k, q2, hk, rfl, heq, hwr⟩ := hrel
        have Heq2 := Lib.hid heq
        clear heq
        by_cases hlt : k < L.length
        · obtain ⟨bb, ob, rfl, hbb, hcb⟩ := hcL (by omega)
          have y1 : wr.cell? ⟨bb, ob + k, none⟩ = some (.int .i64 (gi L k)) := by rw [hwr]; exact hcb k hlt
          have y0 : 0 < k → wr.cell? ⟨bb, ob + (k - 1), none⟩ = some (.int .i64 (gi L (k - 1))) := fun h => by rw [hwr]; exact hcb (k - 1) (by omega)
          have Hwr := Lib.hid hwr
          clear hcb hcL hwr
          have hel := Lib.hid (show elB L k = (btw (gi L k) 0 15 && !((gi L k == 0) && decide ((1 : Int) < L.length)) && !(decide ((0 : Int) < k) && decide (gi L (k - 1) < gi L k))) from rfl)
          have hin : ∀ n, Calls Try.prog 21 #[.int .i64 (gi L k), .int .i64 0, .int .i64 15] (wr.drewN n) fun e w' => e = .returned (.bool (btw (gi L k) 0 15)) ∧ w' = wr.drewN n := fun n => (l00In_any _ _ _ _).mono fun e w' ⟨he, hw⟩ => ⟨he, hw.symm⟩
          cases h1 : btw (gi L k) 0 15
          · rw [h1] at hin
            have HIN := Lib.hid hin
            clear hin
            have H1 := Lib.hid (show elB L k = false by rw [hel.out, h1]; rfl)
            clear y0
            go_wp2
            go_quiet ((go_at_call 21; exact Calls.quiet_of_same (HIN.out _)))
            go_wp2
            go_ret
            exact ⟨ret_bool (okM_bad hltr (by rw [← HLr.out]; exact stB_bad hlt H1.out)).symm, _, by rw [Hwr.out]; exact dd2 _ _ _⟩
          rw [h1] at hin
          have HIN := Lib.hid hin
          clear hin
          by_cases hk0 : 0 < k
          · obtain ⟨m, rfl⟩ : ∃ m, k = m + 1 := ⟨k - 1, by omega⟩
            have z0 := y0 hk0
            rw [show m + 1 - 1 = m by omega] at z0 hel
            clear y0
            have hd0 : decide ((0 : Int) < ((m + 1 : Nat) : Int)) = true := decide_eq_true (by omega)
            have e1 : IntKind.i64.wrap ((m : Int) + 1 - 1) = (m : Int) := by rw [show (m : Int) + 1 - 1 = m by omega]; exact IntWalk.i64_in _ (by omega)
            have e2 : IntKind.i64.wrap (m : Int) = (m : Int) := IntWalk.i64_in _ (by omega)
            cases h2 : (gi L (m + 1) == 0) <;> cases h3 : decide ((1 : Int) < L.length) <;> cases h4 : decide (gi L m < gi L (m + 1))
            all_goals
              have H1 := hel.out
              rw [h1, h2, h3, hd0, h4] at H1
              have H2 := Lib.hid H1
              clear H1
              go_wp2
              go_quiet ((go_at_call 21; exact Calls.quiet_of_same (HIN.out _)))
              go_wp2
              first
              | (go_roundw
                 case rel =>
                   refine ⟨m + 1 + 1, _, by omega, by go_num, fun j hj => ?_, by rw [Hwr.out]; exact dd2 _ _ _⟩
                   by_cases hjk : j = m + 1
                   · rw [hjk]; exact H2.out
                   · exact Heq2.out j (by omega)
                 case measure => simp [intOf]; omega)
              | (go_ret
                 exact ⟨ret_bool (okM_bad hltr (by rw [← HLr.out]; exact stB_bad hlt H2.out)).symm, _, by rw [Hwr.out]; exact dd2 _ _ _⟩)
          · obtain rfl : k = 0 := by omega
            clear y0
            rw [Nat.add_zero] at y1
            have hd0 : decide ((0 : Int) < ((0 : Nat) : Int)) = false := rfl
            cases h2 : (gi L 0 == 0) <;> cases h3 : decide ((1 : Int) < L.length)
            all_goals
              have H1 := hel.out
              rw [h1, h2, h3, hd0] at H1
              have H2 := Lib.hid H1
              clear H1
              go_wp2
              go_quiet ((go_at_call 21; exact Calls.quiet_of_same (HIN.out _)))
              go_wp2
              first
              | (go_roundw
                 case rel =>
                   refine ⟨0 + 1, _, by omega, by go_num, fun j hj => ?_, by rw [Hwr.out]; exact dd2 _ _ _⟩
                   obtain rfl : j = 0 := by omega
                   exact H2.out
                 case measure => simp [intOf]; omega)
              | (go_ret
                 exact ⟨ret_bool (okM_bad hltr (by rw [← HLr.out]; exact stB_bad hlt H2.out)).symm, _, by rw [Hwr.out]; exact dd2 _ _ _⟩)
        · have hst : Hid (stB (gr R r) = true) := by
            show stB (gr R r) = true
            rw [← HLr.out, stB_end (fun j hj => Heq2.out j (by omega))]
            exact H4.out
          subst hwr
          go_wp2
          go_roundw
          case rel =>
            refine ⟨r + 1, _, by omega, by go_num, fun j hj => ?_, rfl⟩
            by_cases hjk : j = r
            · rw [hjk]; exact hst.out
            · exact Heq.out j (by omega)
          case measure => simp [intOf]; omega
    · go_wp2
      go_ret
      exact ⟨ret_bool (by rw [okM_end (fun j hj => Heq.out j (by omega))]; exact HL.out.symm), _, rfl⟩
end Go.Proofs.Ytloebbeaccjgjaa
