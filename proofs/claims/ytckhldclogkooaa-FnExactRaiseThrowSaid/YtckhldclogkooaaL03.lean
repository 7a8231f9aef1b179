/-
  Contracts of the operations on patterns (chapter 3): copies, repetitions, rotations. No condition beyond each contract's own.
-/
import Derived.Test.YtckhldclogkooaaL02d
namespace Go.Proofs.Ytckhldclogkooaa
open Go.ChangeShapes Go.WideShapes Go.ChangeAt Go.RowKit


set_option maxHeartbeats 1000000 in
theorem copyNumbers_any (v : Value) (p : List Int) (w : World) (hp : Rd w v p) (hn : 1 ≤ p.length) :
    Calls Try.prog 70 #[v] w fun e w' => ∃ u, e = .returned u ∧ Own w' w.heap.size w'.heap.size u p ∧ Below w.heap.size w w' := by
  obtain ⟨la, a, ca, rfl, ha⟩ := hp
  obtain ⟨ba, oa, rfl, hba, hca⟩ := ha (by omega)
  clear ha
  have hB1 := below_made w
  have hc1 : ∀ j, j < p.length → (w.alloc (.cells #[] 2)).cell? ⟨ba, oa + j, none⟩ = some (.int .i64 (gi p j)) := fun j hj => (hB1.cell (p := ⟨ba, oa + j, none⟩) hba).trans (hca j hj)
  have hown := own_made w
  have hB2 := Lib.hid hB1
  have hc2 := Lib.hid hc1
  clear hB1 hc1
  go_enter Try.func70, Try.ntmps70
  go_wp2_with (at_builtin; refine push_slice (zs := []) (ys := p) rfl _ _ rfl rfl rfl hown hc2.out hB2.out.size (by simpa using la) ?_; intro v' w' hown' hb')
  go_ret
  exact ⟨_, rfl, own_of la (by simpa using hown'), hB2.out.trans hb'⟩

set_option maxHeartbeats 1000000 in
theorem l00Own_any (v : Value) (p : List Int) (w : World) (hp : Rd w v p) (hn : 1 ≤ p.length) :
    Calls Try.prog 67 #[v] w fun e w' => ∃ u, e = .returned u ∧ Own w' w.heap.size w'.heap.size u p ∧ Below w.heap.size w w' := by
  obtain ⟨la, a, ca, rfl, ha⟩ := hp
  obtain ⟨ba, oa, rfl, hba, hca⟩ := ha (by omega)
  clear ha
  have hB1 := below_made w
  have hc1 : ∀ j, j < p.length → (w.alloc (.cells #[] 2)).cell? ⟨ba, oa + j, none⟩ = some (.int .i64 (gi p j)) := fun j hj => (hB1.cell (p := ⟨ba, oa + j, none⟩) hba).trans (hca j hj)
  have hown := own_made w
  have hB2 := Lib.hid hB1
  have hc2 := Lib.hid hc1
  clear hB1 hc1
  go_enter Try.func67, Try.ntmps67
  go_wp2_with (at_builtin; refine push_slice (zs := []) (ys := p) rfl _ _ rfl rfl rfl hown hc2.out hB2.out.size (by simpa using la) ?_; intro v' w' hown' hb')
  go_ret
  exact ⟨_, rfl, own_of la (by simpa using hown'), hB2.out.trans hb'⟩

/-- A list, t times one after the other. -/
def repL (p : List Int) : Nat → List Int
  | 0 => []
  | t + 1 => repL p t ++ p
theorem repL_length (p : List Int) : ∀ t, (repL p t).length = t * p.length
  | 0 => by simp [repL]
  | t + 1 => by rw [repL, List.length_append, repL_length p t, Nat.succ_mul]
theorem rep_room {p : List Int} {k t : Nat} (h : k < t) (hb : t * p.length ≤ 1000) : (repL p k).length + p.length ≤ 1000 := by
  rw [repL_length, ← Nat.succ_mul]
  exact Nat.le_trans (Nat.mul_le_mul_right _ h) hb

set_option maxHeartbeats 1000000 in
theorem repeated_any (v : Value) (p : List Int) (t : Nat) (w : World) (hp : Rd w v p) (hn : 1 ≤ p.length) (ht : t ≤ 1000) (htp : t * p.length ≤ 1000) :
    Calls Try.prog 66 #[v, .int .i64 t] w fun e w' => ∃ u, e = .returned u ∧ Own w' w.heap.size w'.heap.size u (repL p t) ∧ Below w.heap.size w w' := by
  obtain ⟨la, a, ca, rfl, ha⟩ := hp
  obtain ⟨ba, oa, rfl, hba, hca⟩ := ha (by omega)
  have Hca := Lib.hid hca
  have Htp := Lib.hid htp
  clear ha hca htp
  go_enter Try.func66, Try.ntmps66
  go_wp2
  go_loopw [5, 8] (fun o i wr => ∃ k : Nat, k ≤ t ∧ i = .int .i64 k ∧ wr.ownsRow w.heap.size 2 1 o (repL p k).length ((repL p k).map (Value.int .i64)) ∧ Below w.heap.size w wr) (fun _ i _ => t - (intOf i).toNat)
  case atStart => exact ⟨0, Nat.zero_le _, rfl, own_made w, below_made w⟩
  case round =>
    obtain ⟨k, hk, rfl, hown, hB⟩ := hrel
    by_cases hlt : k < t
    · have hc : Hid (∀ j, j < p.length → wr.cell? ⟨ba, oa + j, none⟩ = some (.int .i64 (gi p j))) := fun j hj => (hB.cell (p := ⟨ba, oa + j, none⟩) hba).trans (Hca.out j hj)
      have hroom := rep_room (p := p) hlt Htp.out
      go_wp2_with (at_builtin; refine push_slice (ys := p) rfl _ _ rfl rfl rfl hown hc.out hB.size (by omega) ?_; intro v' w' hown' hb')
      go_roundw
      case rel => exact ⟨k + 1, by omega, by go_num, hown', hB.trans hb'⟩
      case measure => simp [intOf]; omega
    · go_wp2
      go_ret
      obtain rfl : k = t := by omega
      exact ⟨_, rfl, own_of (by rw [repL_length]; have := Htp.out; omega) hown, hB⟩

set_option maxHeartbeats 1000000 in
theorem l03Repeat_any (v : Value) (p : List Int) (t : Nat) (w : World) (hp : Rd w v p) (hn : 1 ≤ p.length) (ht : t ≤ 1000) (htp : t * p.length ≤ 1000) :
    Calls Try.prog 63 #[v, .int .i64 t] w fun e w' => ∃ u, e = .returned u ∧ Own w' w.heap.size w'.heap.size u (repL p t) ∧ Below w.heap.size w w' := by
  obtain ⟨la, a, ca, rfl, ha⟩ := hp
  obtain ⟨ba, oa, rfl, hba, hca⟩ := ha (by omega)
  have Hca := Lib.hid hca
  have Htp := Lib.hid htp
  clear ha hca htp
  go_enter Try.func63, Try.ntmps63
  go_wp2
  go_loopw [5, 6] (fun o i wr => ∃ k : Nat, k ≤ t ∧ i = .int .i64 k ∧ wr.ownsRow w.heap.size 2 1 o (repL p k).length ((repL p k).map (Value.int .i64)) ∧ Below w.heap.size w wr) (fun _ i _ => t - (intOf i).toNat)
  case atStart => exact ⟨0, Nat.zero_le _, rfl, own_made w, below_made w⟩
  case round =>
    obtain ⟨k, hk, rfl, hown, hB⟩ := hrel
    by_cases hlt : k < t
    · have hc : Hid (∀ j, j < p.length → wr.cell? ⟨ba, oa + j, none⟩ = some (.int .i64 (gi p j))) := fun j hj => (hB.cell (p := ⟨ba, oa + j, none⟩) hba).trans (Hca.out j hj)
      have hroom := rep_room (p := p) hlt Htp.out
      go_wp2_with (at_builtin; refine push_slice (ys := p) rfl _ _ rfl rfl rfl hown hc.out hB.size (by omega) ?_; intro v' w' hown' hb')
      go_roundw
      case rel => exact ⟨k + 1, by omega, by go_num, hown', hB.trans hb'⟩
      case measure => simp [intOf]; omega
    · go_wp2
      go_ret
      obtain rfl : k = t := by omega
      exact ⟨_, rfl, own_of (by rw [repL_length]; have := Htp.out; omega) hown, hB⟩

theorem isIndex_any (v : Value) (p : List Int) (i : Int) (w : World) (hp : Rd w v p) : Calls Try.prog 69 #[v, .int .i64 i] w fun e w' => e = .returned (.bool (btw i 0 ((p.length : Int) - 1))) ∧ w = w' := by
  have hl := hp.1
  go_enter Try.func69, Try.ntmps69
  go_wp2_with (first | (go_at_call 65; refine (period_any _ p _ hp).mono ?_; rintro e w' ⟨rfl, rfl⟩) | (go_at_call 64; refine (between_any _ _ _ _).mono ?_; rintro e w' ⟨rfl, rfl⟩))
  go_ret
  exact ⟨rfl, rfl⟩

/-- RepeatPattern: the code, the list. -/
def rpC (p : List Int) (t : Int) : Int := if validB p then (if btw t 1 (12 / (p.length : Int)) then 0 else 2) else 1
def rpL (p : List Int) (t : Int) : List Int := if rpC p t = 0 then repL p t.toNat else []
theorem rp_ok {p : List Int} {t : Int} (hv : validB p = true) (h : btw t 1 (12 / (p.length : Int)) = true) : rpC p t = 0 := by simp [rpC, hv, h]
theorem rp_bd {p : List Int} {t : Int} (hn : 1 ≤ p.length) (h : btw t 1 (12 / (p.length : Int)) = true) : 1 ≤ t ∧ t ≤ 12 ∧ t.toNat * p.length ≤ 1000 := by
  obtain ⟨h1, h2⟩ := btw_iff.1 h
  have h3 : (12 : Int) / (p.length : Int) * (p.length : Int) ≤ 12 := Int.ediv_mul_le 12 (by omega)
  have h4 : t * (p.length : Int) ≤ 12 := Int.le_trans (Int.mul_le_mul_of_nonneg_right h2 (by omega)) h3
  have h5 : t * 1 ≤ t * (p.length : Int) := Int.mul_le_mul_of_nonneg_left (by omega) (by omega)
  have h6 : ((t.toNat * p.length : Nat) : Int) = t * (p.length : Int) := by rw [Int.natCast_mul, Int.toNat_of_nonneg (by omega)]
  omega

set_option maxHeartbeats 1000000 in
theorem implRepeat_any (v : Value) (p : List Int) (t : Int) (w : World) (hp : Rd w v p) :
    Calls Try.prog 38 #[v, .int .i64 t] w fun e w' => ∃ u, e = .returned (.tuple #[u, .int .i64 (rpC p t)]) ∧ Own w' w.heap.size w'.heap.size u (rpL p t) ∧ Below w.heap.size w w' := by
  have hv := Lib.hid (implValid_any v p w hp)
  cases hval : validB p
  · rw [hval] at hv
    have hc : rpC p t = 1 := by rw [rpC, hval]; rfl
    have Hc := Lib.hid hc
    rw [hc]
    clear hc
    go_enter Try.func38, Try.ntmps38
    go_wp2_with fail
    refine hv.out.mono ?_
    rintro e w' ⟨rfl, hb⟩
    go_wp2
    go_ret2
    exact ⟨_, rfl, by rw [rpL, if_neg (by rw [Hc.out]; decide)]; exact own_nil _ _ _, hb⟩
  · rw [hval] at hv
    obtain ⟨h1, h12, hbd⟩ := validB_true hval
    clear hbd
    have hq : Hid ((12 : Int).tdiv (p.length : Int) = 12 / (p.length : Int)) := Int.tdiv_eq_ediv_of_nonneg (by decide)
    cases hbt : btw t 1 (12 / (p.length : Int))
    · have hc : rpC p t = 2 := by rw [rpC, hval, hbt]; rfl
      have Hc := Lib.hid hc
      rw [hc]
      clear hc
      go_enter Try.func38, Try.ntmps38
      go_wp2_with fail
      refine hv.out.mono ?_
      rintro e w' ⟨rfl, hb⟩
      have hp1 := hp.below hb
      go_wp2_with (first | (go_at_call 65; refine (period_any _ p _ hp1).mono ?_; rintro e w' ⟨rfl, rfl⟩) | (go_at_call 64; refine (between_any _ _ _ _).mono ?_; rintro e w' ⟨rfl, rfl⟩))
      go_ret2
      exact ⟨_, rfl, by rw [rpL, if_neg (by rw [Hc.out]; decide)]; exact own_nil _ _ _, hb⟩
    · have hc := rp_ok hval hbt
      obtain ⟨t1, t2, t3⟩ := rp_bd h1 hbt
      have Hc := Lib.hid hc
      rw [hc]
      clear hc
      obtain ⟨tn, rfl⟩ : ∃ tn : Nat, t = tn := ⟨t.toNat, by omega⟩
      go_enter Try.func38, Try.ntmps38
      go_wp2_with fail
      refine hv.out.mono ?_
      rintro e w' ⟨rfl, hb⟩
      have hp1 := hp.below hb
      go_wp2_with (first | (go_at_call 65; refine (period_any _ p _ hp1).mono ?_; rintro e w' ⟨rfl, rfl⟩) | (go_at_call 64; refine (between_any _ _ _ _).mono ?_; rintro e w' ⟨rfl, rfl⟩) | (go_at_call 66; refine (repeated_any _ p tn _ hp1 h1 (by omega) (by simpa using t3)).mono ?_; rintro e w2 ⟨u, rfl, hown, hb2⟩))
      go_ret2
      exact ⟨_, rfl, by rw [rpL, if_pos Hc.out]; exact hown.mono hb.size (Nat.le_refl _), below_step hb hb2 hb.size⟩

set_option maxHeartbeats 1000000 in
theorem specRepeat_any (v : Value) (p : List Int) (t : Int) (w : World) (hp : Rd w v p) :
    Calls Try.prog 37 #[v, .int .i64 t] w fun e w' => ∃ u, e = .returned (.tuple #[u, .int .i64 (rpC p t)]) ∧ Own w' w.heap.size w'.heap.size u (rpL p t) ∧ Below w.heap.size w w' := by
  have hv := Lib.hid (l02Ok_any v p w hp)
  have hp0 := hp
  obtain ⟨la, a, ca, rfl, ha⟩ := hp
  clear ha
  cases hval : validB p
  · rw [hval] at hv
    have hc : rpC p t = 1 := by rw [rpC, hval]; rfl
    have Hc := Lib.hid hc
    rw [hc]
    clear hc
    go_enter Try.func37, Try.ntmps37
    go_wp2_with fail
    refine hv.out.mono ?_
    rintro e w' ⟨rfl, n, rfl⟩
    go_wp2
    go_ret2
    exact ⟨_, rfl, by rw [rpL, if_neg (by rw [Hc.out]; decide)]; exact own_nil _ _ _, below_dn _ _⟩
  · rw [hval] at hv
    obtain ⟨h1, h12, hbd⟩ := validB_true hval
    clear hbd
    cases hbt : btw t 1 (12 / (p.length : Int))
    · have hc : rpC p t = 2 := by rw [rpC, hval, hbt]; rfl
      have Hc := Lib.hid hc
      rw [hc]
      clear hc
      go_enter Try.func37, Try.ntmps37
      go_wp2_with fail
      refine hv.out.mono ?_
      rintro e w' ⟨rfl, n, rfl⟩
      go_wp2_with (go_at_call 62; refine (l00In_any _ _ _ _).mono ?_; rintro e w' ⟨rfl, rfl⟩)
      go_ret2
      exact ⟨_, rfl, by rw [rpL, if_neg (by rw [Hc.out]; decide)]; exact own_nil _ _ _, below_dn _ _⟩
    · have hc := rp_ok hval hbt
      obtain ⟨t1, t2, t3⟩ := rp_bd h1 hbt
      have Hc := Lib.hid hc
      rw [hc]
      clear hc
      obtain ⟨tn, rfl⟩ : ∃ tn : Nat, t = tn := ⟨t.toNat, by omega⟩
      go_enter Try.func37, Try.ntmps37
      go_wp2_with fail
      refine hv.out.mono ?_
      rintro e w' ⟨rfl, n, rfl⟩
      go_wp2_with (first | (go_at_call 62; refine (l00In_any _ _ _ _).mono ?_; rintro e w' ⟨rfl, rfl⟩) | (go_at_call 63; refine (l03Repeat_any _ p tn _ (hp0.drewN n) h1 (by omega) (by simpa using t3)).mono ?_; rintro e w2 ⟨u, rfl, hown, hb2⟩))
      go_ret2
      exact ⟨_, rfl, by rw [rpL, if_pos Hc.out]; exact hown, below_step (below_dn w n) hb2 (Nat.le_refl _)⟩
end Go.Proofs.Ytckhldclogkooaa
