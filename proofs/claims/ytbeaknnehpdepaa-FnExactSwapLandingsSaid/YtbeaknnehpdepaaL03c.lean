/-
  Contracts of the operations on patterns (chapter 3), third part: dual, shifted, raised, swapped. No condition beyond each contract's own.
-/
import Derived.Test.YtbeaknnehpdepaaL03
namespace Go.Proofs.Ytbeaknnehpdepaa
open Go.ChangeShapes Go.WideShapes Go.ChangeAt Go.RowKit


/-- The first k throws of the dual pattern. -/
def duL (p : List Int) (h : Int) (k : Nat) : List Int := (List.range k).map fun (j : Nat) => h - gi p (p.length - 1 - j)
theorem duL_succ (p : List Int) (h : Int) (k : Nat) : duL p h (k + 1) = duL p h k ++ [h - gi p (p.length - 1 - k)] := by simp [duL, List.range_succ]
theorem duL_length (p : List Int) (h : Int) (k : Nat) : (duL p h k).length = k := by simp [duL]
def dpC (p : List Int) (h : Int) : Int := if validB p then (if btw h (maxTo p p.length) 15 then 0 else 2) else 1
def dpL (p : List Int) (h : Int) : List Int := if dpC p h = 0 then duL p h p.length else []
theorem maxTo_ge (p : List Int) : ∀ k, 0 ≤ maxTo p k
  | 0 => Int.le_refl 0
  | k + 1 => by
    have := maxTo_ge p k
    simp only [maxTo]
    split <;> omega

set_option maxHeartbeats 2000000 in
theorem implDual_any (v : Value) (p : List Int) (h : Int) (w : World) (hp : Rd w v p) :
    Calls Try.prog 20 #[v, .int .i64 h] w fun e w' => ∃ u, e = .returned (.tuple #[u, .int .i64 (dpC p h)]) ∧ Own w' w.heap.size w'.heap.size u (dpL p h) ∧ Below w.heap.size w w' := by
  have hv := Lib.hid (implValid_any v p w hp)
  have hp0 := hp
  cases hval : validB p
  · rw [hval] at hv
    have hc : dpC p h = 1 := by rw [dpC, hval]; rfl
    have Hc := Lib.hid hc
    rw [hc]
    clear hc
    go_enter Try.func20, Try.ntmps20
    go_wp2_with fail
    refine hv.out.mono ?_
    rintro e w' ⟨rfl, hb⟩
    go_wp2
    go_ret2
    exact ⟨_, rfl, by rw [dpL, if_neg (by rw [Hc.out]; decide)]; exact own_nil _ _ _, hb⟩
  · rw [hval] at hv
    obtain ⟨h1, h12, hbd⟩ := validB_true hval
    have hmx := maxTo_ge p p.length
    cases hbt : btw h (maxTo p p.length) 15
    · have hc : dpC p h = 2 := by rw [dpC, hval, hbt]; rfl
      have Hc := Lib.hid hc
      rw [hc]
      clear hc hbd
      go_enter Try.func20, Try.ntmps20
      go_wp2_with fail
      refine hv.out.mono ?_
      rintro e w' ⟨rfl, hb⟩
      go_wp2_with (first | (go_at_call 55; refine (highest_any _ p _ (hp0.below hb)).mono ?_; rintro e w' ⟨rfl, rfl⟩) | (go_at_call 54; refine (between_any _ _ _ _).mono ?_; rintro e w' ⟨rfl, rfl⟩))
      go_ret2
      exact ⟨_, rfl, by rw [dpL, if_neg (by rw [Hc.out]; decide)]; exact own_nil _ _ _, hb⟩
    · have hc : dpC p h = 0 := by rw [dpC, hval, hbt]; rfl
      have hl : dpL p h = duL p h p.length := by rw [dpL, if_pos hc]
      rw [hc, hl]
      obtain ⟨b1, b2⟩ := btw_iff.1 hbt
      clear hc hl hval
      obtain ⟨la, a, ca, rfl, ha⟩ := hp
      obtain ⟨ba, oa, rfl, hba, hca⟩ := ha (by omega)
      have Hca := Lib.hid hca
      clear ha hca
      go_enter Try.func20, Try.ntmps20
      go_wp2_with fail
      refine hv.out.mono ?_
      rintro e w1 ⟨rfl, hb⟩
      have hs1 := hb.size
      go_wp2_with (first | (go_at_call 55; refine (highest_any _ p _ (hp0.below hb)).mono ?_; rintro e w' ⟨rfl, rfl⟩) | (go_at_call 54; refine (between_any _ _ _ _).mono ?_; rintro e w' ⟨rfl, rfl⟩))
      go_loopw [6, 19] (fun o i wr => ∃ k : Nat, k ≤ p.length ∧ i = .int .i64 k ∧ wr.ownsRow w1.heap.size 2 1 o (duL p h k).length ((duL p h k).map (Value.int .i64)) ∧ Below w1.heap.size w1 wr) (fun _ i _ => p.length - (intOf i).toNat)
      case atStart => exact ⟨0, Nat.zero_le _, rfl, own_made w1, below_made w1⟩
      case round =>
        obtain ⟨k, hk, rfl, hown, hB⟩ := hrel
        by_cases hlt : k < p.length
        · have hc : wr.cell? ⟨ba, oa + (p.length - 1 - k), none⟩ = some (.int .i64 (gi p (p.length - 1 - k))) := ((hB.cell (p := ⟨ba, oa + (p.length - 1 - k), none⟩) (by show ba < _; omega)).trans (hb.cell (p := ⟨ba, oa + (p.length - 1 - k), none⟩) hba)).trans (Hca.out _ (by omega))
          have hbk := hbd (p.length - 1 - k) (by omega)
          have hll := Lib.hid (duL_length p h k)
          go_wp2_with (at_builtin; refine push_int rfl _ _ rfl rfl rfl hown hB.size (by rw [hll.out]; omega) ?_; intro v' w' hown' hb')
          go_roundw
          case rel => exact ⟨k + 1, by omega, by go_num, by rw [duL_succ]; exact hown', hB.trans hb'⟩
          case measure => simp [intOf]; omega
        · go_wp2
          go_ret2
          obtain rfl : k = p.length := by omega
          exact ⟨_, rfl, (own_of (by rw [duL_length]; omega) hown).mono hs1 (Nat.le_refl _), below_step hb hB hs1⟩

set_option maxHeartbeats 2000000 in
theorem specDual_any (v : Value) (p : List Int) (h : Int) (w : World) (hp : Rd w v p) :
    Calls Try.prog 19 #[v, .int .i64 h] w fun e w' => ∃ u, e = .returned (.tuple #[u, .int .i64 (dpC p h)]) ∧ Own w' w.heap.size w'.heap.size u (dpL p h) ∧ Below w.heap.size w w' := by
  have hv := Lib.hid (l02Ok_any v p w hp)
  have hp0 := hp
  cases hval : validB p
  · rw [hval] at hv
    have hc : dpC p h = 1 := by rw [dpC, hval]; rfl
    have Hc := Lib.hid hc
    rw [hc]
    clear hc
    go_enter Try.func19, Try.ntmps19
    go_wp2_with fail
    refine hv.out.mono ?_
    rintro e w' ⟨rfl, n, rfl⟩
    go_wp2
    go_ret2
    exact ⟨_, rfl, by rw [dpL, if_neg (by rw [Hc.out]; decide)]; exact own_nil _ _ _, below_dn _ _⟩
  · rw [hval] at hv
    obtain ⟨h1, h12, hbd⟩ := validB_true hval
    have hmx := maxTo_ge p p.length
    cases hbt : btw h (maxTo p p.length) 15
    · have hc : dpC p h = 2 := by rw [dpC, hval, hbt]; rfl
      have Hc := Lib.hid hc
      rw [hc]
      clear hc hbd
      go_enter Try.func19, Try.ntmps19
      go_wp2_with fail
      refine hv.out.mono ?_
      rintro e w' ⟨rfl, n, rfl⟩
      go_wp2_with (first | (go_at_call 53; refine (l02High_any _ p _ (hp0.drewN n)).mono ?_; rintro e w' ⟨rfl, rfl⟩) | (go_at_call 46; refine (l00In_any _ _ _ _).mono ?_; rintro e w' ⟨rfl, rfl⟩))
      go_ret2
      exact ⟨_, rfl, by rw [dpL, if_neg (by rw [Hc.out]; decide)]; exact own_nil _ _ _, below_dn _ _⟩
    · have hc : dpC p h = 0 := by rw [dpC, hval, hbt]; rfl
      have hl : dpL p h = duL p h p.length := by rw [dpL, if_pos hc]
      rw [hc, hl]
      obtain ⟨b1, b2⟩ := btw_iff.1 hbt
      clear hc hl hval
      obtain ⟨la, a, ca, rfl, ha⟩ := hp
      obtain ⟨ba, oa, rfl, hba, hca⟩ := ha (by omega)
      have Hca := Lib.hid hca
      clear ha hca
      go_enter Try.func19, Try.ntmps19
      go_wp2_with fail
      refine hv.out.mono ?_
      rintro e w1 ⟨rfl, n, hw1⟩
      have hb : Below w.heap.size w w1 := by rw [hw1]; exact below_dn _ _
      clear hw1
      have hs1 := hb.size
      go_wp2_with (first | (go_at_call 53; refine (l02High_any _ p _ (hp0.below hb)).mono ?_; rintro e w' ⟨rfl, rfl⟩) | (go_at_call 46; refine (l00In_any _ _ _ _).mono ?_; rintro e w' ⟨rfl, rfl⟩))
      go_loopw [6, 7] (fun o i wr => ∃ k : Nat, k ≤ p.length ∧ i = .int .i64 ((p.length : Int) - 1 - k) ∧ wr.ownsRow w1.heap.size 2 1 o (duL p h k).length ((duL p h k).map (Value.int .i64)) ∧ Below w1.heap.size w1 wr) (fun _ i _ => (intOf i + 1).toNat)
      case atStart => exact ⟨0, Nat.zero_le _, by go_num, own_made w1, below_made w1⟩
      case round =>
        obtain ⟨k, hk, rfl, hown, hB⟩ := hrel
        by_cases hlt : k < p.length
        · have hc : wr.cell? ⟨ba, oa + (p.length - 1 - k), none⟩ = some (.int .i64 (gi p (p.length - 1 - k))) := ((hB.cell (p := ⟨ba, oa + (p.length - 1 - k), none⟩) (by show ba < _; omega)).trans (hb.cell (p := ⟨ba, oa + (p.length - 1 - k), none⟩) hba)).trans (Hca.out _ (by omega))
          have hbk := hbd (p.length - 1 - k) (by omega)
          have hll := Lib.hid (duL_length p h k)
          go_wp2_with (at_builtin; refine push_int rfl _ _ rfl rfl rfl hown hB.size (by rw [hll.out]; omega) ?_; intro v' w' hown' hb')
          go_roundw
          case rel => exact ⟨k + 1, by omega, by go_num, by rw [duL_succ]; exact hown', hB.trans hb'⟩
          case measure => simp [intOf]; omega
        · go_wp2
          go_ret2
          obtain rfl : k = p.length := by omega
          exact ⟨_, rfl, (own_of (by rw [duL_length]; omega) hown).mono hs1 (Nat.le_refl _), below_step hb hB hs1⟩

theorem l03Checked_yes (v : Value) (p : List Int) (w : World) (hp : Rd w v p) (hok : okT p = true) : Calls Try.prog 48 #[v] w fun e w' => e = .returned (.tuple #[v, .int .i64 0]) ∧ w = w' := by
  have hl := Lib.hid (l02List_any v p w hp)
  rw [hok] at hl
  go_enter Try.func48, Try.ntmps48
  go_wp2_with fail
  refine hl.out.mono ?_
  rintro e w' ⟨rfl, rfl⟩
  go_wp2
  go_ret2
  exact ⟨rfl, rfl⟩
theorem l03Checked_no (v : Value) (p : List Int) (w : World) (hp : Rd w v p) (hok : okT p = false) : Calls Try.prog 48 #[v] w fun e w' => e = .returned (.tuple #[.slice none 0 0, .int .i64 2]) ∧ w = w' := by
  have hl := Lib.hid (l02List_any v p w hp)
  rw [hok] at hl
  go_enter Try.func48, Try.ntmps48
  go_wp2_with fail
  refine hl.out.mono ?_
  rintro e w' ⟨rfl, rfl⟩
  go_wp2
  go_ret2
  exact ⟨rfl, rfl⟩

/-- The first k throws, a number added to each. -/
def shL (p : List Int) (b : Int) (k : Nat) : List Int := (List.range k).map fun (j : Nat) => gi p j + b
theorem shL_succ (p : List Int) (b : Int) (k : Nat) : shL p b (k + 1) = shL p b k ++ [gi p k + b] := by simp [shL, List.range_succ]
theorem shL_length (p : List Int) (b : Int) (k : Nat) : (shL p b k).length = k := by simp [shL]
def stC (p : List Int) (b : Int) : Int := if validB p then (if btw b (-15) 15 && okT (shL p b p.length) then 0 else 2) else 1
def stL (p : List Int) (b : Int) : List Int := if stC p b = 0 then shL p b p.length else []
end Go.Proofs.Ytbeaknnehpdepaa
