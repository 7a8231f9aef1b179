/-
  Contracts of IsSymmetric (chapter 3). No condition beyond each contract's own.
-/
import Derived.Test.YtdbjkgapgjmjoaaL03g
namespace Go.Proofs.Ytdbjkgapgjmjoaa
open Go.ChangeShapes Go.WideShapes Go.ChangeAt Go.RowKit


theorem revL_at {p : List Int} (hv : validB p = true) {j : Nat} (hj : j < p.length) :
    ∃ i, i < p.length ∧ landI p i = (p.length : Int) - 1 - j ∧ gi (revL p p.length) j = gi p i ∧ landI (revL p p.length) j = (p.length : Int) - 1 - i := by
  obtain ⟨i, hi, hl, hf⟩ := lfV_spec hv ((p.length : Int) - 1 - j)
  have hb : ((p.length : Int) - 1 - j) % (p.length : Int) = (p.length : Int) - 1 - j := Int.emod_eq_of_lt (by omega) (by omega)
  rw [hb] at hl
  have hq : (p.length : Int) * (((i : Int) + gi p i) / (p.length : Int)) + ((i : Int) + gi p i) % (p.length : Int) = (i : Int) + gi p i := Int.mul_ediv_add_emod _ _
  have hl2 : ((i : Int) + gi p i) % (p.length : Int) = (p.length : Int) - 1 - j := hl
  rw [hl2] at hq
  have e1 : ((p.length : Int) - 1 - j - gi p i) % (p.length : Int) = i := by
    rw [show (p.length : Int) - 1 - j - gi p i = (i : Int) + (p.length : Int) * (-(((i : Int) + gi p i) / (p.length : Int))) by rw [Int.mul_neg]; omega, Int.add_mul_emod_self_left]
    exact Int.emod_eq_of_lt (by omega) (by omega)
  have e2 : gi (revL p p.length) j = gi p i := by
    rw [gi_eq (by rw [revL_length]; exact hj)]
    simp only [revL, List.getElem_map, List.getElem_range]
    rw [hf, thV, e1]
    simp
  refine ⟨i, hi, hl, e2, ?_⟩
  rw [landI, e2, revL_length]
  rw [show (j : Int) + gi p i = ((p.length : Int) - 1 - i) + (p.length : Int) * (((i : Int) + gi p i) / (p.length : Int)) by omega, Int.add_mul_emod_self_left]
  exact Int.emod_eq_of_lt (by omega) (by omega)

theorem revL_valid {p : List Int} (hv : validB p = true) : validB (revL p p.length) = true := by
  obtain ⟨h1, h12, hb⟩ := validB_true hv
  have hok : okT (revL p p.length) = true := by
    simp only [okT, decide_eq_true_eq, revL_length]
    refine ⟨h1, h12, fun j hj => ?_⟩
    obtain ⟨i, hi, _, e, _⟩ := revL_at hv hj
    rw [e]
    exact hb i hi
  have hcl : clash (revL p p.length) = none := by
    apply clash_none
    rw [revL_length]
    intro k hk
    apply clashAt_none
    intro j hjk h
    obtain ⟨i, hi, hl, _, e⟩ := revL_at hv (show j < p.length by omega)
    obtain ⟨i', hi', hl', _, e'⟩ := revL_at hv hk
    rw [e, e'] at h
    have : i = i' := by omega
    subst this
    rw [hl] at hl'
    omega
  rw [validB, hok, hcl]
  rfl

/-- IsSymmetric. -/
def syB (p : List Int) : Bool := validB p && decide (canL p = canL (revL p p.length))

set_option maxHeartbeats 2000000 in
theorem implSymm_any (v : Value) (p : List Int) (w : World) (hp : Rd w v p) (hcp : Cp v) :
    Calls Try.prog 42 #[v] w fun e w' => e = .returned (.bool (syB p)) ∧ Below w.heap.size w w' := by
  have Hcp := Lib.hid hcp
  have hv := Lib.hid (implValid_any v p w hp)
  clear hcp
  cases hva : validB p
  · rw [hva] at hv
    go_enter Try.func42, Try.ntmps42
    go_wp2_with fail
    refine hv.out.mono ?_
    rintro e w' ⟨rfl, hb⟩
    go_wp2
    go_ret
    exact ⟨ret_bool (by rw [syB, hva]; rfl), hb⟩
  · rw [hva] at hv
    have hal : alB p (revL p p.length) = decide (canL p = canL (revL p p.length)) := by rw [alB, hva, revL_valid hva]; simp
    have Hal := Lib.hid hal
    clear hal
    go_enter Try.func42, Try.ntmps42
    go_wp2_with fail
    refine hv.out.mono ?_
    rintro e w1 ⟨rfl, hb⟩
    go_wp2_with fail
    refine (reversed_any v p _ (hp.below hb) hva).mono ?_
    rintro e w2 ⟨u, rfl, hu, hb2⟩
    have hx := below_step hb hb2 hb.size
    go_wp2_with fail
    refine (implAlike_any v p u _ _ (hp.below hx) hu.rd Hcp.out hu.cp).mono ?_
    rintro e w3 ⟨rfl, hb3⟩
    go_wp2
    go_ret
    exact ⟨ret_bool (by rw [syB, hva, Hal.out]; rfl), below_step hx hb3 hx.size⟩

set_option maxHeartbeats 2000000 in
theorem specSymm_any (v : Value) (p : List Int) (w : World) (hp : Rd w v p) (hcp : Cp v) :
    Calls Try.prog 40 #[v] w fun e w' => e = .returned (.bool (syB p)) ∧ Below w.heap.size w w' := by
  have Hcp := Lib.hid hcp
  have hv := Lib.hid (l02Ok_any v p w hp)
  clear hcp
  cases hva : validB p
  · rw [hva] at hv
    go_enter Try.func40, Try.ntmps40
    go_wp2_with fail
    refine hv.out.mono ?_
    rintro e w' ⟨rfl, n, rfl⟩
    go_wp2
    go_ret
    exact ⟨ret_bool (by rw [syB, hva]; rfl), below_dn _ _⟩
  · rw [hva] at hv
    go_enter Try.func40, Try.ntmps40
    go_wp2_with fail
    refine hv.out.mono ?_
    rintro e w1 ⟨rfl, n, rfl⟩
    go_wp2_with fail
    refine (l03Reverse_any v p _ (hp.drewN n) hva).mono ?_
    rintro e w2 ⟨u, rfl, hu, hb2⟩
    have hx := below_step (below_dn w n) hb2 (Nat.le_refl _)
    go_wp2_with fail
    refine (l03Alike_any v p u _ _ (hp.below hx) hu.rd Hcp.out hu.cp (okT_of_valid hva) (okT_of_valid (revL_valid hva))).mono ?_
    rintro e w3 ⟨rfl, hb3⟩
    go_wp2
    go_ret
    exact ⟨ret_bool (by rw [syB, hva]; rfl), below_step hx hb3 hx.size⟩
end Go.Proofs.Ytdbjkgapgjmjoaa
