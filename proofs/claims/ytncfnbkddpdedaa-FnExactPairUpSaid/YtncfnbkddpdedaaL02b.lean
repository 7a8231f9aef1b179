/-
  Contracts of the functions on siteswaps (chapter 2), second part: landings. No condition beyond each contract's own.
-/
import Derived.Test.YtncfnbkddpdedaaL02
namespace Go.Proofs.Ytncfnbkddpdedaa
open Go.ChangeShapes Go.WideShapes Go.ChangeAt Go.RowKit


theorem period_any (v : Value) (p : List Int) (w : World) (hp : Rd w v p) : Calls Try.prog 51 #[v] w fun e w' => e = .returned (.int .i64 p.length) ∧ w = w' := by
  obtain ⟨la, a, ca, rfl, ha⟩ := hp
  go_enter Try.func51, Try.ntmps51
  go_wp2
  go_ret
  exact ⟨rfl, rfl⟩

set_option maxHeartbeats 2000000 in
theorem landings_any (v : Value) (p : List Int) (w : World) (hp : Rd w v p) (hok : okT p = true) :
    Calls Try.prog 46 #[v] w fun e w' => ∃ u, e = .returned u ∧ Own w' w.heap.size w'.heap.size u (landL p p.length) ∧ Below w.heap.size w w' := by
  obtain ⟨h1, h12, hb⟩ := okT_true hok
  clear hok
  have hp0 := hp
  obtain ⟨la, a, ca, rfl, ha⟩ := hp
  obtain ⟨ba, oa, rfl, hba, hca⟩ := ha (by omega)
  clear ha
  go_enter Try.func46, Try.ntmps46
  go_wp2
  go_loopw [3, 9] (fun o i wr => ∃ k : Nat, k ≤ p.length ∧ i = .int .i64 k ∧ wr.ownsRow w.heap.size 2 1 o (landL p k).length ((landL p k).map (Value.int .i64)) ∧ Below w.heap.size w wr) (fun _ i _ => p.length - (intOf i).toNat)
  case atStart => exact ⟨0, Nat.zero_le _, rfl, own_made w, below_made w⟩
  case round =>
    obtain ⟨k, hk, rfl, hown, hB⟩ := hrel
    by_cases hlt : k < p.length
    · have hc : wr.cell? ⟨ba, oa + k, none⟩ = some (.int .i64 (gi p k)) := (hB.cell (p := ⟨ba, oa + k, none⟩) hba).trans (hca k hlt)
      have hbk := hb k hlt
      have hll := Lib.hid (landL_length p k)
      go_wp2_with (first | (go_at_call 51; refine (period_any _ p _ (hp0.below hB)).mono ?_; rintro e w' ⟨rfl, rfl⟩) | (at_builtin; refine push_int rfl _ _ rfl rfl rfl hown hB.size (by rw [hll.out]; omega) ?_; intro v' w' hown' hb'))
      go_roundw
      case rel => exact ⟨k + 1, by omega, by go_num, by rw [landL_succ]; exact hown', hB.trans hb'⟩
      case measure => simp [intOf]; omega
    · go_wp2
      go_ret
      obtain rfl : k = p.length := by omega
      exact ⟨_, rfl, own_of (by rw [landL_length]; omega) hown, hB⟩

set_option maxHeartbeats 2000000 in
theorem implCollision_any (v : Value) (p : List Int) (w : World) (hp : Rd w v p) :
    Calls Try.prog 31 #[v] w fun e w' => e = .returned (.tuple #[.int .i64 (coA p), .int .i64 (coB p), .int .i64 (coC p)]) ∧ Below w.heap.size w w' := by
  cases hok : okT p
  · go_enter Try.func31, Try.ntmps31
    go_wp2_with (go_at_call 45; refine (areThrows_any _ p _ hp).mono ?_; rintro e w' ⟨rfl, rfl⟩)
    go_ret3
    exact ⟨ret3 (vint (by rw [coA, hok]; rfl)) (vint (by rw [coB, hok]; rfl)) (vint (by rw [coC, hok]; rfl)), Below.refl _ _⟩
  · obtain ⟨h1, h12, hb⟩ := okT_true hok
    have Hok := Lib.hid hok
    have hl := Lib.hid (areThrows_any v p w hp)
    have hla := Lib.hid (landings_any v p w hp hok)
    rw [hok] at hl
    clear hok
    go_enter Try.func31, Try.ntmps31
    go_wp2_with fail
    refine hl.out.mono ?_
    rintro e w' ⟨rfl, rfl⟩
    go_wp2_with fail
    refine hla.out.mono ?_
    rintro e w1 ⟨u, rfl, hown, hB⟩
    obtain ⟨lz, a, ca, rfl, ha⟩ := hown.rd
    rw [landL_length] at ha
    obtain ⟨ba, oa, rfl, hba, hca0⟩ := ha (by omega)
    have hca : ∀ j, j < p.length → w1.cell? ⟨ba, oa + j, none⟩ = some (.int .i64 (landI p j)) := fun j hj => by rw [hca0 j hj, landL_gi p hj]
    have hlen : ((landL p p.length).length : Int) = p.length := by rw [landL_length]
    clear ha hca0 lz
    rw [landL_length]
    clear hlen
    go_wp2
    go_loopw [15] (fun i wr => ∃ k n : Nat, k ≤ p.length ∧ i = .int .i64 k ∧ (∀ j, j < k → clashAt p j = none) ∧ wr = w1.drewN n) (fun i _ => p.length - (intOf i).toNat)
    case atStart => exact ⟨0, 0, Nat.zero_le _, rfl, fun j hj => absurd hj (Nat.not_lt_zero j), rfl⟩
    case round =>
      obtain ⟨k, n, hk, rfl, heq, rfl⟩ := hrel
      have Heq := Lib.hid heq
      clear heq
      by_cases hlt : k < p.length
      · have hck := hca k hlt
        go_wp2
        go_loopw [19] (fun i wr => ∃ j n : Nat, j ≤ k ∧ i = .int .i64 j ∧ (∀ t, t < j → landI p t ≠ landI p k) ∧ wr = w1.drewN n) (fun i _ => k - (intOf i).toNat)
        case atStart => exact ⟨0, _, Nat.zero_le _, rfl, fun j hj => absurd hj (Nat.not_lt_zero j), rfl⟩
        case round =>
          obtain ⟨j, m, hj, rfl, hne, rfl⟩ := hrel
          have Hne := Lib.hid hne
          clear hne
          by_cases hlt2 : j < k
          · have hcj := hca j (by omega)
            go_wp2
            go_quiet (fail)
            go_wp2
            · go_ret3
              have he : (landI p j == landI p k) = true := by assumption
              have hcl := clash_some hlt hlt2 (by simpa using he) Hne.out Heq.out
              exact ⟨ret3 (vint (by rw [coA, Hok.out, clA_some hcl]; rfl)) (vint (by rw [coB, Hok.out, clB_some hcl]; rfl)) (vint (by rw [coC, Hok.out, hcl]; rfl)), hB.trans ((below_dn2 _ _ _).mono hB.size)⟩
            · go_roundw
              case rel =>
                have he : (landI p j == landI p k) = false := by assumption
                refine ⟨j + 1, _, by omega, by go_num, fun t ht => ?_, rfl⟩
                by_cases htj : t = j
                · rw [htj]; simpa using he
                · exact Hne.out t (by omega)
              case measure => simp [intOf]; omega
          · go_wp2
            go_roundw
            case rel =>
              refine ⟨k + 1, _, by omega, by go_num, fun t ht => ?_, rfl⟩
              by_cases htk : t = k
              · rw [htk]; exact clashAt_none (fun i hi => Hne.out i (by omega))
              · exact Heq.out t (by omega)
            case measure => simp [intOf]; omega
      · go_wp2
        go_ret3
        have hcl := clash_none (p := p) (fun t ht => Heq.out t (by omega))
        exact ⟨ret3 (vint (by rw [coA, Hok.out, clA_none hcl]; rfl)) (vint (by rw [coB, Hok.out, clB_none hcl]; rfl)) (vint (by rw [coC, Hok.out, hcl]; rfl)), hB.trans ((below_dn _ _).mono hB.size)⟩

theorem implValid_any (v : Value) (p : List Int) (w : World) (hp : Rd w v p) : Calls Try.prog 18 #[v] w fun e w' => e = .returned (.bool (validB p)) ∧ Below w.heap.size w w' := by
  have hv := Lib.hid (valid_co p)
  go_enter Try.func18, Try.ntmps18
  go_wp2_with fail
  refine (implCollision_any _ p _ hp).mono ?_
  rintro e w' ⟨rfl, hb⟩
  go_wp2
  go_ret
  exact ⟨ret_bool hv.out, hb⟩
end Go.Proofs.Ytncfnbkddpdedaa
