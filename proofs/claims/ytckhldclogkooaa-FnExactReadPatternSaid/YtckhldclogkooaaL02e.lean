/-
  Contracts of the functions on siteswaps (chapter 2), fifth part: texts. No condition beyond each contract's own.
-/
import Derived.Test.YtckhldclogkooaaL02b
import Derived.Test.YtckhldclogkooaaBytes
namespace Go.Proofs.Ytckhldclogkooaa
open Go.ChangeShapes Go.WideShapes Go.ChangeAt Go.RowKit

open Go.PlainAid

/-- The byte of a throw. -/
def hexN (t : Int) : Int := if t < 10 then 48 + t else 87 + t
def txtL (p : List Int) (k : Nat) : List Int := (List.range k).map fun (j : Nat) => hexN (gi p j)
theorem txtL_succ (p : List Int) (k : Nat) : txtL p (k + 1) = txtL p k ++ [hexN (gi p k)] := by simp [txtL, List.range_succ]
theorem txtL_length (p : List Int) (k : Nat) : (txtL p k).length = k := by simp [txtL]
def hexS : ByteArray := { data := #[48, 49, 50, 51, 52, 53, 54, 55, 56, 57, 97, 98, 99, 100, 101, 102] }
theorem sixteen {t : Int} (h0 : 0 ≤ t) (h1 : t ≤ 15) : t = 0 ∨ t = 1 ∨ t = 2 ∨ t = 3 ∨ t = 4 ∨ t = 5 ∨ t = 6 ∨ t = 7 ∨ t = 8 ∨ t = 9 ∨ t = 10 ∨ t = 11 ∨ t = 12 ∨ t = 13 ∨ t = 14 ∨ t = 15 := by omega
theorem hex_index {t : Int} (h0 : 0 ≤ t) (h1 : t ≤ 15) (w : World) : (Instr.index 9 (.string { data := #[48, 49, 50, 51, 52, 53, 54, 55, 56, 57, 97, 98, 99, 100, 101, 102] }) (.int .i64 t)).run Try.prog w = .ok (.int .u8 (hexN t)) w := by
  rcases sixteen h0 h1 with rfl | rfl | rfl | rfl | rfl | rfl | rfl | rfl | rfl | rfl | rfl | rfl | rfl | rfl | rfl | rfl <;> kernel_rfl
theorem hex_slice {t : Int} (h0 : 0 ≤ t) (h1 : t ≤ 15) (w : World) : (Instr.slice 9 (.string { data := #[48, 49, 50, 51, 52, 53, 54, 55, 56, 57, 97, 98, 99, 100, 101, 102] }) (some (.int .i64 t)) (some (.int .i64 (t + 1))) none).run Try.prog w = .ok (.string (strOfNums [hexN t])) w := by
  rcases sixteen h0 h1 with rfl | rfl | rfl | rfl | rfl | rfl | rfl | rfl | rfl | rfl | rfl | rfl | rfl | rfl | rfl | rfl <;> kernel_rfl

/-- The text of a pattern. -/
def ptS (p : List Int) : ByteArray := if validB p then strOfNums (txtL p p.length) else strOfNums []

set_option maxHeartbeats 2000000 in
theorem implText_any (v : Value) (p : List Int) (w : World) (hp : Rd w v p) :
    Calls Try.prog 22 #[v] w fun e w' => e = .returned (.string (ptS p)) ∧ Below w.heap.size w w' := by
  have hv := Lib.hid (implValid_any v p w hp)
  cases hval : validB p
  · rw [hval] at hv
    have hr : ptS p = strOfNums [] := by rw [ptS, hval]; rfl
    rw [hr]
    clear hr
    go_enter Try.func22, Try.ntmps22
    go_wp2_with fail
    refine hv.out.mono ?_
    rintro e w' ⟨rfl, hb⟩
    go_wp2
    go_ret
    exact ⟨rfl, hb⟩
  · rw [hval] at hv
    have hr : ptS p = strOfNums (txtL p p.length) := by rw [ptS, hval]; rfl
    rw [hr]
    obtain ⟨h1, h12, hbd⟩ := validB_true hval
    clear hr hval
    obtain ⟨la, a, ca, rfl, ha⟩ := hp
    obtain ⟨ba, oa, rfl, hba, hca⟩ := ha (by omega)
    clear ha
    go_enter Try.func22, Try.ntmps22
    go_wp2_with fail
    refine hv.out.mono ?_
    rintro e w1 ⟨rfl, hb⟩
    have hs1 := hb.size
    go_wp2
    go_loopw [3, 12] (fun o i wr => ∃ k : Nat, k ≤ p.length ∧ i = .int .i64 k ∧ wr.ownsRow w1.heap.size 5 1 o (txtL p k).length ((txtL p k).map (Value.int .u8)) ∧ Below w1.heap.size w1 wr) (fun _ i _ => p.length - (intOf i).toNat)
    case atStart => exact ⟨0, Nat.zero_le _, rfl, bytes_made w1, below_bytes w1⟩
    case round =>
      obtain ⟨k, hk, rfl, hown, hB⟩ := hrel
      have hcv := conv_own hown
      by_cases hlt : k < p.length
      · have hc : wr.cell? ⟨ba, oa + k, none⟩ = some (.int .i64 (gi p k)) := ((hB.cell (p := ⟨ba, oa + k, none⟩) (by show ba < _; omega)).trans (hb.cell (p := ⟨ba, oa + k, none⟩) hba)).trans (hca k hlt)
        have hbk := hbd k hlt
        have hix := hex_index hbk.1 hbk.2
        have hll := Lib.hid (txtL_length p k)
        clear hcv
        go_wp2_with (at_builtin; refine push_byte rfl _ _ rfl rfl rfl hown hB.size (by rw [hll.out]; omega) ?_; intro v' w' hown' hb')
        go_roundw
        case rel => exact ⟨k + 1, by omega, by go_num, by rw [txtL_succ]; exact hown', hB.trans hb'⟩
        case measure => simp [intOf]; omega
      · go_wp2
        go_ret
        obtain rfl : k = p.length := by omega
        exact ⟨rfl, below_step hb hB hs1⟩

set_option maxHeartbeats 2000000 in
theorem l02Text_any (v : Value) (p : List Int) (w : World) (hp : Rd w v p) (hok : okT p = true) :
    Calls Try.prog 48 #[v] w fun e w' => e = .returned (.string (strOfNums (txtL p p.length))) ∧ ∃ n, w' = w.drewN n := by
  obtain ⟨h1, h12, hbd⟩ := okT_true hok
  clear hok
  obtain ⟨la, a, ca, rfl, ha⟩ := hp
  obtain ⟨ba, oa, rfl, hba, hca⟩ := ha (by omega)
  clear ha
  go_enter Try.func48, Try.ntmps48
  go_wp2
  go_loopw [4, 5] (fun o i wr => ∃ k n : Nat, k ≤ p.length ∧ i = .int .i64 k ∧ o = .string (strOfNums (txtL p k)) ∧ wr = w.drewN n) (fun _ i _ => p.length - (intOf i).toNat)
  case atStart => exact ⟨0, 0, Nat.zero_le _, rfl, rfl, rfl⟩
  case round =>
    obtain ⟨k, n, hk, rfl, rfl, rfl⟩ := hrel
    by_cases hlt : k < p.length
    · have hc := hca k hlt
      have hbk := hbd k hlt
      have hix := hex_slice hbk.1 hbk.2
      have hsum : IntKind.i64.wrap (gi p k + 1) = gi p k + 1 := IntWalk.i64_in _ (by omega)
      have hcat : ∀ W, (Op.stringOp .add (strOfNums (txtL p k)) (strOfNums [hexN (gi p k)])).run Try.prog W = .ok (.string (strOfNums (txtL p (k + 1)))) W := fun W => by
        rw [run_string_add_sum W _ _ (by rw [strOfNums_size, strOfNums_size, txtL_length]; simp; omega), str_append, txtL_succ]
      go_wp2
      go_quiet (fail)
      clear hsum
      go_wp2
      go_roundw
      case rel => exact ⟨k + 1, _, by omega, by go_num, rfl, rfl⟩
      case measure => simp [intOf]; omega
    · go_wp2
      go_ret
      obtain rfl : k = p.length := by omega
      exact ⟨rfl, n, rfl⟩

set_option maxHeartbeats 2000000 in
theorem specText_any (v : Value) (p : List Int) (w : World) (hp : Rd w v p) :
    Calls Try.prog 21 #[v] w fun e w' => e = .returned (.string (ptS p)) ∧ Below w.heap.size w w' := by
  have hv := Lib.hid (l02Ok_any v p w hp)
  cases hval : validB p
  · rw [hval] at hv
    have hr : ptS p = strOfNums [] := by rw [ptS, hval]; rfl
    rw [hr]
    clear hr
    go_enter Try.func21, Try.ntmps21
    go_wp2_with fail
    refine hv.out.mono ?_
    rintro e w' ⟨rfl, n, rfl⟩
    go_wp2
    go_ret
    exact ⟨rfl, below_dn _ _⟩
  · rw [hval] at hv
    have hr : ptS p = strOfNums (txtL p p.length) := by rw [ptS, hval]; rfl
    rw [hr]
    clear hr
    go_enter Try.func21, Try.ntmps21
    go_wp2_with fail
    refine hv.out.mono ?_
    rintro e w' ⟨rfl, n, rfl⟩
    go_wp2_with fail
    refine (l02Text_any v p _ (hp.drewN n) (okT_of_valid hval)).mono ?_
    rintro e w' ⟨rfl, m, rfl⟩
    go_wp2
    go_ret
    exact ⟨rfl, below_dn _ _⟩

/-- The throw of a byte; -1 if there is none. -/
def hexV (c : Int) : Int := if 48 ≤ c ∧ c ≤ 57 then c - 48 else if 97 ≤ c ∧ c ≤ 102 then c - 87 else -1
theorem hexV_at {c : Int} {k : Nat} (hk : k < 16) (h : hexN k = c) : hexV c = k := by
  unfold hexN at h
  unfold hexV
  split at h
  · rw [if_pos (by omega)]; omega
  · rw [if_neg (by omega), if_pos (by omega)]; omega
theorem hexV_no {c : Int} (h : ∀ k : Nat, k < 16 → hexN k ≠ c) : hexV c = -1 := by
  unfold hexV
  by_cases h1 : 48 ≤ c ∧ c ≤ 57
  · exfalso
    refine h (c - 48).toNat (by omega) ?_
    unfold hexN
    rw [if_pos (by omega)]; omega
  · rw [if_neg h1]
    by_cases h2 : 97 ≤ c ∧ c ≤ 102
    · exfalso
      refine h (c - 87).toNat (by omega) ?_
      unfold hexN
      rw [if_neg (by omega)]; omega
    · rw [if_neg h2]

set_option maxHeartbeats 1000000 in
theorem hexOf_any (c : Int) (w : World) : Calls Try.prog 77 #[.int .u8 c] w fun e w' => e = .returned (.int .i64 (hexV c)) ∧ w = w' := by
  go_enter Try.func77, Try.ntmps77
  go_wp2
  go_loop [4] (fun i => ∃ k : Nat, k ≤ 16 ∧ i = .int .i64 k ∧ ∀ j : Nat, j < k → hexN j ≠ c) (fun i => 16 - (intOf i).toNat)
  case atStart => exact ⟨0, Nat.zero_le _, rfl, fun j hj => absurd hj (Nat.not_lt_zero j)⟩
  case round =>
    obtain ⟨k, hk, rfl, heq⟩ := hrel
    have Heq := Lib.hid heq
    clear heq
    by_cases hlt : k < 16
    · have hix := hex_index (t := (k : Int)) (by omega) (by omega)
      go_wp2
      · go_ret
        have he : (hexN (k : Int) == c) = true := by assumption
        exact ⟨ret_int (hexV_at hlt (by simpa using he)).symm, rfl⟩
      · go_round
        case rel =>
          have he : (hexN (k : Int) == c) = false := by assumption
          refine ⟨k + 1, by omega, by go_num, fun j hj => ?_⟩
          by_cases hjk : j = k
          · rw [hjk]; simpa using he
          · exact Heq.out j (by omega)
        case measure => simp [intOf]; omega
    · go_wp2
      go_ret
      exact ⟨ret_int (hexV_no (fun j hj => Heq.out j (by omega))).symm, rfl⟩

set_option maxHeartbeats 1000000 in
theorem l02Digit_any (c : Int) (w : World) (h0 : 0 ≤ c) (h255 : c ≤ 255) : Calls Try.prog 76 #[.int .u8 c] w fun e w' => e = .returned (.int .i64 (hexV c)) ∧ w = w' := by
  have hcase : c < 48 ∨ (48 ≤ c ∧ c ≤ 57) ∨ (58 ≤ c ∧ c ≤ 96) ∨ (97 ≤ c ∧ c ≤ 102) ∨ 103 ≤ c := by omega
  rcases hcase with h | ⟨h, h'⟩ | ⟨h, h'⟩ | ⟨h, h'⟩ | h
  · have e : hexV c = -1 := by rw [hexV, if_neg (by omega), if_neg (by omega)]
    rw [e]
    clear e
    have d1 : decide (48 ≤ c) = false := decide_eq_false (by omega)
    have d3 : decide (97 ≤ c) = false := decide_eq_false (by omega)
    go_enter Try.func76, Try.ntmps76
    go_wp2
    go_ret
    exact ⟨rfl, rfl⟩
  · have e : hexV c = c - 48 := by rw [hexV, if_pos (by omega)]
    rw [e]
    clear e
    go_enter Try.func76, Try.ntmps76
    go_wp2
    go_ret
    exact ⟨rfl, rfl⟩
  · have e : hexV c = -1 := by rw [hexV, if_neg (by omega), if_neg (by omega)]
    rw [e]
    clear e
    have d2 : decide (c ≤ 57) = false := decide_eq_false (by omega)
    have d3 : decide (97 ≤ c) = false := decide_eq_false (by omega)
    go_enter Try.func76, Try.ntmps76
    go_wp2
    go_ret
    exact ⟨rfl, rfl⟩
  · have e : hexV c = c - 97 + 10 := by rw [hexV, if_neg (by omega), if_pos (by omega)]; omega
    rw [e]
    clear e
    have d2 : decide (c ≤ 57) = false := decide_eq_false (by omega)
    go_enter Try.func76, Try.ntmps76
    go_wp2
    go_ret
    exact ⟨rfl, rfl⟩
  · have e : hexV c = -1 := by rw [hexV, if_neg (by omega), if_neg (by omega)]
    rw [e]
    clear e
    have d2 : decide (c ≤ 57) = false := decide_eq_false (by omega)
    have d4 : decide (c ≤ 102) = false := decide_eq_false (by omega)
    go_enter Try.func76, Try.ntmps76
    go_wp2
    go_ret
    exact ⟨rfl, rfl⟩
end Go.Proofs.Ytckhldclogkooaa
