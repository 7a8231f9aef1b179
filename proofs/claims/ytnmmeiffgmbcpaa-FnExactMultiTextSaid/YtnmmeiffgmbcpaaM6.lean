/-
  Contracts of the functions on patterns with several throws at a beat (chapter 4), sixth part: texts. No condition beyond each contract's own.
-/
import Derived.Test.YtnmmeiffgmbcpaaM4
import Derived.Test.YtnmmeiffgmbcpaaL02e
import Derived.Deep.RegionHeld3
namespace Go.Proofs.Ytnmmeiffgmbcpaa
open Go.ChangeShapes Go.WideShapes Go.ChangeAt Go.RowKit

open Go.PlainAid

theorem str_appM (a b : List Int) : strOfNums a ++ strOfNums b = strOfNums (a ++ b) := by
  unfold strOfNums
  apply ByteArray.ext
  simp [ByteArray.data_append]
theorem add_strM (a b c : List Int) (W : World) (h : a.length + b.length ≤ 1000000) (hc : a ++ b = c) : (Op.stringOp .add (strOfNums a) (strOfNums b)).run Try.prog W = .ok (.string (strOfNums c)) W := by
  rw [run_string_add_sum W _ _ (by rw [strOfNums_size, strOfNums_size]; omega), str_appM, hc]
theorem lit_91 : ({ data := #[91] } : ByteArray) = strOfNums [91] := rfl
theorem lit_93 : ({ data := #[93] } : ByteArray) = strOfNums [93] := rfl

/-- The text of the first k beats. -/
def mtT (R : List (List Int)) : Nat → List Int
  | 0 => []
  | k + 1 => ((if 1 < (gr R k).length then mtT R k ++ [91] else mtT R k) ++ txtL (gr R k) (gr R k).length) ++ (if 1 < (gr R k).length then [93] else [])
theorem mtT_length {R : List (List Int)} (h : ∀ j, j < R.length → (gr R j).length ≤ 4) : ∀ k, k ≤ R.length → (mtT R k).length ≤ 6 * k
  | 0, _ => by simp [mtT]
  | k + 1, hk => by
    have := mtT_length h k (by omega)
    have := h k (by omega)
    have := txtL_length (gr R k) (gr R k).length
    simp only [mtT, List.length_append]
    split <;> simp <;> omega
theorem mtT_one {R : List (List Int)} {k : Nat} (h : ¬ 1 < (gr R k).length) : mtT R (k + 1) = mtT R k ++ txtL (gr R k) (gr R k).length := by
  simp only [mtT, if_neg h, List.append_nil]
theorem mtT_more {R : List (List Int)} {k : Nat} (h : 1 < (gr R k).length) : mtT R (k + 1) = (mtT R k ++ [91]) ++ txtL (gr R k) (gr R k).length ++ [93] := by
  simp only [mtT, if_pos h]
noncomputable def mtP (R : List (List Int)) : ByteArray := if vmB R then strOfNums (mtT R R.length) else strOfNums []

set_option maxHeartbeats 1000000 in
theorem l04Digit_anyM (a : Int) (w : World) (h0 : 0 ≤ a) (h15 : a ≤ 15) : Calls Try.prog 68 #[.int .i64 a] w fun e w' => e = .returned (.string (strOfNums [hexN a])) ∧ w = w' := by
  have hix := hex_slice h0 h15
  go_enter Try.func68, Try.ntmps68
  go_wp2
  go_ret
  exact ⟨rfl, rfl⟩

set_option maxHeartbeats 4000000 in
theorem l04Text_any (p : Value) (R : List (List Int)) (w : World) (h : RdQM w p R) (hok : okM R = true) :
    Calls Try.prog 58 #[p] w fun e w' => e = .returned (.string (strOfNums (mtT R R.length))) ∧ w = w' := by
  obtain ⟨h1, h12, hst⟩ := okM_true hok
  have HST := Lib.hid (fun j hj => stB_true (hst j hj))
  have HBD := Lib.hid (mtT_length (fun j hj => (stB_true (hst j hj)).2.1))
  clear hst hok
  obtain ⟨bq, s, c, rfl, hltq, d1, la, a, ca, hv, ha⟩ := h
  cases hv
  go_enter Try.func58, Try.ntmps58
  go_wp2
  go_loop [3, 4] (fun o i => ∃ r : Nat, r ≤ R.length ∧ i = .int .i64 r ∧ o = .string (strOfNums (mtT R r))) (fun _ i => R.length - (intOf i).toNat)
  case atStart => exact ⟨0, Nat.zero_le _, rfl, rfl⟩
  case round =>
    obtain ⟨r, hr, rfl, rfl⟩ := hrel
    have hbm := HBD.out r hr
    by_cases hltr : r < R.length
    · obtain ⟨ba, oa, cs, rfl, hba, hca⟩ := ha (by omega)
      have p0 := (hca r hltr).1
      obtain ⟨lL, aL, cL, hvL, hcL⟩ := (hca r hltr).2
      rw [hvL] at p0
      have bst := HST.out r hltr
      have HBB := Lib.hid bst.2.2.1
      have hL4 := bst.2.1
      by_cases h2 : 1 < (gr R r).length
      · have HN := Lib.hid (mtT_more h2)
        obtain ⟨L, hL⟩ : ∃ L, L = gr R r := ⟨_, rfl⟩
        obtain ⟨S0, hS0⟩ : ∃ S0, S0 = mtT R r := ⟨_, rfl⟩
        rw [← hL, ← hS0] at HN
        rw [← hL] at p0 hcL lL h2 hL4 HBB
        rw [← hS0] at hbm ⊢
        clear hL hS0 hvL hca ha bst
        have c1 : ∀ W, (Op.stringOp .add (strOfNums S0) { data := #[91] }).run Try.prog W = .ok (.string (strOfNums (S0 ++ [91]))) W := fun W => by rw [lit_91]; exact add_strM _ _ _ W (by simp; omega) rfl
        have HC2 : Hid (∀ k, k < L.length → ∀ W, (Op.stringOp .add (strOfNums (S0 ++ [91] ++ txtL L k)) (strOfNums [hexN (gi L k)])).run Try.prog W = .ok (.string (strOfNums (S0 ++ [91] ++ txtL L (k + 1)))) W) := fun k hk W => add_strM _ _ _ W (by have := txtL_length L k; simp; omega) (by rw [txtL_succ]; simp)
        have HC3 : Hid (∀ W, (Op.stringOp .add (strOfNums (S0 ++ [91] ++ txtL L L.length)) { data := #[93] }).run Try.prog W = .ok (.string (strOfNums (S0 ++ [91] ++ txtL L L.length ++ [93]))) W) := fun W => by rw [lit_93]; exact add_strM _ _ _ W (by have := txtL_length L L.length; simp; omega) rfl
        obtain ⟨P, hP⟩ : ∃ P, P = S0 ++ [91] := ⟨_, rfl⟩
        rw [← hP] at c1 HC2 HC3 HN
        have hPl : P.length = S0.length + 1 := by rw [hP]; simp
        have HPL := Lib.hid hPl
        clear hP hPl
        go_wp2
        go_loop [3, 6] (fun o i => ∃ k : Nat, k ≤ L.length ∧ i = .int .i64 k ∧ o = .string (strOfNums (P ++ txtL L k))) (fun _ i => L.length - (intOf i).toNat)
        case atStart => exact ⟨0, Nat.zero_le _, rfl, by simp [txtL]⟩
        case round =>
          obtain ⟨k, hk, rfl, rfl⟩ := hrel
          by_cases hlt : k < L.length
          · obtain ⟨bb, ob, rfl, hbb, hcb⟩ := hcL (by omega)
            have y1 := hcb k hlt
            have bt := HBB.out k hlt
            have c2 := HC2.out k hlt
            have hd := Lib.hid (fun W => l04Digit_anyM (gi L k) W bt.1 bt.2)
            clear hcb hcL bt
            go_wp2_with (go_at_call 68; refine (hd.out _).mono ?_; rintro e w2 ⟨rfl, rfl⟩)
            go_round
            case rel => exact ⟨k + 1, by omega, by go_num, rfl⟩
            case measure => simp [intOf]; omega
          · obtain rfl : k = L.length := by omega
            have c3 := HC3.out
            go_wp2
            go_round
            case rel => exact ⟨r + 1, by omega, by go_num, by rw [HN.out, List.append_assoc]⟩
            case measure => simp [intOf]; omega
      · have HN := Lib.hid (mtT_one h2)
        obtain ⟨L, hL⟩ : ∃ L, L = gr R r := ⟨_, rfl⟩
        obtain ⟨P, hP⟩ : ∃ P, P = mtT R r := ⟨_, rfl⟩
        rw [← hL, ← hP] at HN
        rw [← hL] at p0 hcL lL h2 hL4 HBB
        rw [← hP] at hbm ⊢
        clear hL hP hvL hca ha bst
        have HC2 : Hid (∀ k, k < L.length → ∀ W, (Op.stringOp .add (strOfNums (P ++ txtL L k)) (strOfNums [hexN (gi L k)])).run Try.prog W = .ok (.string (strOfNums (P ++ txtL L (k + 1)))) W) := fun k hk W => add_strM _ _ _ W (by have := txtL_length L k; simp; omega) (by rw [txtL_succ]; simp)
        go_wp2
        go_loop [3, 6] (fun o i => ∃ k : Nat, k ≤ L.length ∧ i = .int .i64 k ∧ o = .string (strOfNums (P ++ txtL L k))) (fun _ i => L.length - (intOf i).toNat)
        case atStart => exact ⟨0, Nat.zero_le _, rfl, by simp [txtL]⟩
        case round =>
          obtain ⟨k, hk, rfl, rfl⟩ := hrel
          by_cases hlt : k < L.length
          · obtain ⟨bb, ob, rfl, hbb, hcb⟩ := hcL (by omega)
            have y1 := hcb k hlt
            have bt := HBB.out k hlt
            have c2 := HC2.out k hlt
            have hd := Lib.hid (fun W => l04Digit_anyM (gi L k) W bt.1 bt.2)
            clear hcb hcL bt
            go_wp2_with (go_at_call 68; refine (hd.out _).mono ?_; rintro e w2 ⟨rfl, rfl⟩)
            go_round
            case rel => exact ⟨k + 1, by omega, by go_num, rfl⟩
            case measure => simp [intOf]; omega
          · obtain rfl : k = L.length := by omega
            go_wp2
            go_round
            case rel => exact ⟨r + 1, by omega, by go_num, by rw [HN.out]⟩
            case measure => simp [intOf]; omega
    · obtain rfl : r = R.length := by omega
      go_wp2
      go_ret
      exact ⟨rfl, rfl⟩

set_option maxHeartbeats 4000000 in
theorem specTextM_any (a : Value) (R : List (List Int)) (w : World) (h : RdR w a R) :
    Calls Try.prog 33 #[.agg #[a]] w fun e w' => e = .returned (.string (mtP R)) ∧ Below w.heap.size w w' := by
  obtain ⟨s1, c1, rfl⟩ := h.form
  have hv0 := l04Ok_any _ R _ (rdQM_box h)
  cases hval : vmB R
  · rw [hval] at hv0
    have hv := Lib.hid hv0
    clear hv0 h
    go_enter Try.func33, Try.ntmps33
    go_wp2_with fail
    refine hv.out.mono ?_
    rintro e w' ⟨rfl, hb⟩
    have HB := Lib.hid (below_step (box_below _ _) hb (by simp))
    clear hb
    go_wp2
    go_ret
    exact ⟨ret_string (by rw [mtP, hval]; rfl), HB.out⟩
  · rw [hval] at hv0
    have hv := Lib.hid hv0
    clear hv0
    have Hval := Lib.hid hval
    clear hval
    go_enter Try.func33, Try.ntmps33
    go_wp2_with fail
    refine hv.out.mono ?_
    rintro e w1 ⟨rfl, hb⟩
    obtain ⟨hcc, hzz⟩ := bcell hb
    have k0 : w1.cell? ⟨w.heap.size, 0, none⟩ = some (.slice s1 R.length c1) := (hcc _ _ (by simp)).trans (by simp)
    have hB := below_step (box_below _ _) hb (by simp)
    have hlt0 : w.heap.size < w1.heap.size := by have := hb.size; simp at this; omega
    clear hcc hzz hb
    have hq : RdQM w1 (.pointer (some ⟨w.heap.size, 0, none⟩)) R := ⟨w.heap.size, s1, c1, rfl, hlt0, k0, h.below hB⟩
    have hl := Lib.hid (l04Text_any _ R _ hq (vmB_ok Hval.out))
    have HB := Lib.hid hB
    clear hq hB k0 h
    go_wp2_with fail
    refine hl.out.mono ?_
    rintro e w2 ⟨rfl, rfl⟩
    go_wp2
    go_ret
    exact ⟨ret_string (by rw [mtP, Hval.out]; rfl), HB.out⟩

theorem app_len (P L : List Int) (k : Nat) : (P ++ txtL L k).length = P.length + k := by rw [List.length_append, txtL_length]

set_option maxRecDepth 20000 in
set_option maxHeartbeats 4000000 in
theorem implTextM_any (a : Value) (R : List (List Int)) (w : World) (h : RdR w a R) :
    Calls Try.prog 34 #[.agg #[a]] w fun e w' => e = .returned (.string (mtP R)) ∧ Below w.heap.size w w' := by
  obtain ⟨s1, c1, rfl⟩ := h.form
  have hv0 := implValidM_any _ R (w.alloc (.cells #[.slice s1 R.length c1] 34)) (h.below (box_below _ _))
  cases hval : vmB R
  · rw [hval] at hv0
    have hv := Lib.hid hv0
    clear hv0 h
    go_enter Try.func34, Try.ntmps34
    go_wp2_with fail
    refine hv.out.mono ?_
    rintro e w' ⟨rfl, hb⟩
    have HB := Lib.hid (below_step (box_below _ _) hb (by simp))
    clear hb
    go_wp2
    go_ret
    exact ⟨ret_string (by rw [mtP, hval]; rfl), HB.out⟩
  · rw [hval] at hv0
    have hv := Lib.hid hv0
    clear hv0
    obtain ⟨h1, h12, hst⟩ := okM_true (vmB_ok hval)
    have HST := Lib.hid (fun j hj => stB_true (hst j hj))
    have HBD := Lib.hid (mtT_length (fun j hj => (stB_true (hst j hj)).2.1))
    have Hval := Lib.hid hval
    clear hval hst
    have hold := h
    obtain ⟨la, a, ca, hv', ha⟩ := h
    cases hv'
    go_enter Try.func34, Try.ntmps34
    go_wp2_with fail
    refine hv.out.mono ?_
    rintro e w1 ⟨rfl, hb⟩
    obtain ⟨hcc, hzz⟩ := bcell hb
    have k0 : w1.cell? ⟨w.heap.size, 0, none⟩ = some (.slice s1 R.length c1) := (hcc _ _ (by simp)).trans (by simp)
    have hB := below_step (box_below _ _) hb (by simp)
    have hlt0 : w.heap.size < w1.heap.size := by have := hb.size; simp at this; omega
    clear hcc hzz hb hold
    have hs1 := hB.size
    go_wp2
    have HB1 := Lib.hid hB
    clear hB
    go_loopw [3, 15] (fun o i wr => ∃ r : Nat, r ≤ R.length ∧ i = .int .i64 r ∧ wr.ownsRow w1.heap.size 5 1 o (mtT R r).length ((mtT R r).map (Value.int .u8)) ∧ Below w1.heap.size w1 wr) (fun _ i _ => R.length - (intOf i).toNat)
    case atStart => exact ⟨0, Nat.zero_le _, rfl, bytes_made w1, below_bytes w1⟩
    case round =>
      obtain ⟨r, hr, rfl, hown, hB⟩ := hrel
      have hbm := HBD.out r hr
      by_cases hltr : r < R.length
      · obtain ⟨ba, oa, cs, rfl, hba, hca⟩ := ha (by omega)
        obtain ⟨lL, aL, cL, hvL, hcL⟩ := (hca r hltr).2.below HB1.out
        have p0 : wr.cell? ⟨ba, oa + r, none⟩ = some (cs r) := ((hB.cell (p := ⟨ba, oa + r, none⟩) (by show ba < _; omega)).trans (HB1.out.cell (p := ⟨ba, oa + r, none⟩) hba)).trans (hca r hltr).1
        rw [hvL] at p0
        have bst := HST.out r hltr
        have HBB := Lib.hid bst.2.2.1
        have hL4 := bst.2.1
        by_cases h2 : 1 < (gr R r).length
        · have HN := Lib.hid (mtT_more h2)
          obtain ⟨L, hL⟩ : ∃ L, L = gr R r := ⟨_, rfl⟩
          rw [← hL] at HN
          rw [← hL] at p0 hcL lL h2 hL4 HBB
          clear hL hvL hca ha bst
          obtain ⟨S0, hS0⟩ : ∃ S0, S0 = mtT R r := ⟨_, rfl⟩
          rw [← hS0] at HN hbm hown
          have Hbm := Lib.hid hbm
          clear hS0 hbm
          go_wp2_with (at_builtin; refine push_byte rfl _ _ rfl rfl rfl hown hB.size (by have := Hbm.out; omega) ?_; intro v1 w2 hown1 hb1)
          have HB2 := Lib.hid (hB.trans hb1)
          clear hB hb1
          obtain ⟨P, hP⟩ : ∃ P, P = S0 ++ [91] := ⟨_, rfl⟩
          rw [← hP] at HN hown1
          have hPl : P.length ≤ 6 * r + 1 := by rw [hP]; simp; exact Hbm.out
          clear hP
          go_loopw [3, 27] (fun o i wi => ∃ k : Nat, k ≤ L.length ∧ i = .int .i64 k ∧ wi.ownsRow w1.heap.size 5 1 o (P ++ txtL L k).length ((P ++ txtL L k).map (Value.int .u8)) ∧ Below w1.heap.size w1 wi) (fun _ i _ => L.length - (intOf i).toNat)
          case atStart => exact ⟨0, Nat.zero_le _, rfl, by rw [show P ++ txtL L 0 = P by simp [txtL]]; exact ⟨hown1, HB2.out⟩⟩
          case round =>
            rename_i wi
            obtain ⟨k, hk, rfl, howni, hBi⟩ := hrel
            by_cases hlt : k < L.length
            · obtain ⟨bb, ob, rfl, hbb, hcb⟩ := hcL (by omega)
              have y1 := (hBi.cell (p := ⟨bb, ob + k, none⟩) hbb).trans (hcb k hlt)
              have bt := HBB.out k hlt
              have hix := hex_index bt.1 bt.2
              have hll := Lib.hid (app_len P L k)
              clear hcb hcL bt
              go_wp2_with (at_builtin; refine push_byte rfl _ _ rfl rfl rfl howni hBi.size (by rw [hll.out]; omega) ?_; intro v' w' hown' hb')
              go_roundw
              case rel => exact ⟨k + 1, by omega, by go_num, by rw [txtL_succ, ← List.append_assoc]; exact hown', hBi.trans hb'⟩
              case measure => simp [intOf]; omega
            · obtain rfl : k = L.length := by omega
              have hll := Lib.hid (app_len P L L.length)
              go_wp2_with (at_builtin; refine push_byte rfl _ _ rfl rfl rfl howni hBi.size (by rw [hll.out]; omega) ?_; intro v' w' hown' hb')
              go_roundw
              case rel => exact ⟨r + 1, by omega, by go_num, by rw [HN.out]; exact hown', hBi.trans hb'⟩
              case measure => simp [intOf]; omega
        · have HN := Lib.hid (mtT_one h2)
          obtain ⟨L, hL⟩ : ∃ L, L = gr R r := ⟨_, rfl⟩
          rw [← hL] at HN
          rw [← hL] at p0 hcL lL h2 hL4 HBB
          clear hL hvL hca ha bst
          obtain ⟨P, hP⟩ : ∃ P, P = mtT R r := ⟨_, rfl⟩
          rw [← hP] at HN hbm hown
          have Hown := Lib.hid (And.intro hown hB)
          clear hP hown hB
          go_wp2
          go_loopw [3, 27] (fun o i wi => ∃ k : Nat, k ≤ L.length ∧ i = .int .i64 k ∧ wi.ownsRow w1.heap.size 5 1 o (P ++ txtL L k).length ((P ++ txtL L k).map (Value.int .u8)) ∧ Below w1.heap.size w1 wi) (fun _ i _ => L.length - (intOf i).toNat)
          case atStart => exact ⟨0, Nat.zero_le _, rfl, by rw [show P ++ txtL L 0 = P by simp [txtL]]; exact Hown.out⟩
          case round =>
            rename_i wi
            obtain ⟨k, hk, rfl, howni, hBi⟩ := hrel
            by_cases hlt : k < L.length
            · obtain ⟨bb, ob, rfl, hbb, hcb⟩ := hcL (by omega)
              have y1 := (hBi.cell (p := ⟨bb, ob + k, none⟩) hbb).trans (hcb k hlt)
              have bt := HBB.out k hlt
              have hix := hex_index bt.1 bt.2
              have hll := Lib.hid (app_len P L k)
              clear hcb hcL bt
              go_wp2_with (at_builtin; refine push_byte rfl _ _ rfl rfl rfl howni hBi.size (by rw [hll.out]; omega) ?_; intro v' w' hown' hb')
              go_roundw
              case rel => exact ⟨k + 1, by omega, by go_num, by rw [txtL_succ, ← List.append_assoc]; exact hown', hBi.trans hb'⟩
              case measure => simp [intOf]; omega
            · obtain rfl : k = L.length := by omega
              go_wp2
              go_roundw
              case rel => exact ⟨r + 1, by omega, by go_num, by rw [HN.out]; exact howni, hBi⟩
              case measure => simp [intOf]; omega
      · obtain rfl : r = R.length := by omega
        have hcv := conv_own hown
        go_wp2
        go_ret
        exact ⟨ret_string (by rw [mtP, Hval.out]; rfl), below_step HB1.out hB hs1⟩
end Go.Proofs.Ytnmmeiffgmbcpaa
