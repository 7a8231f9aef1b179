/-
  Decimal, by the reference: the walk. No condition beyond each contract's own.
-/
import Derived.Test.YtengmacnaifbjaaDoorD1
namespace Go.Proofs.YtengmacnaifbjaaDoor
open Go.ChangeShapes Go.WideShapes Go.ChangeAt Go.RowKit

open Go.PlainAid

theorem nabs_tmod {m : Int} : (m.tmod 10 < 0 → -(m.tmod 10) = ((m.natAbs % 10 : Nat) : Int)) ∧ (¬ m.tmod 10 < 0 → m.tmod 10 = ((m.natAbs % 10 : Nat) : Int)) ∧ -9 ≤ m.tmod 10 ∧ m.tmod 10 ≤ 9 ∧ (m.tdiv 10).natAbs = m.natAbs / 10 ∧ (-9223372036854775808 ≤ m → -9223372036854775808 ≤ m.tdiv 10) ∧ (m ≤ 9223372036854775807 → m.tdiv 10 ≤ 9223372036854775807) := by
  by_cases h : 0 ≤ m
  · rw [Int.tmod_eq_emod_of_nonneg h, Int.tdiv_eq_ediv_of_nonneg h]
    omega
  · obtain ⟨u, rfl⟩ : ∃ u : Int, m = -u := ⟨-m, by omega⟩
    rw [Int.neg_tmod, Int.neg_tdiv, Int.tmod_eq_emod_of_nonneg (by omega), Int.tdiv_eq_ediv_of_nonneg (by omega)]
    omega
theorem nabs_start {n : Int} (h0 : -9223372036854775808 ≤ n) (h1 : n ≤ 9223372036854775807) : n.natAbs < 10 ^ 19 := by
  have : (10 : Nat) ^ 19 = 10000000000000000000 := by decide
  omega

set_option maxRecDepth 20000 in
set_option maxHeartbeats 8000000 in
theorem l01Dec_any (n : Int) (w : World) (h0 : -9223372036854775808 ≤ n) (h1 : n ≤ 9223372036854775807) :
    Calls Tryd.prog 9 #[.int .i64 n] w fun e w' => e = .returned (.string ⟨(Lib.itoa n).toArray⟩) ∧ Below w.heap.size w w' := by
  have hst := Lib.hid (nabs_start h0 h1)
  go_enter Tryd.func9, Tryd.ntmps9
  go_wp2
  go_loopw [3, 4] (fun o q wr => ∃ (m : Int) (xs : List Int) (j g c : Nat), q = .int .i64 m ∧ o = .slice (some ⟨g, 0, none⟩) xs.length c ∧ g < wr.heap.size ∧ -9223372036854775808 ≤ m ∧ m ≤ 9223372036854775807 ∧ xs.length + j = 19 ∧ Hid (m.natAbs < 10 ^ j) ∧ Hid (dgI m.natAbs xs = dgI n.natAbs []) ∧ wr.ownsRow w.heap.size 5 1 (.slice (some ⟨g, 0, none⟩) xs.length c) xs.length (xs.map (Value.int .u8)) ∧ Below w.heap.size w wr) (fun _ q _ => (intOf q).natAbs)
  case atStart => exact ⟨n, [], 19, w.heap.size, 0, rfl, rfl, by simp, h0, h1, rfl, hst, rfl, bytes_made w, below_bytes w⟩
  case round =>
    obtain ⟨m, xs, j, g, c, rfl, rfl, hg, hm0, hm1, hlj, HP, HD, hown, hB⟩ := hrel
    have HO := Lib.hid (And.intro hown hB)
    have hBs := hB.size
    by_cases hm : m = 0
    · have HX : Hid (xs = dgI n.natAbs []) := by
        have := HD.out
        rw [hm] at this
        rw [show (0 : Int).natAbs = 0 from rfl, dgI_zero] at this
        exact this
      have hcv := conv_own hown
      clear hown hB
      subst hm
      by_cases hxl : xs.length = 0
      · have hx : xs = [] := List.length_eq_zero_iff.1 hxl
        have hn0 : n = 0 := by
          have h2 := HX.out
          rw [hx] at h2
          have := dgI_nil h2.symm
          omega
        have hne : ¬ (0 : Int) < (xs.length : Int) := by omega
        clear hcv
        subst hn0
        clear hx
        go_wp2
        go_ret
        exact ⟨ret_string dec_zero, HO.out.2⟩
      · have hnz : n ≠ 0 := by
          intro e
          apply hxl
          rw [HX.out, e]
          rw [show (0 : Int).natAbs = 0 from rfl, dgI_zero]
          rfl
        by_cases hneg : n < 0
        · have HR := Lib.hid (dec_neg HX.out hneg)
          have hcat : ∀ W, (Op.stringOp .add { data := #[45] } (strOfNums xs)).run Tryd.prog W = .ok (.string ({ data := #[45] } ++ strOfNums xs)) W := fun W => run_string_add_sum W _ _ (by rw [strOfNums_size]; show 1 + _ ≤ _; omega)
          have hxl2 : ¬ (xs.length : Int) = 0 := by omega
          have hxb : ((xs.length : Int) == 0) = false := bF (by omega)
          clear hnz
          go_wp2
          go_ret
          exact ⟨ret_string HR.out, HO.out.2⟩
        · have HR := Lib.hid (dec_pos HX.out (by omega))
          have hxl2 : ¬ (xs.length : Int) = 0 := by omega
          have hxb : ((xs.length : Int) == 0) = false := bF (by omega)
          clear hnz
          go_wp2
          go_ret
          exact ⟨ret_string HR.out, HO.out.2⟩
    · clear hown hB
      obtain ⟨k, rfl⟩ : ∃ k, j = k + 1 := by
        refine ⟨j - 1, ?_⟩
        have := HP.out
        by_cases hj : j = 0
        · rw [hj] at this
          simp at this
          exact absurd this hm
        · omega
      obtain ⟨t1, t2, t3, t4, t5, t6, t7⟩ := nabs_tmod (m := m)
      obtain ⟨D, hD⟩ : ∃ D, m.tmod 10 = D := ⟨_, rfl⟩
      obtain ⟨M, hM⟩ : ∃ M, m.tdiv 10 = M := ⟨_, rfl⟩
      rw [hD] at t1 t2 t3 t4
      rw [hM] at t5 t6 t7
      have hM0 := t6 hm0
      have hM1 := t7 hm1
      have HD2 := Lib.hid (show dgI M.natAbs ((48 + ((m.natAbs % 10 : Nat) : Int)) :: xs) = dgI n.natAbs [] by rw [t5, ← dgI_step (by omega)]; exact HD.out)
      have HP2 := Lib.hid (show M.natAbs < 10 ^ k by rw [t5]; exact Nat.div_lt_of_lt_mul (by have := HP.out; rw [Nat.pow_succ] at this; omega))
      have HM := Lib.hid (show M.natAbs < m.natAbs by rw [t5]; omega)
      have hmb : (m == 0) = false := by simp [hm]
      have hdd : m.natAbs % 10 < 10 := Nat.mod_lt _ (by omega)
      obtain ⟨d, hd⟩ : ∃ d, d = m.natAbs % 10 := ⟨_, rfl⟩
      rw [← hd] at t1 t2 HD2 hdd
      clear t5 t6 t7 hd
      have hw8 : IntKind.u8.wrap (48 + (d : Int)) = 48 + (d : Int) := IntWalk.u8_in _ (by omega)
      by_cases hneg : D < 0
      · have e1 := t1 hneg
        clear t1 t2
        obtain rfl : D = -(d : Int) := by omega
        go_wp2_with (at_builtin; refine push_front (x := 48 + (d : Int)) (ys := xs) rfl _ _ rfl rfl rfl HO.out.1 HO.out.2.size (by omega) hg ?_; intro g' c' w' hown' hg' hb')
        go_roundw
        case rel => exact ⟨M, [48 + (d : Int)] ++ xs, k, g', c', rfl, rfl, hg', hM0, hM1, by simp; omega, HP2, HD2, hown', HO.out.2.trans hb'⟩
        case measure => exact HM.out
      · have e1 := t2 hneg
        clear t1 t2
        subst e1
        go_wp2_with (at_builtin; refine push_front (x := 48 + (d : Int)) (ys := xs) rfl _ _ rfl rfl rfl HO.out.1 HO.out.2.size (by omega) hg ?_; intro g' c' w' hown' hg' hb')
        go_roundw
        case rel => exact ⟨M, [48 + (d : Int)] ++ xs, k, g', c', rfl, rfl, hg', hM0, hM1, by simp; omega, HP2, HD2, hown', HO.out.2.trans hb'⟩
        case measure => exact HM.out
end Go.Proofs.YtengmacnaifbjaaDoor
