/-
  ReadDecimal: contracts of the reference and of the program. No condition beyond each contract's own.
-/
import Derived.Test.YtengmacnaifbjaaDoorD4
namespace Go.Proofs.YtengmacnaifbjaaDoor
open Go.ChangeShapes Go.WideShapes Go.ChangeAt Go.RowKit

open Go.PlainAid

set_option maxRecDepth 20000 in
set_option maxHeartbeats 8000000 in
theorem l01Number_any (s : ByteArray) (w : World) (hs : s.size ≤ 1048576) :
    Calls Tryd.prog 11 #[.string s] w fun e w' => e = .returned (.tuple #[.int .i64 (rdN s), .bool (rdB s)]) ∧ Below w.heap.size w w' := by
  have hbs := get_bt s
  by_cases hg : 1 ≤ s.size ∧ bt s 0 = 45
  · have HG0 := show rdG s = true from decide_eq_true hg
    have hne := str_ne hg.1
    have h45 : (bt s 0 == 45) = true := by simpa using hg.2
    have hs1 := hg.1
    obtain ⟨t, ht⟩ : ∃ t, s.extract 1 s.size = t := ⟨_, rfl⟩
    have hT : rdT s = t := by rw [rdT, if_pos HG0]; exact ht
    have hV : rdV s = -(nuV t t.size) := by rw [rdV, if_pos HG0, hT]
    have htz : t.size + 1 = s.size := by rw [← ht]; show (sub s 1 s.size).size + 1 = _; rw [sub_size (Nat.le_refl _)]; omega
    have hbt := get_bt t
    have hlt0 : (t.size : Int) < (s.size : Int) := by omega
    clear hg HG0
    have HRL := Lib.hid (fun h => rd_len hT h)
    have HRB := Lib.hid (fun h => rd_bad hT h)
    have HRF := Lib.hid (fun h1 h => rd_fin hT hV h1 h)
    clear hT hV
    by_cases h1 : 1 ≤ t.size
    rotate_left
    · have HB := Lib.hid (HRL.out (fun h => h1 h.1))
      have ht0 : t.size = 0 := by omega
      go_enter Tryd.func11, Tryd.ntmps11
      go_wp2
      go_ret2
      exact ⟨by rw [HB.out.1, HB.out.2]; rfl, Below.refl _ _⟩
    by_cases h18 : t.size ≤ 18
    rotate_left
    · have HB := Lib.hid (HRL.out (fun h => h18 h.2))
      have ht0 : ¬ t.size = 0 := by omega
      have hz0 : ((t.size : Int) == 0) = false := by simpa using ht0
      go_enter Tryd.func11, Tryd.ntmps11
      go_wp2
      go_ret2
      exact ⟨by rw [HB.out.1, HB.out.2]; rfl, Below.refl _ _⟩
    · have HRF := Lib.hid (fun h => HRF.out ⟨h1, h18⟩ h)
      have ht0 : ¬ t.size = 0 := by omega
      have hz0 : ((t.size : Int) == 0) = false := by simpa using ht0
      go_enter Tryd.func11, Tryd.ntmps11
      go_wp2
      go_loop [5, 6] (fun q i => ∃ k : Nat, k ≤ t.size ∧ i = .int .i64 k ∧ q = .int .i64 (nuV t k) ∧ Hid (∀ j, j < k → dgB (bt t j) = true)) (fun _ i => t.size - (intOf i).toNat)
      case atStart => exact ⟨0, Nat.zero_le _, rfl, rfl, fun j hj => absurd hj (Nat.not_lt_zero j)⟩
      case round =>
        obtain ⟨k, hk, rfl, rfl, HT⟩ := hrel
        by_cases hlt : k < t.size
        · have hdg := fun W => l01Digit_any (bt t k) W
          obtain ⟨v0, v1⟩ := nuV_17 (t := t) (k := k) (by omega) HT.out
          have hbk0 := bt_nonneg t k
          have hbk1 := bt_le t k
          have HV := Lib.hid (show nuV t (k + 1) = 10 * nuV t k + (bt t k - 48) from rfl)
          obtain ⟨V, hV⟩ : ∃ V, V = nuV t k := ⟨_, rfl⟩
          rw [← hV] at v0 v1 HV ⊢
          clear hV
          cases hd : dgB (bt t k)
          · have HB := Lib.hid (HRB.out (nuB_bad hlt hd))
            rw [hd] at hdg
            have hdg := Lib.hid hdg
            clear hd
            go_wp2_with (go_at_call 14; refine (hdg.out _).mono ?_; rintro e w' ⟨rfl, rfl⟩)
            go_ret2
            exact ⟨by rw [HB.out.1, HB.out.2]; rfl, Below.refl _ _⟩
          · have hc := dgB_true hd
            have HG := Lib.hid hd
            rw [hd] at hdg
            have hdg := Lib.hid hdg
            clear hd
            have w8 : IntKind.u8.wrap (bt t k - 48) = bt t k - 48 := IntWalk.u8_in _ (by omega)
            go_wp2_with (go_at_call 14; refine (hdg.out _).mono ?_; rintro e w' ⟨rfl, rfl⟩)
            go_round
            case rel =>
              refine ⟨k + 1, by omega, by go_num, by rw [HV.out], Lib.hid (fun j hj => ?_)⟩
              by_cases hjk : j = k
              · rw [hjk]; exact HG.out
              · exact HT.out j (by omega)
            case measure => simp [intOf]; omega
        · obtain rfl : k = t.size := by omega
          obtain ⟨v0, v1⟩ := nuV_18 (t := t) h18 HT.out
          have HN := HRF.out (nuB_yes HT.out)
          obtain ⟨V, hV⟩ : ∃ V, V = nuV t t.size := ⟨_, rfl⟩
          rw [← hV] at v0 v1 HN ⊢
          clear hV
          have hdec := l01Dec_any (-V) w (by omega) (by omega)
          obtain ⟨A, hA⟩ : ∃ A, A = decS (-V) := ⟨_, rfl⟩
          rw [← hA] at HN
          rw [show (⟨(Lib.itoa (-V)).toArray⟩ : ByteArray) = A from hA.symm] at hdec
          have hdec := Lib.hid hdec
          have HN := Lib.hid HN
          clear hA
          by_cases hcmp : A = s
          · have hq : (A.toList == s.toList) = true := by rw [hcmp]; simp
            have HC := Lib.hid (HN.out.1 hcmp)
            clear hcmp
            go_wp2_with fail
            refine hdec.out.mono ?_
            rintro e w2 ⟨rfl, hb⟩
            have HB := Lib.hid hb
            clear hb
            go_wp2
            go_ret2
            exact ⟨by rw [HC.out.1, HC.out.2]; rfl, HB.out⟩
          · have hq := str_ne2 hcmp
            have HC := Lib.hid (HN.out.2 hcmp)
            clear hcmp
            go_wp2_with fail
            refine hdec.out.mono ?_
            rintro e w2 ⟨rfl, hb⟩
            have HB := Lib.hid hb
            clear hb
            go_wp2
            go_ret2
            exact ⟨by rw [HC.out.1, HC.out.2]; rfl, HB.out⟩
  · have HG0 := show rdG s = false from decide_eq_false hg
    have hT : rdT s = s := by rw [rdT, if_neg (by rw [HG0]; simp)]
    have hV : rdV s = nuV s s.size := by rw [rdV, if_neg (by rw [HG0]; simp), hT]
    clear HG0
    by_cases h0 : s.size = 0
    · have hne := str_nil h0
      have HB := Lib.hid (rd_len hT (fun h => by omega))
      clear hT hV hg
      go_enter Tryd.func11, Tryd.ntmps11
      go_wp2
      go_ret2
      exact ⟨by rw [HB.out.1, HB.out.2]; rfl, Below.refl _ _⟩
    have h45 : (bt s 0 == 45) = false := by
      have : ¬ bt s 0 = 45 := fun h => hg ⟨by omega, h⟩
      simpa using this
    have hne := str_ne (s := s) (by omega)
    have hbt := hbs
    clear hg hbs
    have HRL := Lib.hid (fun h => rd_len hT h)
    have HRB := Lib.hid (fun h => rd_bad hT h)
    have HRF := Lib.hid (fun h1 h => rd_fin hT hV h1 h)
    clear hT hV
    by_cases h1 : 1 ≤ s.size
    rotate_left
    · exact absurd (by omega) h1
    by_cases h18 : s.size ≤ 18
    rotate_left
    · have HB := Lib.hid (HRL.out (fun h => h18 h.2))
      have ht0 : ¬ s.size = 0 := by omega
      have hz0 : ((s.size : Int) == 0) = false := by simpa using ht0
      go_enter Tryd.func11, Tryd.ntmps11
      go_wp2
      go_ret2
      exact ⟨by rw [HB.out.1, HB.out.2]; rfl, Below.refl _ _⟩
    · have HRF := Lib.hid (fun h => HRF.out ⟨h1, h18⟩ h)
      have ht0 : ¬ s.size = 0 := by omega
      have hz0 : ((s.size : Int) == 0) = false := by simpa using ht0
      go_enter Tryd.func11, Tryd.ntmps11
      go_wp2
      go_loop [5, 6] (fun q i => ∃ k : Nat, k ≤ s.size ∧ i = .int .i64 k ∧ q = .int .i64 (nuV s k) ∧ Hid (∀ j, j < k → dgB (bt s j) = true)) (fun _ i => s.size - (intOf i).toNat)
      case atStart => exact ⟨0, Nat.zero_le _, rfl, rfl, fun j hj => absurd hj (Nat.not_lt_zero j)⟩
      case round =>
        obtain ⟨k, hk, rfl, rfl, HT⟩ := hrel
        by_cases hlt : k < s.size
        · have hdg := fun W => l01Digit_any (bt s k) W
          obtain ⟨v0, v1⟩ := nuV_17 (t := s) (k := k) (by omega) HT.out
          have hbk0 := bt_nonneg s k
          have hbk1 := bt_le s k
          have HV := Lib.hid (show nuV s (k + 1) = 10 * nuV s k + (bt s k - 48) from rfl)
          obtain ⟨V, hV⟩ : ∃ V, V = nuV s k := ⟨_, rfl⟩
          rw [← hV] at v0 v1 HV ⊢
          clear hV
          cases hd : dgB (bt s k)
          · have HB := Lib.hid (HRB.out (nuB_bad hlt hd))
            rw [hd] at hdg
            have hdg := Lib.hid hdg
            clear hd
            go_wp2_with (go_at_call 14; refine (hdg.out _).mono ?_; rintro e w' ⟨rfl, rfl⟩)
            go_ret2
            exact ⟨by rw [HB.out.1, HB.out.2]; rfl, Below.refl _ _⟩
          · have hc := dgB_true hd
            have HG := Lib.hid hd
            rw [hd] at hdg
            have hdg := Lib.hid hdg
            clear hd
            have w8 : IntKind.u8.wrap (bt s k - 48) = bt s k - 48 := IntWalk.u8_in _ (by omega)
            go_wp2_with (go_at_call 14; refine (hdg.out _).mono ?_; rintro e w' ⟨rfl, rfl⟩)
            go_round
            case rel =>
              refine ⟨k + 1, by omega, by go_num, by rw [HV.out], Lib.hid (fun j hj => ?_)⟩
              by_cases hjk : j = k
              · rw [hjk]; exact HG.out
              · exact HT.out j (by omega)
            case measure => simp [intOf]; omega
        · obtain rfl : k = s.size := by omega
          obtain ⟨v0, v1⟩ := nuV_18 (t := s) h18 HT.out
          have HN := HRF.out (nuB_yes HT.out)
          obtain ⟨V, hV⟩ : ∃ V, V = nuV s s.size := ⟨_, rfl⟩
          rw [← hV] at v0 v1 HN ⊢
          clear hV
          have hdec := l01Dec_any (V) w (by omega) (by omega)
          obtain ⟨A, hA⟩ : ∃ A, A = decS (V) := ⟨_, rfl⟩
          rw [← hA] at HN
          rw [show (⟨(Lib.itoa (V)).toArray⟩ : ByteArray) = A from hA.symm] at hdec
          have hdec := Lib.hid hdec
          have HN := Lib.hid HN
          clear hA
          by_cases hcmp : A = s
          · have hq : (A.toList == s.toList) = true := by rw [hcmp]; simp
            have HC := Lib.hid (HN.out.1 hcmp)
            clear hcmp
            go_wp2_with fail
            refine hdec.out.mono ?_
            rintro e w2 ⟨rfl, hb⟩
            have HB := Lib.hid hb
            clear hb
            go_wp2
            go_ret2
            exact ⟨by rw [HC.out.1, HC.out.2]; rfl, HB.out⟩
          · have hq := str_ne2 hcmp
            have HC := Lib.hid (HN.out.2 hcmp)
            clear hcmp
            go_wp2_with fail
            refine hdec.out.mono ?_
            rintro e w2 ⟨rfl, hb⟩
            have HB := Lib.hid hb
            clear hb
            go_wp2
            go_ret2
            exact ⟨by rw [HC.out.1, HC.out.2]; rfl, HB.out⟩

set_option maxRecDepth 20000 in
set_option maxHeartbeats 8000000 in
theorem implReadD_any (s : ByteArray) (w : World) (hs : s.size ≤ 1048576) (htab : Tab w) :
    Calls Tryd.prog 8 #[.string s] w fun e w' => e = .returned (.tuple #[.int .i64 (rdN s), .bool (rdB s)]) ∧ Below w.heap.size w w' := by
  have hbs := get_bt s
  by_cases hg : 1 ≤ s.size ∧ bt s 0 = 45
  · have HG0 := show rdG s = true from decide_eq_true hg
    have hne := str_ne hg.1
    have h45 : (bt s 0 == 45) = true := by simpa using hg.2
    have hs1 := hg.1
    obtain ⟨t, ht⟩ : ∃ t, s.extract 1 s.size = t := ⟨_, rfl⟩
    have hT : rdT s = t := by rw [rdT, if_pos HG0]; exact ht
    have hV : rdV s = -(nuV t t.size) := by rw [rdV, if_pos HG0, hT]
    have htz : t.size + 1 = s.size := by rw [← ht]; show (sub s 1 s.size).size + 1 = _; rw [sub_size (Nat.le_refl _)]; omega
    have hbt := get_bt t
    have hlt0 : (t.size : Int) < (s.size : Int) := by omega
    clear hg HG0
    have HRL := Lib.hid (fun h => rd_len hT h)
    have HRB := Lib.hid (fun h => rd_bad hT h)
    have HRF := Lib.hid (fun h1 h => rd_fin hT hV h1 h)
    clear hT hV
    by_cases h1 : 1 ≤ t.size
    rotate_left
    · have HB := Lib.hid (HRL.out (fun h => h1 h.1))
      have ht0 : t.size = 0 := by omega
      go_enter Tryd.func8, Tryd.ntmps8
      go_wp2
      go_ret2
      exact ⟨by rw [HB.out.1, HB.out.2]; rfl, Below.refl _ _⟩
    by_cases h18 : t.size ≤ 18
    rotate_left
    · have HB := Lib.hid (HRL.out (fun h => h18 h.2))
      have ht0 : ¬ t.size = 0 := by omega
      have hz0 : ((t.size : Int) == 0) = false := by simpa using ht0
      go_enter Tryd.func8, Tryd.ntmps8
      go_wp2
      go_ret2
      exact ⟨by rw [HB.out.1, HB.out.2]; rfl, Below.refl _ _⟩
    · have HRF := Lib.hid (fun h => HRF.out ⟨h1, h18⟩ h)
      have ht0 : ¬ t.size = 0 := by omega
      have hz0 : ((t.size : Int) == 0) = false := by simpa using ht0
      go_enter Tryd.func8, Tryd.ntmps8
      go_wp2
      go_loop [5, 28] (fun q i => ∃ k : Nat, k ≤ t.size ∧ i = .int .i64 k ∧ q = .int .i64 (nuV t k) ∧ Hid (∀ j, j < k → dgB (bt t j) = true)) (fun _ i => t.size - (intOf i).toNat)
      case atStart => exact ⟨0, Nat.zero_le _, rfl, rfl, fun j hj => absurd hj (Nat.not_lt_zero j)⟩
      case round =>
        obtain ⟨k, hk, rfl, rfl, HT⟩ := hrel
        by_cases hlt : k < t.size
        · have hdg := fun W => isDigit_any (bt t k) W
          obtain ⟨v0, v1⟩ := nuV_17 (t := t) (k := k) (by omega) HT.out
          have hbk0 := bt_nonneg t k
          have hbk1 := bt_le t k
          have HV := Lib.hid (show nuV t (k + 1) = 10 * nuV t k + (bt t k - 48) from rfl)
          obtain ⟨V, hV⟩ : ∃ V, V = nuV t k := ⟨_, rfl⟩
          rw [← hV] at v0 v1 HV ⊢
          clear hV
          cases hd : dgB (bt t k)
          · have HB := Lib.hid (HRB.out (nuB_bad hlt hd))
            rw [hd] at hdg
            have hdg := Lib.hid hdg
            clear hd
            go_wp2_with (go_at_call 12; refine (hdg.out _).mono ?_; rintro e w' ⟨rfl, rfl⟩)
            go_ret2
            exact ⟨by rw [HB.out.1, HB.out.2]; rfl, Below.refl _ _⟩
          · have hc := dgB_true hd
            have HG := Lib.hid hd
            rw [hd] at hdg
            have hdg := Lib.hid hdg
            clear hd
            have w8 : IntKind.u8.wrap (bt t k - 48) = bt t k - 48 := IntWalk.u8_in _ (by omega)
            go_wp2_with (go_at_call 12; refine (hdg.out _).mono ?_; rintro e w' ⟨rfl, rfl⟩)
            go_round
            case rel =>
              refine ⟨k + 1, by omega, by go_num, by rw [HV.out], Lib.hid (fun j hj => ?_)⟩
              by_cases hjk : j = k
              · rw [hjk]; exact HG.out
              · exact HT.out j (by omega)
            case measure => simp [intOf]; omega
        · obtain rfl : k = t.size := by omega
          obtain ⟨v0, v1⟩ := nuV_18 (t := t) h18 HT.out
          have HN := HRF.out (nuB_yes HT.out)
          obtain ⟨V, hV⟩ : ∃ V, V = nuV t t.size := ⟨_, rfl⟩
          rw [← hV] at v0 v1 HN ⊢
          clear hV
          have hdec := implDec_any (-V) w (by omega) (by omega) htab
          obtain ⟨A, hA⟩ : ∃ A, A = decS (-V) := ⟨_, rfl⟩
          rw [← hA] at HN
          rw [show (⟨(Lib.itoa (-V)).toArray⟩ : ByteArray) = A from hA.symm] at hdec
          have hdec := Lib.hid hdec
          have HN := Lib.hid HN
          clear hA
          by_cases hcmp : A = s
          · have hq : (A.toList == s.toList) = true := by rw [hcmp]; simp
            have HC := Lib.hid (HN.out.1 hcmp)
            clear hcmp
            go_wp2_with fail
            refine hdec.out.mono ?_
            rintro e w2 ⟨rfl, hb⟩
            have HB := Lib.hid hb
            clear hb
            go_wp2
            go_ret2
            exact ⟨by rw [HC.out.1, HC.out.2]; rfl, HB.out⟩
          · have hq := str_ne2 hcmp
            have HC := Lib.hid (HN.out.2 hcmp)
            clear hcmp
            go_wp2_with fail
            refine hdec.out.mono ?_
            rintro e w2 ⟨rfl, hb⟩
            have HB := Lib.hid hb
            clear hb
            go_wp2
            go_ret2
            exact ⟨by rw [HC.out.1, HC.out.2]; rfl, HB.out⟩
  · have HG0 := show rdG s = false from decide_eq_false hg
    have hT : rdT s = s := by rw [rdT, if_neg (by rw [HG0]; simp)]
    have hV : rdV s = nuV s s.size := by rw [rdV, if_neg (by rw [HG0]; simp), hT]
    clear HG0
    by_cases h0 : s.size = 0
    · have hne := str_nil h0
      have HB := Lib.hid (rd_len hT (fun h => by omega))
      clear hT hV hg
      go_enter Tryd.func8, Tryd.ntmps8
      go_wp2
      go_ret2
      exact ⟨by rw [HB.out.1, HB.out.2]; rfl, Below.refl _ _⟩
    have h45 : (bt s 0 == 45) = false := by
      have : ¬ bt s 0 = 45 := fun h => hg ⟨by omega, h⟩
      simpa using this
    have hne := str_ne (s := s) (by omega)
    have hbt := hbs
    clear hg hbs
    have HRL := Lib.hid (fun h => rd_len hT h)
    have HRB := Lib.hid (fun h => rd_bad hT h)
    have HRF := Lib.hid (fun h1 h => rd_fin hT hV h1 h)
    clear hT hV
    by_cases h1 : 1 ≤ s.size
    rotate_left
    · exact absurd (by omega) h1
    by_cases h18 : s.size ≤ 18
    rotate_left
    · have HB := Lib.hid (HRL.out (fun h => h18 h.2))
      have ht0 : ¬ s.size = 0 := by omega
      have hz0 : ((s.size : Int) == 0) = false := by simpa using ht0
      go_enter Tryd.func8, Tryd.ntmps8
      go_wp2
      go_ret2
      exact ⟨by rw [HB.out.1, HB.out.2]; rfl, Below.refl _ _⟩
    · have HRF := Lib.hid (fun h => HRF.out ⟨h1, h18⟩ h)
      have ht0 : ¬ s.size = 0 := by omega
      have hz0 : ((s.size : Int) == 0) = false := by simpa using ht0
      go_enter Tryd.func8, Tryd.ntmps8
      go_wp2
      go_loop [5, 28] (fun q i => ∃ k : Nat, k ≤ s.size ∧ i = .int .i64 k ∧ q = .int .i64 (nuV s k) ∧ Hid (∀ j, j < k → dgB (bt s j) = true)) (fun _ i => s.size - (intOf i).toNat)
      case atStart => exact ⟨0, Nat.zero_le _, rfl, rfl, fun j hj => absurd hj (Nat.not_lt_zero j)⟩
      case round =>
        obtain ⟨k, hk, rfl, rfl, HT⟩ := hrel
        by_cases hlt : k < s.size
        · have hdg := fun W => isDigit_any (bt s k) W
          obtain ⟨v0, v1⟩ := nuV_17 (t := s) (k := k) (by omega) HT.out
          have hbk0 := bt_nonneg s k
          have hbk1 := bt_le s k
          have HV := Lib.hid (show nuV s (k + 1) = 10 * nuV s k + (bt s k - 48) from rfl)
          obtain ⟨V, hV⟩ : ∃ V, V = nuV s k := ⟨_, rfl⟩
          rw [← hV] at v0 v1 HV ⊢
          clear hV
          cases hd : dgB (bt s k)
          · have HB := Lib.hid (HRB.out (nuB_bad hlt hd))
            rw [hd] at hdg
            have hdg := Lib.hid hdg
            clear hd
            go_wp2_with (go_at_call 12; refine (hdg.out _).mono ?_; rintro e w' ⟨rfl, rfl⟩)
            go_ret2
            exact ⟨by rw [HB.out.1, HB.out.2]; rfl, Below.refl _ _⟩
          · have hc := dgB_true hd
            have HG := Lib.hid hd
            rw [hd] at hdg
            have hdg := Lib.hid hdg
            clear hd
            have w8 : IntKind.u8.wrap (bt s k - 48) = bt s k - 48 := IntWalk.u8_in _ (by omega)
            go_wp2_with (go_at_call 12; refine (hdg.out _).mono ?_; rintro e w' ⟨rfl, rfl⟩)
            go_round
            case rel =>
              refine ⟨k + 1, by omega, by go_num, by rw [HV.out], Lib.hid (fun j hj => ?_)⟩
              by_cases hjk : j = k
              · rw [hjk]; exact HG.out
              · exact HT.out j (by omega)
            case measure => simp [intOf]; omega
        · obtain rfl : k = s.size := by omega
          obtain ⟨v0, v1⟩ := nuV_18 (t := s) h18 HT.out
          have HN := HRF.out (nuB_yes HT.out)
          obtain ⟨V, hV⟩ : ∃ V, V = nuV s s.size := ⟨_, rfl⟩
          rw [← hV] at v0 v1 HN ⊢
          clear hV
          have hdec := implDec_any (V) w (by omega) (by omega) htab
          obtain ⟨A, hA⟩ : ∃ A, A = decS (V) := ⟨_, rfl⟩
          rw [← hA] at HN
          rw [show (⟨(Lib.itoa (V)).toArray⟩ : ByteArray) = A from hA.symm] at hdec
          have hdec := Lib.hid hdec
          have HN := Lib.hid HN
          clear hA
          by_cases hcmp : A = s
          · have hq : (A.toList == s.toList) = true := by rw [hcmp]; simp
            have HC := Lib.hid (HN.out.1 hcmp)
            clear hcmp
            go_wp2_with fail
            refine hdec.out.mono ?_
            rintro e w2 ⟨rfl, hb⟩
            have HB := Lib.hid hb
            clear hb
            go_wp2
            go_ret2
            exact ⟨by rw [HC.out.1, HC.out.2]; rfl, HB.out⟩
          · have hq := str_ne2 hcmp
            have HC := Lib.hid (HN.out.2 hcmp)
            clear hcmp
            go_wp2_with fail
            refine hdec.out.mono ?_
            rintro e w2 ⟨rfl, hb⟩
            have HB := Lib.hid hb
            clear hb
            go_wp2
            go_ret2
            exact ⟨by rw [HC.out.1, HC.out.2]; rfl, HB.out⟩
end Go.Proofs.YtengmacnaifbjaaDoor
