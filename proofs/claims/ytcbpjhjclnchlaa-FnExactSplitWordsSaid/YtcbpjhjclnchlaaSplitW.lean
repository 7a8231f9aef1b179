/-
  Contracts of SplitWords. No condition beyond each contract's own.
-/
import Derived.Test.YtcbpjhjclnchlaaSwords
namespace Go.Proofs.Ytcbpjhjclnchlaa
open Go.ChangeShapes Go.WideShapes Go.ChangeAt Go.RowKit

open Go.PlainAid

def neS (s : ByteArray) : Bool := decide (1 ≤ s.size)
/-- The parts that are not empty. -/
def wdL (S : List ByteArray) : List ByteArray := S.filter neS
theorem wdL_app (S : List ByteArray) (x : ByteArray) : wdL (S ++ [x]) = if neS x then wdL S ++ [x] else wdL S := by
  unfold wdL
  rw [List.filter_append]
  cases h : neS x <;> simp [h]
theorem wdL_yes (S : List ByteArray) {x : ByteArray} (h : 1 ≤ x.size) : wdL (S ++ [x]) = wdL S ++ [x] := by rw [wdL_app, show neS x = true from decide_eq_true h]; rfl
theorem wdL_no (S : List ByteArray) {x : ByteArray} (h : ¬ 1 ≤ x.size) : wdL (S ++ [x]) = wdL S := by rw [wdL_app, show neS x = false from decide_eq_false h]; rfl
theorem wdL_le (S : List ByteArray) : (wdL S).length ≤ S.length := List.length_filter_le _ _
theorem wdL_take {S : List ByteArray} {k : Nat} (h : k < S.length) : wdL (S.take (k + 1)) = if neS (gs S k) then wdL (S.take k) ++ [gs S k] else wdL (S.take k) := by
  rw [List.take_add_one, List.getElem?_eq_getElem h, gs_eq h]
  exact wdL_app _ _
theorem sub_size {s : ByteArray} {i k : Nat} (h : k ≤ s.size) : (sub s i k).size = k - i := by
  simp [sub, ByteArray.size_extract]; omega

set_option maxHeartbeats 2000000 in
theorem specSplit_any (s : ByteArray) (w : World) (hs : s.size ≤ 1048576) :
    Calls Try.prog 6 #[.string s] w fun e w' => ∃ u, e = .returned u ∧ OwnS w' w.heap.size w'.heap.size u (wdL (spL s 32)) ∧ Below w.heap.size w w' := by
  have hsp := Lib.hid (l01Split_any s 32 w hs)
  obtain ⟨S, hS⟩ : ∃ S, S = spL s 32 := ⟨_, rfl⟩
  have hln := (spL_length s 32).2
  rw [← hS] at hsp hln ⊢
  clear hS
  go_enter Try.func6, Try.ntmps6
  go_wp2_with fail
  refine hsp.out.mono ?_
  rintro e w1 ⟨u, rfl, hu, hb1⟩
  obtain ⟨la, a, ca, rfl, ha⟩ := hu.rd
  have HB1 := Lib.hid hb1
  have hz1 := hb1.size
  clear hu hb1
  go_wp2
  go_loopw [4, 5] (fun o i wr => ∃ k : Nat, k ≤ S.length ∧ i = .int .i64 k ∧ wr.ownsRow w1.heap.size 9 1 o (wdL (S.take k)).length ((wdL (S.take k)).map Value.string) ∧ Below w1.heap.size w1 wr) (fun _ i _ => S.length - (intOf i).toNat)
  case atStart => exact ⟨0, Nat.zero_le _, rfl, strs_made w1, below_strs w1⟩
  case round =>
    obtain ⟨k, hk, rfl, hown, hB⟩ := hrel
    by_cases hlt : k < S.length
    · obtain ⟨ba, oa, rfl, hba, hca⟩ := ha (by omega)
      have hst := Lib.hid (wdL_take hlt)
      have p1 := (hB.cell (p := ⟨ba, oa + k, none⟩) hba).trans (hca k hlt)
      have hll := wdL_le (S.take k)
      rw [List.length_take] at hll
      have HLL := Lib.hid hll
      obtain ⟨x, hx⟩ : ∃ x, x = gs S k := ⟨_, rfl⟩
      rw [← hx] at hst p1
      have HH := Lib.hid (And.intro hown hB)
      clear hown hB ha hca hx hll
      by_cases h1 : 1 ≤ x.size
      · have hne := str_ne h1
        have HN := Lib.hid (show neS x = true from decide_eq_true h1)
        go_wp2_with (at_builtin; refine push_str rfl _ _ rfl rfl rfl HH.out.1 HH.out.2.size (by have := HLL.out; omega) ?_; intro v' w' hown' hb')
        go_roundw
        case rel => exact ⟨k + 1, by omega, by go_num, by rw [hst.out, if_pos HN.out]; exact hown', HH.out.2.trans hb'⟩
        case measure => simp [intOf]; omega
      · have hne := str_nil (s := x) (by omega)
        have HN := Lib.hid (show neS x = false from decide_eq_false h1)
        go_wp2
        go_roundw
        case rel => exact ⟨k + 1, by omega, by go_num, by rw [hst.out, if_neg (by rw [HN.out]; simp)]; exact HH.out.1, HH.out.2⟩
        case measure => simp [intOf]; omega
    · go_wp2
      go_ret
      obtain rfl : k = S.length := by omega
      rw [List.take_length] at hown
      exact ⟨_, rfl, (ownS_of (by have := wdL_le S; omega) hown).mono hz1 (Nat.le_refl _), below_step HB1.out hB hz1⟩

/-- What the variable 'start' holds: where the part begins that is being read, if it has a byte. -/
def stV (f k : Nat) : Int := if f < k then (f : Int) else -1
theorem stV_lt {f k : Nat} (h : f < k) : stV f k = (f : Int) := if_pos h
theorem stV_ge {f k : Nat} (h : ¬ f < k) : stV f k = -1 := if_neg h

set_option maxHeartbeats 2000000 in
theorem implSplit_any (s : ByteArray) (w : World) (hs : s.size ≤ 1048576) :
    Calls Try.prog 7 #[.string s] w fun e w' => ∃ u, e = .returned u ∧ OwnS w' w.heap.size w'.heap.size u (wdL (spL s 32)) ∧ Below w.heap.size w w' := by
  have hbt := get_bt s
  go_enter Try.func7, Try.ntmps7
  go_wp2
  go_loopw [3, 4, 9] (fun o f i wr => ∃ k : Nat, k ≤ s.size ∧ i = .int .i64 k ∧ f = .int .i64 (stV (spG s 32 k).2 k) ∧ wr.ownsRow w.heap.size 9 1 o (wdL (spG s 32 k).1).length ((wdL (spG s 32 k).1).map Value.string) ∧ Below w.heap.size w wr) (fun _ _ i _ => s.size - (intOf i).toNat)
  case atStart => exact ⟨0, Nat.zero_le _, rfl, rfl, strs_made w, below_strs w⟩
  case round =>
    obtain ⟨k, hk, rfl, rfl, hown, hB⟩ := hrel
    have hle := spG_le s 32 k
    have hwl := wdL_le (spG s 32 k).1
    have HS := Lib.hid (show spG s 32 (k + 1) = if bt s k = 32 then ((spG s 32 k).1 ++ [sub s (spG s 32 k).2 k], k + 1) else spG s 32 k from rfl)
    have HP := Lib.hid (show spL s 32 = (spG s 32 s.size).1 ++ [sub s (spG s 32 s.size).2 s.size] from rfl)
    obtain ⟨F, hF⟩ : ∃ F, F = (spG s 32 k).2 := ⟨_, rfl⟩
    obtain ⟨P, hP⟩ : ∃ P, P = (spG s 32 k).1 := ⟨_, rfl⟩
    by_cases hlt : k < s.size
    · rw [← hF, ← hP] at hle HS
      rw [← hP] at hown hwl
      rw [← hF]
      obtain ⟨hle1, hle2⟩ := hle
      have HOWN := Lib.hid (And.intro hown hB)
      have HE := Lib.hid (And.intro hF hP)
      have HW := Lib.hid hwl
      have hss := Lib.hid (sub_size (s := s) (i := F) (Nat.le_of_lt hlt))
      clear hown hB hwl hF hP
      by_cases hc : bt s k = 32
      · have hc1 : (bt s k == 32) = true := by simpa using hc
        have hc2 : (bt s k != 32) = false := by simpa using hc
        have HC := Lib.hid hc
        have e0 := Lib.hid (HS.out.trans (if_pos hc))
        clear hc
        by_cases hf : F < k
        · have hsv := stV_lt hf
          have e1 := Lib.hid (show wdL (P ++ [sub s F k]) = wdL P ++ [sub s F k] from wdL_yes _ (by rw [hss.out]; omega))
          rw [hsv]
          clear hsv
          go_wp2_with (at_builtin; refine push_str rfl _ _ rfl rfl rfl HOWN.out.1 HOWN.out.2.size (by have := HW.out; omega) ?_; intro v' w' hown' hb')
          go_roundw
          case rel =>
            refine ⟨k + 1, by omega, by go_num, by rw [e0.out]; exact vint (stV_ge (by simp)).symm, ?_, HOWN.out.2.trans hb'⟩
            rw [e0.out]
            show World.ownsRow _ _ _ _ _ (wdL (P ++ [sub s F k])).length ((wdL (P ++ [sub s F k])).map _)
            rw [e1.out]; exact hown'
          case measure => simp [intOf]; omega
        · have hsv := stV_ge hf
          have e1 := Lib.hid (show wdL (P ++ [sub s F k]) = wdL P from wdL_no _ (by rw [hss.out]; omega))
          rw [hsv]
          clear hsv
          go_wp2
          go_roundw
          case rel =>
            refine ⟨k + 1, by omega, by go_num, by rw [e0.out]; exact vint (stV_ge (by simp)).symm, ?_, HOWN.out.2⟩
            rw [e0.out]
            show World.ownsRow _ _ _ _ _ (wdL (P ++ [sub s F k])).length ((wdL (P ++ [sub s F k])).map _)
            rw [e1.out]; exact HOWN.out.1
          case measure => simp [intOf]; omega
      · have hc1 : (bt s k == 32) = false := by simpa using hc
        have hc2 : (bt s k != 32) = true := by simpa using hc
        have e0 := Lib.hid (HS.out.trans (if_neg hc))
        clear hc
        by_cases hf : F < k
        · have hsv := stV_lt hf
          rw [hsv]
          clear hsv
          go_wp2
          go_roundw
          case rel =>
            refine ⟨k + 1, by omega, by go_num, ?_, ?_, HOWN.out.2⟩
            · rw [e0.out, ← HE.out.1]; exact vint (stV_lt (by omega)).symm
            · rw [e0.out, ← HE.out.2]; exact HOWN.out.1
          case measure => simp [intOf]; omega
        · have hsv := stV_ge hf
          have hfk : F = k := by omega
          rw [hsv]
          clear hsv
          go_wp2
          go_roundw
          case rel =>
            refine ⟨k + 1, by omega, by go_num, ?_, ?_, HOWN.out.2⟩
            · rw [e0.out, ← HE.out.1, stV_lt (by omega), hfk]
            · rw [e0.out, ← HE.out.2]; exact HOWN.out.1
          case measure => simp [intOf]; omega
    · obtain rfl : k = s.size := by omega
      rw [← hF, ← hP] at hle HP
      rw [← hP] at hown hwl
      rw [← hF]
      obtain ⟨hle1, hle2⟩ := hle
      have HOWN := Lib.hid (And.intro hown hB)
      have HW := Lib.hid hwl
      have hss := Lib.hid (sub_size (s := s) (i := F) (Nat.le_refl _))
      clear hown hB hwl hF hP HS
      by_cases hf : F < s.size
      · have hsv := stV_lt hf
        have e1 := Lib.hid (show wdL (P ++ [sub s F s.size]) = wdL P ++ [sub s F s.size] from wdL_yes _ (by rw [hss.out]; omega))
        rw [hsv]
        clear hsv
        go_wp2_with (at_builtin; refine push_str rfl _ _ rfl rfl rfl HOWN.out.1 HOWN.out.2.size (by have := HW.out; omega) ?_; intro v' w' hown' hb')
        go_ret
        exact ⟨_, rfl, by rw [HP.out, e1.out]; exact ownS_of (by simp; have := HW.out; omega) hown', HOWN.out.2.trans hb'⟩
      · have hsv := stV_ge hf
        have e1 := Lib.hid (show wdL (P ++ [sub s F s.size]) = wdL P from wdL_no _ (by rw [hss.out]; omega))
        rw [hsv]
        clear hsv
        go_wp2
        go_ret
        exact ⟨_, rfl, by rw [HP.out, e1.out]; exact ownS_of (by have := HW.out; omega) HOWN.out.1, HOWN.out.2⟩
end Go.Proofs.Ytcbpjhjclnchlaa
