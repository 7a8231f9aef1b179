/-
  Contracts of the functions on synchronous patterns (chapter 5), seventh part: texts. No condition beyond each contract's own.
-/
import Derived.Test.YtdbjkgapgjmjoaaY3
import Derived.Deep.RegionWith
import Derived.Deep.RegionHeld3
namespace Go.Proofs.Ytdbjkgapgjmjoaa
open Go.ChangeShapes Go.WideShapes Go.ChangeAt Go.RowKit

open Go.PlainAid

theorem onS_length (t : Th) : (onS t).length ≤ 2 := by unfold onS; cases t.2 <;> simp
theorem onS_one (t : Th) : 1 ≤ (onS t).length := by unfold onS; simp
theorem syT_length (T : List Th) : ∀ k, (syT T k).length ≤ 7 * k
  | 0 => by simp [syT]
  | k + 1 => by
    have := syT_length T k
    have h1 := onS_length (gt T (k * 2))
    have h2 := onS_length (gt T (k * 2 + 1))
    simp only [syT, List.length_append, List.length_cons, List.length_nil]
    omega
theorem str_app (a b : List Int) : strOfNums a ++ strOfNums b = strOfNums (a ++ b) := by
  unfold strOfNums
  apply ByteArray.ext
  simp [ByteArray.data_append]
theorem add_str (a b c : List Int) (W : World) (h : a.length + b.length ≤ 1000000) (hc : a ++ b = c) : (Op.stringOp .add (strOfNums a) (strOfNums b)).run Try.prog W = .ok (.string (strOfNums c)) W := by
  rw [run_string_add_sum W _ _ (by rw [strOfNums_size, strOfNums_size]; omega), str_app, hc]
theorem lit_40 : ({ data := #[40] } : ByteArray) = strOfNums [40] := rfl
theorem lit_41 : ({ data := #[41] } : ByteArray) = strOfNums [41] := rfl
theorem lit_44 : ({ data := #[44] } : ByteArray) = strOfNums [44] := rfl
theorem lit_120 : ({ data := #[120] } : ByteArray) = strOfNums [120] := rfl

set_option maxHeartbeats 1000000 in
theorem syncThrowText_any (a : Int) (x : Bool) (w : World) (h0 : 0 ≤ a) (h14 : a ≤ 14) : Calls Try.prog 55 #[.agg #[.int .i64 a, .bool x]] w fun e w' => e = .returned (.string (strOfNums (onS (a, x)))) ∧ Below w.heap.size w w' := by
  have hix := hex_slice h0 (show a ≤ 15 by omega)
  have hx : ∀ W, (Op.stringOp .add (strOfNums [hexN a]) { data := #[120] }).run Try.prog W = .ok (.string (strOfNums [hexN a, 120])) W := fun W => by
    rw [lit_120]; exact add_str _ _ _ W (by simp) rfl
  cases x
  · go_enter Try.func55, Try.ntmps55
    go_wp2
    go_ret
    exact ⟨rfl, (Below.refl _ _).alloc (Nat.le_refl _) _⟩
  · go_enter Try.func55, Try.ntmps55
    go_wp2
    go_ret
    exact ⟨rfl, (Below.refl _ _).alloc (Nat.le_refl _) _⟩

set_option maxHeartbeats 1000000 in
theorem l04Digit_any (a : Int) (w : World) (h0 : 0 ≤ a) (h15 : a ≤ 15) : Calls Try.prog 91 #[.int .i64 a] w fun e w' => e = .returned (.string (strOfNums [hexN a])) ∧ w = w' := by
  have hix := hex_slice h0 h15
  go_enter Try.func91, Try.ntmps91
  go_wp2
  go_ret
  exact ⟨rfl, rfl⟩

set_option maxHeartbeats 1000000 in
theorem l05One_any (a : Int) (x : Bool) (w : World) (h0 : 0 ≤ a) (h14 : a ≤ 14) : Calls Try.prog 75 #[.agg #[.int .i64 a, .bool x]] w fun e w' => e = .returned (.string (strOfNums (onS (a, x)))) ∧ Below w.heap.size w w' := by
  have hd := Lib.hid (fun W => l04Digit_any a W h0 (by omega))
  have hx : ∀ W, (Op.stringOp .add (strOfNums [hexN a]) { data := #[120] }).run Try.prog W = .ok (.string (strOfNums [hexN a, 120])) W := fun W => by
    rw [lit_120]; exact add_str _ _ _ W (by simp) rfl
  cases x
  all_goals
    go_enter Try.func75, Try.ntmps75
    go_wp2_with fail
    refine (hd.out _).mono ?_
    rintro e w' ⟨rfl, rfl⟩
    go_wp2
    go_ret
    exact ⟨rfl, (Below.refl _ _).alloc (Nat.le_refl _) _⟩

set_option maxRecDepth 20000 in
set_option maxHeartbeats 8000000 in
theorem l05Text_any (v : Value) (n : Nat) (T : List Th) (w : World) (hp : RdT 2 w v n T) (h6 : n ≤ 6) (hth : ∀ k, k < n * 2 → 0 ≤ (gt T k).1 ∧ (gt T k).1 ≤ 14) :
    Calls Try.prog 54 #[v] w fun e w' => e = .returned (.string (strOfNums (syT T n))) ∧ Below w.heap.size w w' := by
  have Hth := Lib.hid hth
  obtain ⟨_, la, a, ca, rfl, ha⟩ := hp
  clear hth
  go_enter Try.func54, Try.ntmps54
  go_wp2
  go_loopw [3, 4] (fun o i wr => ∃ k : Nat, k ≤ n ∧ i = .int .i64 k ∧ o = .string (strOfNums (syT T k)) ∧ Below w.heap.size w wr) (fun _ i _ => n - (intOf i).toNat)
  case atStart => exact ⟨0, Nat.zero_le _, rfl, rfl, Below.refl _ _⟩
  case round =>
    obtain ⟨k, hk, rfl, rfl, hB⟩ := hrel
    by_cases hlt : k < n
    · obtain ⟨ba, oa, rfl, hba, hca⟩ := ha (by omega)
      obtain ⟨p1, p2, p3, p4⟩ := cells4 hca hlt
      have f := fun o => hB.cell (p := ⟨ba, o, none⟩) hba
      rw [← f] at p1 p2 p3 p4
      have hbw : ba < wr.heap.size := Nat.lt_of_lt_of_le hba hB.size
      clear hca ha f
      have b1 := Hth.out (k * 2) (by omega)
      have b2 := Hth.out (k * 2 + 1) (by omega)
      have l1 := onS_length (gt T (k * 2))
      have l2 := onS_length (gt T (k * 2 + 1))
      have l3 := syT_length T k
      have t1 : Hid (∀ W, Calls Try.prog 75 #[.agg #[.int .i64 (gt T (k * 2)).1, .bool (gt T (k * 2)).2]] W fun e w' => e = .returned (.string (strOfNums (onS (gt T (k * 2))))) ∧ Below W.heap.size W w') := fun W => l05One_any _ _ W b1.1 b1.2
      have t2 : Hid (∀ W, Calls Try.prog 75 #[.agg #[.int .i64 (gt T (k * 2 + 1)).1, .bool (gt T (k * 2 + 1)).2]] W fun e w' => e = .returned (.string (strOfNums (onS (gt T (k * 2 + 1))))) ∧ Below W.heap.size W w') := fun W => l05One_any _ _ W b2.1 b2.2
      have c1 : ∀ W, (Op.stringOp .add { data := #[40] } (strOfNums (onS (gt T (k * 2))))).run Try.prog W = .ok (.string (strOfNums ([40] ++ onS (gt T (k * 2))))) W := fun W => by rw [lit_40]; exact add_str _ _ _ W (by simp; omega) rfl
      have c2 : ∀ W, (Op.stringOp .add (strOfNums ([40] ++ onS (gt T (k * 2)))) { data := #[44] }).run Try.prog W = .ok (.string (strOfNums ([40] ++ onS (gt T (k * 2)) ++ [44]))) W := fun W => by rw [lit_44]; exact add_str _ _ _ W (by simp; omega) rfl
      have c3 : ∀ W, (Op.stringOp .add (strOfNums ([40] ++ onS (gt T (k * 2)) ++ [44])) (strOfNums (onS (gt T (k * 2 + 1))))).run Try.prog W = .ok (.string (strOfNums ([40] ++ onS (gt T (k * 2)) ++ [44] ++ onS (gt T (k * 2 + 1))))) W := fun W => add_str _ _ _ W (by simp; omega) rfl
      have c4 : ∀ W, (Op.stringOp .add (strOfNums ([40] ++ onS (gt T (k * 2)) ++ [44] ++ onS (gt T (k * 2 + 1)))) { data := #[41] }).run Try.prog W = .ok (.string (strOfNums ([40] ++ onS (gt T (k * 2)) ++ [44] ++ onS (gt T (k * 2 + 1)) ++ [41]))) W := fun W => by rw [lit_41]; exact add_str _ _ _ W (by simp; omega) rfl
      have c5 : ∀ W, (Op.stringOp .add (strOfNums (syT T k)) (strOfNums ([40] ++ onS (gt T (k * 2)) ++ [44] ++ onS (gt T (k * 2 + 1)) ++ [41]))).run Try.prog W = .ok (.string (strOfNums (syT T (k + 1)))) W := fun W => add_str _ _ _ W (by simp; omega) rfl
      generalize hg1 : ([40] ++ onS (gt T (k * 2)) ++ [44] ++ onS (gt T (k * 2 + 1)) ++ [41] : List Int) = g4 at c4 c5
      generalize hg2 : ([40] ++ onS (gt T (k * 2)) ++ [44] ++ onS (gt T (k * 2 + 1)) : List Int) = g3 at c3 c4
      generalize hg3 : ([40] ++ onS (gt T (k * 2)) ++ [44] : List Int) = g2 at c2 c3
      generalize hg4 : ([40] ++ onS (gt T (k * 2)) : List Int) = g1 at c1 c2
      clear hg1 hg2 hg3 hg4 b1 b2 l1 l2 l3
      have hk0 : (0 : Int) ≤ (k : Int) := Int.natCast_nonneg _
      have hk1 : (k : Int) < (n : Int) := by omega
      have HB := Lib.hid hB
      clear hB
      go_wp2
      go_region_held3 (fun w' => w'.cell? ⟨ba, oa + k * 4, none⟩ = some (.int .i64 (gt T (k * 2)).1) ∧ w'.cell? ⟨ba, oa + k * 4 + 1, none⟩ = some (.bool (gt T (k * 2)).2) ∧ w'.cell? ⟨ba, oa + k * 4 + 2, none⟩ = some (.int .i64 (gt T (k * 2 + 1)).1) ∧ w'.cell? ⟨ba, oa + k * 4 + 3, none⟩ = some (.bool (gt T (k * 2 + 1)).2))
        (first
          | go_keep
          | (go_split_ands
             refine ⟨?_, ?_, ?_, ?_⟩ <;> (rw [hb2.cell (p := ⟨ba, _, none⟩) hbw]; assumption))
          | (go_split_ands
             refine ⟨?_, ?_, ?_, ?_⟩ <;> (rw [hb3.cell (p := ⟨ba, _, none⟩) hbw2]; assumption)))
        (first
          | (go_at_call 75; (with_reducible refine (t1.out _).mono ?_); rintro e w2 ⟨rfl, hb2⟩; have hbw2 : ba < w2.heap.size := Nat.lt_of_lt_of_le hbw hb2.size)
          | (go_at_call 75; (with_reducible refine (t2.out _).mono ?_); rintro e w3 ⟨rfl, hb3⟩))
      all_goals
        have H3 := Lib.hid (below_step (below_step HB.out.drew hb2 HB.out.drew.size) hb3 (below_step HB.out.drew hb2 HB.out.drew.size).size)
        clear hb2 hb3
        go_wp2
        go_roundw
        case rel => exact ⟨k + 1, by omega, by go_num, rfl, H3.out⟩
        case measure => simp [intOf]; omega
    · go_wp2
      go_ret
      obtain rfl : k = n := by omega
      exact ⟨rfl, hB⟩

set_option maxHeartbeats 1000000 in
theorem specSyncText_any (v : Value) (n : Nat) (T : List Th) (w : World) (hp : RdT 2 w v n T) :
    Calls Try.prog 27 #[v] w fun e w' => e = .returned (.string (syS T n)) ∧ Below w.heap.size w w' := by
  have hv0 := l05Ok_any v n T w hp
  cases hval : validY T n
  · rw [hval] at hv0
    have hv := Lib.hid hv0
    clear hv0
    have hr : syS T n = strOfNums [] := by rw [syS, hval]; rfl
    rw [hr]
    clear hr
    go_enter Try.func27, Try.ntmps27
    go_wp2_with fail
    refine hv.out.mono ?_
    rintro e w' ⟨rfl, hb⟩
    go_wp2
    go_ret
    exact ⟨rfl, hb⟩
  · rw [hval] at hv0
    have hv := Lib.hid hv0
    clear hv0
    have hr : syS T n = strOfNums (syT T n) := by rw [syS, hval]; rfl
    rw [hr]
    clear hr
    obtain ⟨h1, h6, hth⟩ := validY_true hval
    clear hval
    have ht : Hid (∀ W, Below w.heap.size w W → Calls Try.prog 54 #[v] W fun e w' => e = .returned (.string (strOfNums (syT T n))) ∧ Below W.heap.size W w') := fun W hB => l05Text_any v n T W (hp.below hB) h6 hth
    clear hth
    go_enter Try.func27, Try.ntmps27
    go_wp2_with fail
    refine hv.out.mono ?_
    rintro e w1 ⟨rfl, hb⟩
    go_wp2_with fail
    refine (ht.out _ hb).mono ?_
    rintro e w2 ⟨rfl, hb2⟩
    go_wp2
    go_ret
    exact ⟨rfl, below_step hb hb2 hb.size⟩

set_option maxHeartbeats 1000000 in
theorem implSyncText_any (v : Value) (n : Nat) (T : List Th) (w : World) (hp : RdT 2 w v n T) :
    Calls Try.prog 28 #[v] w fun e w' => e = .returned (.string (syS T n)) ∧ Below w.heap.size w w' := by
  have hv0 := implValidSync_any v n T w hp
  cases hval : validY T n
  · rw [hval] at hv0
    have hv := Lib.hid hv0
    clear hv0
    have hr : syS T n = strOfNums [] := by rw [syS, hval]; rfl
    rw [hr]
    clear hr
    go_enter Try.func28, Try.ntmps28
    go_wp2_with fail
    refine hv.out.mono ?_
    rintro e w' ⟨rfl, hb⟩
    go_wp2
    go_ret
    exact ⟨rfl, hb⟩
  · rw [hval] at hv0
    have hv := Lib.hid hv0
    clear hv0
    have hr : syS T n = strOfNums (syT T n) := by rw [syS, hval]; rfl
    rw [hr]
    clear hr
    obtain ⟨h1, h6, hth⟩ := validY_true hval
    clear hval
    have Hth := Lib.hid hth
    obtain ⟨_, la, a, ca, rfl, ha⟩ := hp
    clear hth
    go_enter Try.func28, Try.ntmps28
    go_wp2_with fail
    refine hv.out.mono ?_
    rintro e w1 ⟨rfl, hb⟩
    go_wp2
    go_loopw [3, 11] (fun o i wr => ∃ k : Nat, k ≤ n ∧ i = .int .i64 k ∧ o = .string (strOfNums (syT T k)) ∧ Below w.heap.size w wr) (fun _ i _ => n - (intOf i).toNat)
    case atStart => exact ⟨0, Nat.zero_le _, rfl, rfl, hb⟩
    case round =>
      obtain ⟨k, hk, rfl, rfl, hB⟩ := hrel
      by_cases hlt : k < n
      · obtain ⟨ba, oa, rfl, hba, hca⟩ := ha (by omega)
        obtain ⟨p1, p2, p3, p4⟩ := cells4 hca hlt
        have f := fun o => hB.cell (p := ⟨ba, o, none⟩) hba
        rw [← f] at p1 p2 p3 p4
        have hbw : ba < wr.heap.size := Nat.lt_of_lt_of_le hba hB.size
        clear hca ha f
        have b1 := Hth.out (k * 2) (by omega)
        have b2 := Hth.out (k * 2 + 1) (by omega)
        have l1 := onS_length (gt T (k * 2))
        have l2 := onS_length (gt T (k * 2 + 1))
        have l3 := syT_length T k
        have t1 : Hid (∀ W, Calls Try.prog 55 #[.agg #[.int .i64 (gt T (k * 2)).1, .bool (gt T (k * 2)).2]] W fun e w' => e = .returned (.string (strOfNums (onS (gt T (k * 2))))) ∧ Below W.heap.size W w') := fun W => syncThrowText_any _ _ W b1.1 b1.2
        have t2 : Hid (∀ W, Calls Try.prog 55 #[.agg #[.int .i64 (gt T (k * 2 + 1)).1, .bool (gt T (k * 2 + 1)).2]] W fun e w' => e = .returned (.string (strOfNums (onS (gt T (k * 2 + 1))))) ∧ Below W.heap.size W w') := fun W => syncThrowText_any _ _ W b2.1 b2.2
        have c1 : ∀ W, (Op.stringOp .add { data := #[40] } (strOfNums (onS (gt T (k * 2))))).run Try.prog W = .ok (.string (strOfNums ([40] ++ onS (gt T (k * 2))))) W := fun W => by rw [lit_40]; exact add_str _ _ _ W (by simp; omega) rfl
        have c2 : ∀ W, (Op.stringOp .add (strOfNums ([40] ++ onS (gt T (k * 2)))) { data := #[44] }).run Try.prog W = .ok (.string (strOfNums ([40] ++ onS (gt T (k * 2)) ++ [44]))) W := fun W => by rw [lit_44]; exact add_str _ _ _ W (by simp; omega) rfl
        have c3 : ∀ W, (Op.stringOp .add (strOfNums ([40] ++ onS (gt T (k * 2)) ++ [44])) (strOfNums (onS (gt T (k * 2 + 1))))).run Try.prog W = .ok (.string (strOfNums ([40] ++ onS (gt T (k * 2)) ++ [44] ++ onS (gt T (k * 2 + 1))))) W := fun W => add_str _ _ _ W (by simp; omega) rfl
        have c4 : ∀ W, (Op.stringOp .add (strOfNums ([40] ++ onS (gt T (k * 2)) ++ [44] ++ onS (gt T (k * 2 + 1)))) { data := #[41] }).run Try.prog W = .ok (.string (strOfNums ([40] ++ onS (gt T (k * 2)) ++ [44] ++ onS (gt T (k * 2 + 1)) ++ [41]))) W := fun W => by rw [lit_41]; exact add_str _ _ _ W (by simp; omega) rfl
        have c5 : ∀ W, (Op.stringOp .add (strOfNums (syT T k)) (strOfNums ([40] ++ onS (gt T (k * 2)) ++ [44] ++ onS (gt T (k * 2 + 1)) ++ [41]))).run Try.prog W = .ok (.string (strOfNums (syT T (k + 1)))) W := fun W => add_str _ _ _ W (by simp; omega) rfl
        generalize hg1 : ([40] ++ onS (gt T (k * 2)) ++ [44] ++ onS (gt T (k * 2 + 1)) ++ [41] : List Int) = g4 at c4 c5
        generalize hg2 : ([40] ++ onS (gt T (k * 2)) ++ [44] ++ onS (gt T (k * 2 + 1)) : List Int) = g3 at c3 c4
        generalize hg3 : ([40] ++ onS (gt T (k * 2)) ++ [44] : List Int) = g2 at c2 c3
        generalize hg4 : ([40] ++ onS (gt T (k * 2)) : List Int) = g1 at c1 c2
        clear hg1 hg2 hg3 hg4 b1 b2 l1 l2 l3
        have hk0 : (0 : Int) ≤ (k : Int) := Int.natCast_nonneg _
        have hk1 : (k : Int) < (n : Int) := by omega
        have HB := Lib.hid hB
        clear hB
        go_wp2
        have hbw : wr.heap.size < wr.heap.size + 1 := Nat.lt_succ_self _
        go_region_held3 (fun w' => w'.cell? ⟨wr.heap.size, 0, none⟩ = some (.int .i64 (gt T (k * 2)).1) ∧ w'.cell? ⟨wr.heap.size, 1, none⟩ = some (.bool (gt T (k * 2)).2) ∧ w'.cell? ⟨wr.heap.size, 2, none⟩ = some (.int .i64 (gt T (k * 2 + 1)).1) ∧ w'.cell? ⟨wr.heap.size, 3, none⟩ = some (.bool (gt T (k * 2 + 1)).2))
          (first
            | go_keep
            | (go_split_ands
               refine ⟨?_, ?_, ?_, ?_⟩ <;> (rw [hb2.cell (p := ⟨wr.heap.size, _, none⟩) (by simp)]; assumption))
            | (go_split_ands
               refine ⟨?_, ?_, ?_, ?_⟩ <;> (rw [hb3.cell (p := ⟨wr.heap.size, _, none⟩) hbw2]; assumption)))
          (first
            | (go_at_call 55; (with_reducible refine (t1.out _).mono ?_); rintro e w2 ⟨rfl, hb2⟩; have hbw2 : wr.heap.size < w2.heap.size := (by have := hb2.size; simp at this; omega))
            | (go_at_call 55; (with_reducible refine (t2.out _).mono ?_); rintro e w3 ⟨rfl, hb3⟩))
        all_goals
          have HA := (HB.out.alloc HB.out.size (Obj.cells #[.int .i64 (gt T (k * 2)).1, .bool (gt T (k * 2)).2, .int .i64 (gt T (k * 2 + 1)).1, .bool (gt T (k * 2 + 1)).2] 51)).drew
          have H3 := Lib.hid (below_step (below_step HA hb2 HA.size) hb3 (below_step HA hb2 HA.size).size)
          clear hb2 hb3 HA
          go_wp2
          go_roundw
          case rel => exact ⟨k + 1, by omega, by go_num, rfl, H3.out⟩
          case measure => simp [intOf]; omega
      · go_wp2
        go_ret
        obtain rfl : k = n := by omega
        exact ⟨rfl, hB⟩
end Go.Proofs.Ytdbjkgapgjmjoaa
