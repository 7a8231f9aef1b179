/-
  Contracts of the functions on patterns of two jugglers (chapter 6), ninth part: texts. No condition beyond each contract's own.
-/
import Derived.Test.YtfepgbpblbccbaaP5
import Derived.Test.YtfepgbpblbccbaaL02e
import Derived.Deep.RegionHeld3
namespace Go.Proofs.Ytfepgbpblbccbaa
open Go.ChangeShapes Go.WideShapes Go.ChangeAt Go.RowKit

open Go.PlainAid

theorem str_app (a b : List Int) : strOfNums a ++ strOfNums b = strOfNums (a ++ b) := by
  unfold strOfNums
  apply ByteArray.ext
  simp [ByteArray.data_append]
theorem add_str (a b c : List Int) (W : World) (h : a.length + b.length ≤ 1000000) (hc : a ++ b = c) : (Op.stringOp .add (strOfNums a) (strOfNums b)).run Try.prog W = .ok (.string (strOfNums c)) W := by
  rw [run_string_add_sum W _ _ (by rw [strOfNums_size, strOfNums_size]; omega), str_app, hc]
theorem lit_32 : ({ data := #[32] } : ByteArray) = strOfNums [32] := rfl
theorem lit_60 : ({ data := #[60] } : ByteArray) = strOfNums [60] := rfl
theorem lit_62 : ({ data := #[62] } : ByteArray) = strOfNums [62] := rfl
theorem lit_112 : ({ data := #[112] } : ByteArray) = strOfNums [112] := rfl
theorem lit_124 : ({ data := #[124] } : ByteArray) = strOfNums [124] := rfl

/-- The text of the first k throws of a juggler. -/
def ptT (A : List Th) : Nat → List Int
  | 0 => []
  | k + 1 => ((if 0 < k then ptT A k ++ [32] else ptT A k) ++ [hexN (gt A k).1]) ++ (if (gt A k).2 then [112] else [])
theorem ptT_length (A : List Th) : ∀ k, (ptT A k).length ≤ 3 * k
  | 0 => by simp [ptT]
  | k + 1 => by
    have := ptT_length A k
    simp only [ptT, List.length_append]
    split <;> split <;> simp <;> omega
/-- The text of a pattern. -/
def ptB (A B : List Th) : List Int := [60] ++ ptT A A.length ++ [124] ++ ptT B B.length ++ [62]
noncomputable def ptP (A B : List Th) : ByteArray := if vpB A B then strOfNums (ptB A B) else strOfNums []

set_option maxHeartbeats 1000000 in
theorem l04Digit_any (a : Int) (w : World) (h0 : 0 ≤ a) (h15 : a ≤ 15) : Calls Try.prog 87 #[.int .i64 a] w fun e w' => e = .returned (.string (strOfNums [hexN a])) ∧ w = w' := by
  have hix := hex_slice h0 h15
  go_enter Try.func87, Try.ntmps87
  go_wp2
  go_ret
  exact ⟨rfl, rfl⟩

set_option maxHeartbeats 4000000 in
theorem l06Text_any (v : Value) (A : List Th) (w : World) (hp : RdT 1 w v A.length A) (h8 : A.length ≤ 8) (hb : ∀ k, k < A.length → 0 ≤ (gt A k).1 ∧ (gt A k).1 ≤ 15) :
    Calls Try.prog 79 #[v] w fun e w' => e = .returned (.string (strOfNums (ptT A A.length))) ∧ Below w.heap.size w w' := by
  obtain ⟨x1, la, a, ca, rfl, ha⟩ := hp
  clear x1
  go_enter Try.func79, Try.ntmps79
  go_wp2
  go_loopw [3, 4] (fun o i wr => ∃ k : Nat, k ≤ A.length ∧ i = .int .i64 k ∧ o = .string (strOfNums (ptT A k)) ∧ Below w.heap.size w wr) (fun _ i _ => A.length - (intOf i).toNat)
  case atStart => exact ⟨0, Nat.zero_le _, rfl, rfl, Below.refl _ _⟩
  case round =>
    obtain ⟨k, hk, rfl, rfl, hB⟩ := hrel
    by_cases hlt : k < A.length
    · obtain ⟨ba, oa, rfl, hba, hca⟩ := ha (by omega)
      obtain ⟨p1, p2⟩ := cellsP hca hlt
      have f := fun o => hB.cell (p := ⟨ba, o, none⟩) hba
      rw [← f] at p1 p2
      clear hca ha f
      have hbk := hb k hlt
      have l3 := ptT_length A k
      have hs : ptT A (k + 1) = ((if 0 < k then ptT A k ++ [32] else ptT A k) ++ [hexN (gt A k).1]) ++ (if (gt A k).2 then [112] else []) := rfl
      have c1 : ∀ W, (Op.stringOp .add (strOfNums (ptT A k)) { data := #[32] }).run Try.prog W = .ok (.string (strOfNums (ptT A k ++ [32]))) W := fun W => by rw [lit_32]; exact add_str _ _ _ W (by simp; omega) rfl
      have c2 : ∀ W, (Op.stringOp .add (strOfNums (if 0 < k then ptT A k ++ [32] else ptT A k)) (strOfNums [hexN (gt A k).1])).run Try.prog W = .ok (.string (strOfNums ((if 0 < k then ptT A k ++ [32] else ptT A k) ++ [hexN (gt A k).1]))) W := fun W => add_str _ _ _ W (by split <;> simp <;> omega) rfl
      have c3 : ∀ W, (Op.stringOp .add (strOfNums ((if 0 < k then ptT A k ++ [32] else ptT A k) ++ [hexN (gt A k).1])) { data := #[112] }).run Try.prog W = .ok (.string (strOfNums (((if 0 < k then ptT A k ++ [32] else ptT A k) ++ [hexN (gt A k).1]) ++ [112]))) W := fun W => by rw [lit_112]; exact add_str _ _ _ W (by split <;> simp <;> omega) rfl
      by_cases hk0 : 0 < k <;> cases hx : (gt A k).2
      all_goals
        rw [hx] at p2 hs
        first | rw [if_pos hk0] at c2 c3 hs | rw [if_neg hk0] at c2 c3 hs
        first | rw [if_pos rfl] at hs | rw [if_neg (by decide), List.append_nil] at hs
        try rw [← hs] at c3
        try rw [← hs] at c2
        generalize hgg : (ptT A k ++ [32] : List Int) = g1 at c1 c2 c3
        try generalize hg2 : (g1 ++ [hexN (gt A k).1] : List Int) = g2 at c2 c3
        try generalize hg3 : (ptT A k ++ [hexN (gt A k).1] : List Int) = g3 at c2 c3
        have hd := Lib.hid (fun W => l04Digit_any (gt A k).1 W hbk.1 hbk.2)
        have HS := Lib.hid hs
        clear hs hbk hx
        go_wp2_with (go_at_call 87; refine (hd.out _).mono ?_; rintro e w2 ⟨rfl, rfl⟩)
        go_roundw
        case rel => exact ⟨k + 1, by omega, by go_num, by first | rfl | rw [HS.out] | (rw [HS.out]; simp_all), hB⟩
        case measure => simp [intOf]; omega
    · go_wp2
      go_ret
      obtain rfl : k = A.length := by omega
      exact ⟨rfl, hB⟩

set_option maxHeartbeats 4000000 in
theorem passesText_any (v : Value) (A : List Th) (w : World) (hp : RdT 1 w v A.length A) (h8 : A.length ≤ 8) (hb : ∀ k, k < A.length → 0 ≤ (gt A k).1 ∧ (gt A k).1 ≤ 15) :
    Calls Try.prog 54 #[v] w fun e w' => e = .returned (.string (strOfNums (ptT A A.length))) ∧ Below w.heap.size w w' := by
  obtain ⟨x1, la, a, ca, rfl, ha⟩ := hp
  clear x1
  go_enter Try.func54, Try.ntmps54
  go_wp2
  go_loopw [3, 8] (fun o i wr => ∃ k : Nat, k ≤ A.length ∧ i = .int .i64 k ∧ o = .string (strOfNums (ptT A k)) ∧ Below w.heap.size w wr) (fun _ i _ => A.length - (intOf i).toNat)
  case atStart => exact ⟨0, Nat.zero_le _, rfl, rfl, Below.refl _ _⟩
  case round =>
    obtain ⟨k, hk, rfl, rfl, hB⟩ := hrel
    by_cases hlt : k < A.length
    · obtain ⟨ba, oa, rfl, hba, hca⟩ := ha (by omega)
      obtain ⟨p1, p2⟩ := cellsP hca hlt
      have f := fun o => hB.cell (p := ⟨ba, o, none⟩) hba
      rw [← f] at p1 p2
      clear hca ha f
      have hbk := hb k hlt
      have l3 := ptT_length A k
      have hs : ptT A (k + 1) = ((if 0 < k then ptT A k ++ [32] else ptT A k) ++ [hexN (gt A k).1]) ++ (if (gt A k).2 then [112] else []) := rfl
      have c1 : ∀ W, (Op.stringOp .add (strOfNums (ptT A k)) { data := #[32] }).run Try.prog W = .ok (.string (strOfNums (ptT A k ++ [32]))) W := fun W => by rw [lit_32]; exact add_str _ _ _ W (by simp; omega) rfl
      have c2 : ∀ W, (Op.stringOp .add (strOfNums (if 0 < k then ptT A k ++ [32] else ptT A k)) (strOfNums [hexN (gt A k).1])).run Try.prog W = .ok (.string (strOfNums ((if 0 < k then ptT A k ++ [32] else ptT A k) ++ [hexN (gt A k).1]))) W := fun W => add_str _ _ _ W (by split <;> simp <;> omega) rfl
      have c3 : ∀ W, (Op.stringOp .add (strOfNums ((if 0 < k then ptT A k ++ [32] else ptT A k) ++ [hexN (gt A k).1])) { data := #[112] }).run Try.prog W = .ok (.string (strOfNums (((if 0 < k then ptT A k ++ [32] else ptT A k) ++ [hexN (gt A k).1]) ++ [112]))) W := fun W => by rw [lit_112]; exact add_str _ _ _ W (by split <;> simp <;> omega) rfl
      by_cases hk0 : 0 < k <;> cases hx : (gt A k).2
      all_goals
        rw [hx] at p2 hs
        first | rw [if_pos hk0] at c2 c3 hs | rw [if_neg hk0] at c2 c3 hs
        first | rw [if_pos rfl] at hs | rw [if_neg (by decide), List.append_nil] at hs
        try rw [← hs] at c3
        try rw [← hs] at c2
        generalize hgg : (ptT A k ++ [32] : List Int) = g1 at c1 c2 c3
        try generalize hg2 : (g1 ++ [hexN (gt A k).1] : List Int) = g2 at c2 c3
        try generalize hg3 : (ptT A k ++ [hexN (gt A k).1] : List Int) = g3 at c2 c3
        have hix := hex_slice hbk.1 hbk.2
        have HB := Lib.hid (fun o => hB.alloc hB.size o)
        clear hB
        have HS := Lib.hid hs
        clear hs hx
        go_wp2
        go_roundw
        case rel => exact ⟨k + 1, by omega, by go_num, by first | rfl | rw [HS.out] | (rw [HS.out]; simp_all), HB.out _⟩
        case measure => simp [intOf]; omega
    · go_wp2
      go_ret
      obtain rfl : k = A.length := by omega
      exact ⟨rfl, hB⟩

set_option maxRecDepth 20000 in
set_option maxHeartbeats 4000000 in
theorem l06Both_any (p : Value) (A B : List Th) (w : World) (h : RdQ w p A B) (h8 : A.length ≤ 8) (hB8 : B.length ≤ 8) (hbA : ∀ k, k < A.length → 0 ≤ (gt A k).1 ∧ (gt A k).1 ≤ 15) (hbB : ∀ k, k < B.length → 0 ≤ (gt B k).1 ∧ (gt B k).1 ≤ 15) :
    Calls Try.prog 53 #[p] w fun e w' => e = .returned (.string (strOfNums (ptB A B))) ∧ Below w.heap.size w w' := by
  obtain ⟨bq, s1, c1, s2, c2, rfl, hltq, d1, d2, hrA, hrB⟩ := h.lens
  have l1 := ptT_length A A.length
  have l2 := ptT_length B B.length
  have t1 : Hid (∀ W, Below w.heap.size w W → Calls Try.prog 79 #[.slice s1 A.length c1] W fun e w' => e = .returned (.string (strOfNums (ptT A A.length))) ∧ Below W.heap.size W w') := fun W hW => l06Text_any _ A W (hrA.below hW) h8 hbA
  have t2 : Hid (∀ W, Below w.heap.size w W → Calls Try.prog 79 #[.slice s2 B.length c2] W fun e w' => e = .returned (.string (strOfNums (ptT B B.length))) ∧ Below W.heap.size W w') := fun W hW => l06Text_any _ B W (hrB.below hW) hB8 hbB
  clear h hrA hrB hbA hbB
  have e1 : ∀ W, (Op.stringOp .add { data := #[60] } (strOfNums (ptT A A.length))).run Try.prog W = .ok (.string (strOfNums ([60] ++ ptT A A.length))) W := fun W => by rw [lit_60]; exact add_str _ _ _ W (by simp; omega) rfl
  have e2 : ∀ W, (Op.stringOp .add (strOfNums ([60] ++ ptT A A.length)) { data := #[124] }).run Try.prog W = .ok (.string (strOfNums ([60] ++ ptT A A.length ++ [124]))) W := fun W => by rw [lit_124]; exact add_str _ _ _ W (by simp; omega) rfl
  have e3 : ∀ W, (Op.stringOp .add (strOfNums ([60] ++ ptT A A.length ++ [124])) (strOfNums (ptT B B.length))).run Try.prog W = .ok (.string (strOfNums ([60] ++ ptT A A.length ++ [124] ++ ptT B B.length))) W := fun W => add_str _ _ _ W (by simp; omega) rfl
  have e4 : ∀ W, (Op.stringOp .add (strOfNums ([60] ++ ptT A A.length ++ [124] ++ ptT B B.length)) { data := #[62] }).run Try.prog W = .ok (.string (strOfNums (ptB A B))) W := fun W => by rw [lit_62]; exact add_str _ _ _ W (by simp; omega) rfl
  generalize hg2 : ([60] ++ ptT A A.length ++ [124] ++ ptT B B.length : List Int) = g3 at e3 e4
  generalize hg3 : ([60] ++ ptT A A.length ++ [124] : List Int) = g2 at e2 e3
  generalize hg4 : ([60] ++ ptT A A.length : List Int) = g1 at e1 e2
  clear hg2 hg3 hg4 l1 l2
  go_enter Try.func53, Try.ntmps53
  go_wp2
  have hBd := (Below.refl w.heap.size w).drew
  go_region_held3 (fun w' => w'.cell? ⟨bq, 0, none⟩ = some (.slice s1 A.length c1) ∧ w'.cell? ⟨bq, 1, none⟩ = some (.slice s2 B.length c2))
    (first
      | go_keep
      | (go_split_ands
         refine ⟨?_, ?_⟩ <;> (rw [hb2.cell (p := ⟨bq, _, none⟩) hltq]; assumption))
      | (go_split_ands
         refine ⟨?_, ?_⟩ <;> (rw [hb3.cell (p := ⟨bq, _, none⟩) hlt2]; assumption)))
    (first
      | (go_at_call_of 79 (Value.slice s1 A.length c1); (with_reducible refine (t1.out _ hBd).mono ?_); rintro e w2 ⟨rfl, hb2⟩; have hlt2 : bq < w2.heap.size := Nat.lt_of_lt_of_le hltq hb2.size; have hB2 := below_step hBd hb2 hBd.size)
      | (go_at_call_of 79 (Value.slice s2 B.length c2); (with_reducible refine (t2.out _ hB2).mono ?_); rintro e w3 ⟨rfl, hb3⟩))
  have HF := Lib.hid (below_step hB2 hb3 hB2.size)
  clear hb2 hb3 hB2
  go_wp2
  go_ret
  exact ⟨rfl, HF.out⟩

set_option maxHeartbeats 4000000 in
theorem specTextP_any (a b : Value) (A B : List Th) (w : World) (h : RdP w a b A B) :
    Calls Try.prog 22 #[.agg #[a, b]] w fun e w' => e = .returned (.string (ptP A B)) ∧ Below w.heap.size w w' := by
  obtain ⟨⟨s1, c1, rfl⟩, s2, c2, rfl⟩ := h.form
  have hv0 := l06Ok_any _ A B _ (rdQ_box h)
  cases hval : vpB A B
  · rw [hval] at hv0
    have hv := Lib.hid hv0
    clear hv0 h
    go_enter Try.func22, Try.ntmps22
    go_wp2_with fail
    refine hv.out.mono ?_
    rintro e w' ⟨rfl, hb⟩
    have HB := Lib.hid (below_step (box_below _ _) hb (by simp))
    clear hb
    go_wp2
    go_ret
    exact ⟨ret_string (by rw [ptP, hval]; rfl), HB.out⟩
  · rw [hval] at hv0
    have hv := Lib.hid hv0
    clear hv0
    obtain ⟨h1, h8, hAB, hbA, hbB⟩ := shB_true (vpB_ok hval)
    have HAB := Lib.hid hAB
    have hB1 : 1 ≤ B.length := by omega
    have hB8 : B.length ≤ 8 := by omega
    clear hAB
    have Hval := Lib.hid hval
    clear hval
    go_enter Try.func22, Try.ntmps22
    go_wp2_with fail
    refine hv.out.mono ?_
    rintro e w1 ⟨rfl, hb⟩
    obtain ⟨hcc, hzz⟩ := bcell hb
    have k0 : w1.cell? ⟨w.heap.size, 0, none⟩ = some (.slice s1 A.length c1) := (hcc _ _ (by simp)).trans (by simp)
    have k1 : w1.cell? ⟨w.heap.size, 1, none⟩ = some (.slice s2 B.length c2) := (hcc _ _ (by simp)).trans (by simp)
    have hB := below_step (box_below _ _) hb (by simp)
    have hlt0 : w.heap.size < w1.heap.size := by have := hb.size; simp at this; omega
    clear hcc hzz hb
    have hq : RdQ w1 (.pointer (some ⟨w.heap.size, 0, none⟩)) A B := ⟨w.heap.size, s1, _, c1, s2, _, c2, rfl, hlt0, k0, k1, h.below hB⟩
    have hpr := Lib.hid (l06Both_any _ A B _ hq h8 hB8 hbA (by rw [← HAB.out]; exact hbB))
    have HB := Lib.hid hB
    clear hq hB k0 k1 h hbA hbB
    go_wp2_with fail
    refine hpr.out.mono ?_
    rintro e w2 ⟨rfl, hb2⟩
    have HB2 := Lib.hid (below_step HB.out hb2 HB.out.size)
    clear hb2
    go_wp2
    go_ret
    exact ⟨ret_string (by rw [ptP, Hval.out]; rfl), HB2.out⟩

set_option maxHeartbeats 4000000 in
theorem implTextP_any (a b : Value) (A B : List Th) (w : World) (h : RdP w a b A B) :
    Calls Try.prog 23 #[.agg #[a, b]] w fun e w' => e = .returned (.string (ptP A B)) ∧ Below w.heap.size w w' := by
  obtain ⟨⟨s1, c1, rfl⟩, s2, c2, rfl⟩ := h.form
  have hv0 := implValidP_any _ _ A B (w.alloc (.cells #[.slice s1 A.length c1, .slice s2 B.length c2] 29)) (h.below (box_below _ _))
  cases hval : vpB A B
  · rw [hval] at hv0
    have hv := Lib.hid hv0
    clear hv0 h
    go_enter Try.func23, Try.ntmps23
    go_wp2_with fail
    refine hv.out.mono ?_
    rintro e w' ⟨rfl, hb⟩
    have HB := Lib.hid (below_step (box_below _ _) hb (by simp))
    clear hb
    go_wp2
    go_ret
    exact ⟨ret_string (by rw [ptP, hval]; rfl), HB.out⟩
  · rw [hval] at hv0
    have hv := Lib.hid hv0
    clear hv0
    obtain ⟨h1, h8, hAB, hbA, hbB⟩ := shB_true (vpB_ok hval)
    have HAB := Lib.hid hAB
    have hB1 : 1 ≤ B.length := by omega
    have hB8 : B.length ≤ 8 := by omega
    clear hAB
    have Hval := Lib.hid hval
    clear hval
    have l1 := ptT_length A A.length
    have l2 := ptT_length B B.length
    have t1 : Hid (∀ W, Below w.heap.size w W → Calls Try.prog 54 #[.slice s1 A.length c1] W fun e w' => e = .returned (.string (strOfNums (ptT A A.length))) ∧ Below W.heap.size W w') := fun W hW => passesText_any _ A W (h.1.below hW) h8 hbA
    have t2 : Hid (∀ W, Below w.heap.size w W → Calls Try.prog 54 #[.slice s2 B.length c2] W fun e w' => e = .returned (.string (strOfNums (ptT B B.length))) ∧ Below W.heap.size W w') := fun W hW => passesText_any _ B W (h.2.below hW) hB8 (by rw [← HAB.out]; exact hbB)
    clear h hbA hbB
    have e1 : ∀ W, (Op.stringOp .add { data := #[60] } (strOfNums (ptT A A.length))).run Try.prog W = .ok (.string (strOfNums ([60] ++ ptT A A.length))) W := fun W => by rw [lit_60]; exact add_str _ _ _ W (by simp; omega) rfl
    have e2 : ∀ W, (Op.stringOp .add (strOfNums ([60] ++ ptT A A.length)) { data := #[124] }).run Try.prog W = .ok (.string (strOfNums ([60] ++ ptT A A.length ++ [124]))) W := fun W => by rw [lit_124]; exact add_str _ _ _ W (by simp; omega) rfl
    have e3 : ∀ W, (Op.stringOp .add (strOfNums ([60] ++ ptT A A.length ++ [124])) (strOfNums (ptT B B.length))).run Try.prog W = .ok (.string (strOfNums ([60] ++ ptT A A.length ++ [124] ++ ptT B B.length))) W := fun W => add_str _ _ _ W (by simp; omega) rfl
    have e4 : ∀ W, (Op.stringOp .add (strOfNums ([60] ++ ptT A A.length ++ [124] ++ ptT B B.length)) { data := #[62] }).run Try.prog W = .ok (.string (strOfNums (ptB A B))) W := fun W => by rw [lit_62]; exact add_str _ _ _ W (by simp; omega) rfl
    generalize hg2 : ([60] ++ ptT A A.length ++ [124] ++ ptT B B.length : List Int) = g3 at e3 e4
    generalize hg3 : ([60] ++ ptT A A.length ++ [124] : List Int) = g2 at e2 e3
    generalize hg4 : ([60] ++ ptT A A.length : List Int) = g1 at e1 e2
    clear hg2 hg3 hg4 l1 l2
    go_enter Try.func23, Try.ntmps23
    go_wp2_with fail
    refine hv.out.mono ?_
    rintro e w1 ⟨rfl, hb⟩
    obtain ⟨hcc, hzz⟩ := bcell hb
    have k0 : w1.cell? ⟨w.heap.size, 0, none⟩ = some (.slice s1 A.length c1) := (hcc _ _ (by simp)).trans (by simp)
    have k1 : w1.cell? ⟨w.heap.size, 1, none⟩ = some (.slice s2 B.length c2) := (hcc _ _ (by simp)).trans (by simp)
    have hB := below_step (box_below _ _) hb (by simp)
    have hlt0 : w.heap.size < w1.heap.size := by have := hb.size; simp at this; omega
    clear hcc hzz hb
    have hBd := hB.drew
    clear hB
    go_wp2
    go_region_held3 (fun w' => w'.cell? ⟨w.heap.size, 0, none⟩ = some (.slice s1 A.length c1) ∧ w'.cell? ⟨w.heap.size, 1, none⟩ = some (.slice s2 B.length c2))
      (first
        | go_keep
        | (go_split_ands
           refine ⟨?_, ?_⟩ <;> (rw [hb2.cell (p := ⟨w.heap.size, _, none⟩) hlt0]; assumption))
        | (go_split_ands
           refine ⟨?_, ?_⟩ <;> (rw [hb3.cell (p := ⟨w.heap.size, _, none⟩) hlt2]; assumption)))
      (first
        | (go_at_call_of 54 (Value.slice s1 A.length c1); (with_reducible refine (t1.out _ hBd).mono ?_); rintro e w2 ⟨rfl, hb2⟩; have hlt2 : w.heap.size < w2.heap.size := Nat.lt_of_lt_of_le hlt0 hb2.size; have hB2 := below_step hBd hb2 hBd.size)
        | (go_at_call_of 54 (Value.slice s2 B.length c2); (with_reducible refine (t2.out _ hB2).mono ?_); rintro e w3 ⟨rfl, hb3⟩))
    have HF := Lib.hid (below_step hB2 hb3 hB2.size)
    clear hb2 hb3 hB2
    go_wp2
    go_ret
    exact ⟨ret_string (by rw [ptP, Hval.out]; rfl), HF.out⟩
end Go.Proofs.Ytfepgbpblbccbaa
