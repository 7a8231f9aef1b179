/-
  Contracts of the functions on patterns of two jugglers (chapter 6), fifth part: props, passes, the jugglers apart. No condition beyond each contract's own.
-/
import Derived.Test.YtfepgbpblbccbaaP4
import Derived.Deep.RegionHeld3
namespace Go.Proofs.Ytfepgbpblbccbaa
open Go.ChangeShapes Go.WideShapes Go.ChangeAt Go.RowKit


theorem specValidP_any (a b : Value) (A B : List Th) (w : World) (h : RdP w a b A B) :
    Calls Try.prog 18 #[.agg #[a, b]] w fun e w' => e = .returned (.bool (vpB A B)) ∧ Below w.heap.size w w' := by
  obtain ⟨⟨s1, c1, rfl⟩, s2, c2, rfl⟩ := h.form
  have hv := Lib.hid (l06Ok_any _ A B _ (rdQ_box h))
  clear h
  go_enter Try.func18, Try.ntmps18
  go_wp2_with fail
  refine hv.out.mono ?_
  rintro e w' ⟨rfl, hb⟩
  have HB := Lib.hid (below_step (box_below _ _) hb (by simp))
  clear hb
  go_wp2
  go_ret
  exact ⟨rfl, HB.out⟩

/-- The sum of the throws of both jugglers, k beats long. -/
def sP (A B : List Th) : Nat → Int
  | 0 => 0
  | k + 1 => sP A B k + ((gt A k).1 + (gt B k).1)
theorem sP_bd {A B : List Th} {n : Nat} (hA : ∀ j, j < n → 0 ≤ (gt A j).1 ∧ (gt A j).1 ≤ 15) (hB : ∀ j, j < n → 0 ≤ (gt B j).1 ∧ (gt B j).1 ≤ 15) : ∀ k, k ≤ n → 0 ≤ sP A B k ∧ sP A B k ≤ 30 * k
  | 0, _ => by simp [sP]
  | k + 1, hk => by
    have h1 := sP_bd hA hB k (by omega)
    have h2 := hA k (by omega)
    have h3 := hB k (by omega)
    simp only [sP]
    omega
noncomputable def ppA (A B : List Th) : Int := if vpB A B then sP A B A.length / (A.length : Int) else 0
noncomputable def ppC (A B : List Th) : Int := if vpB A B then 0 else 1

set_option maxHeartbeats 2000000 in
theorem l06Props_any (p : Value) (A B : List Th) (w : World) (h : RdQ w p A B) (h1 : 1 ≤ A.length) (h8 : A.length ≤ 8) (hAB : A.length = B.length) (hbA : ∀ k, k < A.length → 0 ≤ (gt A k).1 ∧ (gt A k).1 ≤ 15) (hbB : ∀ k, k < A.length → 0 ≤ (gt B k).1 ∧ (gt B k).1 ≤ 15) :
    Calls Try.prog 52 #[p] w fun e w' => e = .returned (.int .i64 (sP A B A.length / (A.length : Int))) ∧ Below w.heap.size w w' := by
  obtain ⟨bq, s1, c1, s2, c2, rfl, hltq, d1, d2, hrA, hrB⟩ := h.lens
  obtain ⟨x1, _, _, _, hv1, hc1⟩ := hrA
  obtain ⟨x2, _, _, _, hv2, hc2⟩ := hrB
  cases hv1
  cases hv2
  obtain ⟨ba, oa, rfl, hba, hca⟩ := hc1 (by omega)
  obtain ⟨bb, ob, rfl, hbb, hcb⟩ := hc2 (by omega)
  rw [← hAB] at hcb d2
  clear x1 x2 hc1 hc2 h hAB
  have HC := Lib.hid (And.intro hca (And.intro hcb (And.intro hbA hbB)))
  clear hca hcb hbA hbB
  go_enter Try.func52, Try.ntmps52
  go_wp2
  go_loopw [3, 4] (fun c i wr => ∃ k q : Nat, k ≤ A.length ∧ i = .int .i64 k ∧ c = .int .i64 (sP A B k) ∧ wr = w.drewN q) (fun _ i _ => A.length - (intOf i).toNat)
  case atStart => exact ⟨0, 0, Nat.zero_le _, rfl, rfl, rfl⟩
  case round =>
    obtain ⟨k, q, hk, rfl, rfl, rfl⟩ := hrel
    have hsb := sP_bd HC.out.2.2.1 HC.out.2.2.2 k hk
    by_cases hlt : k < A.length
    · obtain ⟨p1, p2⟩ := cellsP HC.out.1 hlt
      obtain ⟨q1, q2⟩ := cellsP HC.out.2.1 hlt
      have b1 := HC.out.2.2.1 k hlt
      have b2 := HC.out.2.2.2 k hlt
      have e1 : IntKind.i64.wrap ((gt A k).1 + (gt B k).1) = (gt A k).1 + (gt B k).1 := IntWalk.i64_in _ (by omega)
      have e2 : IntKind.i64.wrap (sP A B k + ((gt A k).1 + (gt B k).1)) = sP A B k + ((gt A k).1 + (gt B k).1) := IntWalk.i64_in _ (by omega)
      go_wp2
      go_quiet (fail)
      clear e1 e2
      go_wp2
      go_roundw
      case rel => exact ⟨k + 1, _, by omega, by go_num, rfl, rfl⟩
      case measure => simp [intOf]; omega
    · obtain rfl : k = A.length := by omega
      have e1 : (sP A B A.length).tdiv (A.length : Int) = sP A B A.length / (A.length : Int) := Int.tdiv_eq_ediv_of_nonneg hsb.1
      have e2 : 0 ≤ sP A B A.length / (A.length : Int) := Int.ediv_nonneg hsb.1 (by omega)
      have e3 : sP A B A.length / (A.length : Int) ≤ sP A B A.length := Int.ediv_le_self _ hsb.1
      go_wp2
      go_ret
      exact ⟨rfl, below_dn _ _⟩

set_option maxHeartbeats 4000000 in
theorem specPropsP_any (a b : Value) (A B : List Th) (w : World) (h : RdP w a b A B) :
    Calls Try.prog 20 #[.agg #[a, b]] w fun e w' => e = .returned (.tuple #[.int .i64 (ppA A B), .int .i64 (ppC A B)]) ∧ Below w.heap.size w w' := by
  obtain ⟨⟨s1, c1, rfl⟩, s2, c2, rfl⟩ := h.form
  have hv0 := l06Ok_any _ A B _ (rdQ_box h)
  cases hval : vpB A B
  · rw [hval] at hv0
    have hv := Lib.hid hv0
    clear hv0 h
    go_enter Try.func20, Try.ntmps20
    go_wp2_with fail
    refine hv.out.mono ?_
    rintro e w' ⟨rfl, hb⟩
    have HB := Lib.hid (below_step (box_below _ _) hb (by simp))
    clear hb
    go_wp2
    go_ret2
    exact ⟨ret2 (vint (by rw [ppA, hval]; rfl)) (vint (by rw [ppC, hval]; rfl)), HB.out⟩
  · rw [hval] at hv0
    have hv := Lib.hid hv0
    clear hv0
    obtain ⟨h1, h8, hAB, hbA, hbB⟩ := shB_true (vpB_ok hval)
    have HAB := Lib.hid hAB
    have hB1 : 1 ≤ B.length := by omega
    have hB8 : B.length ≤ 8 := by omega
    clear hAB
    have Hval := Lib.hid hval
    clear hval
    go_enter Try.func20, Try.ntmps20
    go_wp2_with fail
    refine hv.out.mono ?_
    rintro e w1 ⟨rfl, hb⟩
    obtain ⟨hcc, hzz⟩ := bcell hb
    have k0 : w1.cell? ⟨w.heap.size, 0, none⟩ = some (.slice s1 A.length c1) := (hcc _ _ (by simp)).trans (by simp)
    have k1 : w1.cell? ⟨w.heap.size, 1, none⟩ = some (.slice s2 B.length c2) := (hcc _ _ (by simp)).trans (by simp)
    have hB := below_step (box_below _ _) hb (by simp)
    have hlt0 : w.heap.size < w1.heap.size := by have := hb.size; simp at this; omega
    clear hcc hzz hb
    have hq : RdQ w1 (.pointer (some ⟨w.heap.size, 0, none⟩)) A B := ⟨w.heap.size, s1, _, c1, s2, _, c2, rfl, hlt0, k0, k1, h.below hB⟩
    have hpr := Lib.hid (l06Props_any _ A B _ hq h1 h8 HAB.out hbA hbB)
    have HB := Lib.hid hB
    clear hq hB k0 k1 h hbA hbB
    go_wp2_with fail
    refine hpr.out.mono ?_
    rintro e w2 ⟨rfl, hb2⟩
    have HB2 := Lib.hid (below_step HB.out hb2 HB.out.size)
    clear hb2
    go_wp2
    go_ret2
    exact ⟨ret2 (vint (by rw [ppA, Hval.out]; rfl)) (vint (by rw [ppC, Hval.out]; rfl)), HB2.out⟩

set_option maxHeartbeats 4000000 in
theorem implPropsP_any (a b : Value) (A B : List Th) (w : World) (h : RdP w a b A B) :
    Calls Try.prog 21 #[.agg #[a, b]] w fun e w' => e = .returned (.tuple #[.int .i64 (ppA A B), .int .i64 (ppC A B)]) ∧ Below w.heap.size w w' := by
  obtain ⟨⟨s1, c1, rfl⟩, s2, c2, rfl⟩ := h.form
  have hv0 := implValidP_any _ _ A B (w.alloc (.cells #[.slice s1 A.length c1, .slice s2 B.length c2] 29)) (h.below (box_below _ _))
  cases hval : vpB A B
  · rw [hval] at hv0
    have hv := Lib.hid hv0
    clear hv0 h
    go_enter Try.func21, Try.ntmps21
    go_wp2_with fail
    refine hv.out.mono ?_
    rintro e w' ⟨rfl, hb⟩
    have HB := Lib.hid (below_step (box_below _ _) hb (by simp))
    clear hb
    go_wp2
    go_ret2
    exact ⟨ret2 (vint (by rw [ppA, hval]; rfl)) (vint (by rw [ppC, hval]; rfl)), HB.out⟩
  · rw [hval] at hv0
    have hv := Lib.hid hv0
    clear hv0
    obtain ⟨h1, h8, hAB, hbA, hbB⟩ := shB_true (vpB_ok hval)
    have HAB := Lib.hid hAB
    have hB1 : 1 ≤ B.length := by omega
    have hB8 : B.length ≤ 8 := by omega
    clear hAB
    have Hval := Lib.hid hval
    clear hval
    obtain ⟨⟨x1, _, _, _, hv1, hc1⟩, x2, _, _, _, hv2, hc2⟩ := h
    cases hv1
    cases hv2
    obtain ⟨ba, oa, rfl, hba, hca⟩ := hc1 (by omega)
    obtain ⟨bb, ob, rfl, hbb, hcb⟩ := hc2 (by omega)
    rw [← HAB.out] at hcb
    clear x1 x2 hc1 hc2
    go_enter Try.func21, Try.ntmps21
    go_wp2_with fail
    refine hv.out.mono ?_
    rintro e w1 ⟨rfl, hb⟩
    obtain ⟨hcc, hzz⟩ := bcell hb
    have k0 : w1.cell? ⟨w.heap.size, 0, none⟩ = some (.slice (some ⟨ba, oa, none⟩) A.length c1) := (hcc _ _ (by simp)).trans (by simp)
    have k1 : w1.cell? ⟨w.heap.size, 1, none⟩ = some (.slice (some ⟨bb, ob, none⟩) B.length c2) := (hcc _ _ (by simp)).trans (by simp)
    have hB := below_step (box_below _ _) hb (by simp)
    have hlt0 : w.heap.size < w1.heap.size := by have := hb.size; simp at this; omega
    clear hcc hzz hb
    have HC := Lib.hid (And.intro (And.intro hca hcb) (And.intro hbA hbB))
    have FA := Lib.hid (fun o => hB.cell (p := ⟨ba, o, none⟩) hba)
    have FB := Lib.hid (fun o => hB.cell (p := ⟨bb, o, none⟩) hbb)
    have HB := Lib.hid hB
    clear hca hcb hbA hbB hB
    go_wp2
    go_loopw [4, 12] (fun c i wr => ∃ k q : Nat, k ≤ A.length ∧ i = .int .i64 k ∧ c = .int .i64 (sP A B k) ∧ wr = w1.drewN q) (fun _ i _ => A.length - (intOf i).toNat)
    case atStart => exact ⟨0, 0, Nat.zero_le _, rfl, rfl, rfl⟩
    case round =>
      obtain ⟨k, q, hk, rfl, rfl, rfl⟩ := hrel
      have hsb := sP_bd HC.out.2.1 HC.out.2.2 k hk
      by_cases hlt : k < A.length
      · obtain ⟨p1, p2⟩ := cellsP HC.out.1.1 hlt
        obtain ⟨q1, q2⟩ := cellsP HC.out.1.2 hlt
        have hltB : k < B.length := by have := HAB.out; omega
        replace p1 := (FA.out _).trans p1
        replace q1 := (FB.out _).trans q1
        clear p2 q2
        have b1 := HC.out.2.1 k hlt
        have b2 := HC.out.2.2 k hlt
        have e1 : IntKind.i64.wrap ((gt A k).1 + (gt B k).1) = (gt A k).1 + (gt B k).1 := IntWalk.i64_in _ (by omega)
        have e2 : IntKind.i64.wrap (sP A B k + ((gt A k).1 + (gt B k).1)) = sP A B k + ((gt A k).1 + (gt B k).1) := IntWalk.i64_in _ (by omega)
        go_wp2
        go_quiet (fail)
        clear e1 e2
        go_wp2
        go_roundw
        case rel => exact ⟨k + 1, _, by omega, by go_num, rfl, rfl⟩
        case measure => simp [intOf]; omega
      · obtain rfl : k = A.length := by omega
        have e1 : (sP A B A.length).tdiv (A.length : Int) = sP A B A.length / (A.length : Int) := Int.tdiv_eq_ediv_of_nonneg hsb.1
        have e2 : 0 ≤ sP A B A.length / (A.length : Int) := Int.ediv_nonneg hsb.1 (by omega)
        have e3 : sP A B A.length / (A.length : Int) ≤ sP A B A.length := Int.ediv_le_self _ hsb.1
        go_wp2
        go_ret2
        exact ⟨ret2 (vint (by rw [ppA, Hval.out]; rfl)) (vint (by rw [ppC, Hval.out]; rfl)), below_step HB.out (below_dn _ _) HB.out.size⟩
end Go.Proofs.Ytfepgbpblbccbaa
