/-
  Contracts of the functions on patterns of two jugglers (chapter 6), fourth part: the program's validity. No condition beyond each contract's own.
-/
import Derived.Test.YtbkacjfdkaiogaaP3
namespace Go.Proofs.Ytbkacjfdkaiogaa
open Go.ChangeShapes Go.WideShapes Go.ChangeAt Go.RowKit


theorem liF_at {A B T : List Th} {j k : Nat} (hj : j = 0 ∧ T = A ∨ j = 1 ∧ T = B) (hk : k < A.length) : ldV (gt T k) (j : Int) (k : Int) A.length = (liF A B (j * A.length + k) : Int) := by
  have hb := ldV_bd (t := gt T k) (j := (j : Int)) (k := (k : Int)) (n := A.length) (by omega) (by omega) (by omega)
  unfold liF
  rcases hj with ⟨rfl, rfl⟩ | ⟨rfl, rfl⟩
  · rw [Nat.zero_mul, Nat.zero_add, if_pos hk]
    have e0 : ((0 : Nat) : Int) = 0 := rfl
    rw [e0] at hb ⊢
    omega
  · rw [Nat.one_mul, if_neg (by omega), show A.length + k - A.length = k by omega]
    have e0 : ((1 : Nat) : Int) = 1 := rfl
    rw [e0] at hb ⊢
    omega

set_option maxRecDepth 20000 in
set_option maxHeartbeats 4000000 in
theorem implValidP_any (a b : Value) (A B : List Th) (w : World) (h : RdP w a b A B) :
    Calls Try.prog 12 #[.agg #[a, b]] w fun e w' => e = .returned (.bool (vpB A B)) ∧ Below w.heap.size w w' := by
  have hs := fun W hW => isPassingForm_any a b A B W (h.below hW)
  obtain ⟨⟨s1, c1, rfl⟩, s2, c2, rfl⟩ := h.form
  have la := h.1.2.1
  have lb := h.2.2.1
  cases hsh : shB A B
  · rw [hsh] at hs
    have HS := Lib.hid hs
    clear hs h
    go_enter Try.func12, Try.ntmps12
    go_wp2_with fail
    refine (HS.out _ (box_below _ _)).mono ?_
    rintro e w1 ⟨rfl, hb1⟩
    have HB := Lib.hid (below_step (box_below _ _) hb1 (by simp))
    clear hb1
    go_wp2
    go_ret
    exact ⟨ret_bool (vpB_shape hsh).symm, HB.out⟩
  · rw [hsh] at hs
    have HS := Lib.hid hs
    clear hs
    obtain ⟨h1, h8, hAB, hbA, hbB⟩ := shB_true hsh
    have Hsh := Lib.hid hsh
    clear hsh
    obtain ⟨⟨x1, _, _, _, hv1, hc1⟩, x2, _, _, _, hv2, hc2⟩ := h
    cases hv1
    cases hv2
    clear x1 x2
    obtain ⟨ba, oa, rfl, hba, hca⟩ := hc1 (by omega)
    obtain ⟨bb, ob, rfl, hbb, hcb⟩ := hc2 (by omega)
    rw [← hAB] at hcb
    clear hc1 hc2
    have HC : Hid (∀ j, j < 2 → ∃ (T : List Th) (bt ot ct : Nat), (j = 0 ∧ T = A ∨ j = 1 ∧ T = B) ∧ bt < w.heap.size ∧ (j = 0 ∧ bt = ba ∧ ot = oa ∧ ct = c1 ∨ j = 1 ∧ bt = bb ∧ ot = ob ∧ ct = c2) ∧ (∀ k, k < A.length * 1 → w.cell? ⟨bt, ot + 2 * k, none⟩ = some (.int .i64 (gt T k).1) ∧ w.cell? ⟨bt, ot + (2 * k + 1), none⟩ = some (.bool (gt T k).2)) ∧ ∀ k, k < A.length → 0 ≤ (gt T k).1 ∧ (gt T k).1 ≤ 15) := by
      refine Lib.hid (fun j hj => ?_)
      by_cases hj0 : j = 0
      · exact ⟨A, ba, oa, c1, .inl ⟨hj0, rfl⟩, hba, .inl ⟨hj0, rfl, rfl, rfl⟩, hca, hbA⟩
      · exact ⟨B, bb, ob, c2, .inr ⟨by omega, rfl⟩, hbb, .inr ⟨by omega, rfl, rfl, rfl⟩, hcb, hbB⟩
    have HAB := Lib.hid hAB
    clear hca hcb hbA hbB hAB hba hbb
    have hli := Lib.hid (fun k => liF_lt (A := A) (B := B) h1 k)
    go_enter Try.func12, Try.ntmps12
    go_wp2_with fail
    refine (HS.out _ (box_below _ _)).mono ?_
    rintro e w1 ⟨rfl, hb1⟩
    obtain ⟨hcc, hzz⟩ := bcell hb1
    have hB1 := below_step (box_below _ _) hb1 (by simp)
    have HB1 := Lib.hid hB1
    have hsz1 : w.heap.size + 1 ≤ w1.heap.size := by have := hb1.size; simpa using this
    clear hb1 hB1
    have k0 : ∀ o : Obj, (w1.alloc o).cell? ⟨w.heap.size, 0, none⟩ = some (.slice (some ⟨ba, oa, none⟩) A.length c1) := fun o => ((box_below w1 o).cell (p := ⟨w.heap.size, 0, none⟩) (by show w.heap.size < _; omega)).trans ((hcc _ _ (by simp)).trans (by simp))
    have k1 : ∀ o : Obj, (w1.alloc o).cell? ⟨w.heap.size, 1, none⟩ = some (.slice (some ⟨bb, ob, none⟩) B.length c2) := fun o => ((box_below w1 o).cell (p := ⟨w.heap.size, 1, none⟩) (by show w.heap.size < _; omega)).trans ((hcc _ _ (by simp)).trans (by simp))
    go_wp2
    clear k0 k1 hcc hzz
    have hrow0 : ((w1.alloc (Obj.cells #[Value.bool false, Value.bool false, Value.bool false, Value.bool false, Value.bool false, Value.bool false, Value.bool false, Value.bool false, Value.bool false, Value.bool false, Value.bool false, Value.bool false, Value.bool false, Value.bool false, Value.bool false, Value.bool false] 45)).alloc (Obj.cells #[.slice (some ⟨ba, oa, none⟩) A.length c1, .slice (some ⟨bb, ob, none⟩) B.length c2] 22)).ownsRow w.heap.size 45 1 (.slice (some ⟨w1.heap.size, 0, none⟩) 16 16) 16 ((seenF (liF A B) (0 * A.length) 16).map Value.bool) := by
      have e0 : (#[Value.bool false, Value.bool false, Value.bool false, Value.bool false, Value.bool false, Value.bool false, Value.bool false, Value.bool false, Value.bool false, Value.bool false, Value.bool false, Value.bool false, Value.bool false, Value.bool false, Value.bool false, Value.bool false] : Array Value).toList = (seenF (liF A B) (0 * A.length) 16).map Value.bool := by
        rw [Nat.zero_mul]
        simp [seenF, List.range, List.range.loop]
      rw [← e0]
      exact row_below (World.ownsRow_lit w1 _ 16 (by omega) (by decide) (by simp)) (box_below _ _)
    have hcell0 : ∀ j, j < 2 → ((w1.alloc (Obj.cells #[Value.bool false, Value.bool false, Value.bool false, Value.bool false, Value.bool false, Value.bool false, Value.bool false, Value.bool false, Value.bool false, Value.bool false, Value.bool false, Value.bool false, Value.bool false, Value.bool false, Value.bool false, Value.bool false] 45)).alloc (Obj.cells #[.slice (some ⟨ba, oa, none⟩) A.length c1, .slice (some ⟨bb, ob, none⟩) B.length c2] 22)).cell? ⟨w1.heap.size + 1, j, none⟩ = some (if j = 0 then .slice (some ⟨ba, oa, none⟩) A.length c1 else .slice (some ⟨bb, ob, none⟩) B.length c2) := by
      intro j hj
      have : j = 0 ∨ j = 1 := by omega
      rcases this with rfl | rfl <;> simp
    have hB2 : Below w.heap.size w ((w1.alloc (Obj.cells #[Value.bool false, Value.bool false, Value.bool false, Value.bool false, Value.bool false, Value.bool false, Value.bool false, Value.bool false, Value.bool false, Value.bool false, Value.bool false, Value.bool false, Value.bool false, Value.bool false, Value.bool false, Value.bool false] 45)).alloc (Obj.cells #[.slice (some ⟨ba, oa, none⟩) A.length c1, .slice (some ⟨bb, ob, none⟩) B.length c2] 22)) := (HB1.out.alloc HB1.out.size _).alloc (by simp; omega) _
    generalize hW2 : World.alloc (World.alloc w1 _) _ = w2 at hrow0 hcell0 hB2 ⊢
    have hsz2 : w1.heap.size + 1 < w2.heap.size := by rw [← hW2]; simp
    clear hW2
    obtain ⟨g, hg⟩ : ∃ g : Nat, g = w1.heap.size := ⟨_, rfl⟩
    rw [← hg] at hrow0 hcell0 hsz2 hsz1 ⊢
    have hsg : w.heap.size ≤ g := by omega
    clear hg
    go_loopw [23] (fun i wr => ∃ j : Nat, j ≤ 2 ∧ i = .int .i64 j ∧ wr.ownsRow w.heap.size 45 1 (.slice (some ⟨g, 0, none⟩) 16 16) 16 ((seenF (liF A B) (j * A.length) 16).map Value.bool) ∧ injF (liF A B) (j * A.length) ∧ Below w.heap.size w wr ∧ g + 1 < wr.heap.size ∧ ∀ j, j < 2 → wr.cell? ⟨g + 1, j, none⟩ = some (if j = 0 then .slice (some ⟨ba, oa, none⟩) A.length c1 else .slice (some ⟨bb, ob, none⟩) B.length c2)) (fun i _ => 2 - (intOf i).toNat)
    case atStart => exact ⟨0, Nat.zero_le _, rfl, hrow0, fun i j hij hj => by omega, hB2, hsz2, hcell0⟩
    case round =>
      obtain ⟨j, hj, rfl, hown, hinj, hB, hszr, hcell⟩ := hrel
      have Hinj := Lib.hid hinj
      clear hinj
      by_cases hlt : j < 2
      · obtain ⟨T, bt, ot, ct, hT, hbt, hbt2, hct, hbd⟩ := HC.out j hlt
        have hcj := hcell j hlt
        have hval : (if j = 0 then Value.slice (some ⟨ba, oa, none⟩) A.length c1 else .slice (some ⟨bb, ob, none⟩) B.length c2) = .slice (some ⟨bt, ot, none⟩) A.length ct := by
          rcases hbt2 with ⟨rfl, rfl, rfl, rfl⟩ | ⟨rfl, rfl, rfl, rfl⟩
          · rfl
          · rw [if_neg (by decide), HAB.out]
        rw [hval] at hcj
        have Hcell := Lib.hid hcell
        have HT := Lib.hid hT
        have HCT := Lib.hid (And.intro hct hbd)
        have hj01 : j = 0 ∨ j = 1 := by omega
        clear hval hbt2 hcell hT hct hbd
        go_wp2
        clear hcj
        go_loopw [30] (fun i wr => ∃ k : Nat, k ≤ A.length ∧ i = .int .i64 k ∧ wr.ownsRow w.heap.size 45 1 (.slice (some ⟨g, 0, none⟩) 16 16) 16 ((seenF (liF A B) (j * A.length + k) 16).map Value.bool) ∧ injF (liF A B) (j * A.length + k) ∧ Below w.heap.size w wr ∧ g + 1 < wr.heap.size ∧ ∀ j, j < 2 → wr.cell? ⟨g + 1, j, none⟩ = some (if j = 0 then .slice (some ⟨ba, oa, none⟩) A.length c1 else .slice (some ⟨bb, ob, none⟩) B.length c2)) (fun i _ => A.length - (intOf i).toNat)
        case atStart => exact ⟨0, Nat.zero_le _, rfl, hown, Hinj.out, hB, hszr, Hcell.out⟩
        case round =>
          obtain ⟨k, hk, rfl, hown, hinj, hB, hszr, hcell⟩ := hrel
          have Hinj2 := Lib.hid hinj
          have Hcell2 := Lib.hid hcell
          clear hinj hcell
          by_cases hltk : k < A.length
          · obtain ⟨p1, p2⟩ := cellsP HCT.out.1 hltk
            have bT := HCT.out.2 k hltk
            have f1 := fun o => hB.cell (p := ⟨bt, o, none⟩) hbt
            rw [← f1] at p1 p2
            have hland := liF_at (A := A) (B := B) HT.out hltk
            have hx16 := hli.out (j * A.length + k)
            obtain ⟨x, hxx⟩ : ∃ x : Nat, x = liF A B (j * A.length + k) := ⟨_, rfl⟩
            rw [← hxx] at hland hx16
            have HX := Lib.hid hxx
            have m4 : ((k : Int) + (gt T k).1).tmod (A.length : Int) = ((k : Int) + (gt T k).1) % (A.length : Int) := Int.tmod_eq_emod_of_nonneg (by omega)
            have b1 : 0 ≤ ((k : Int) + (gt T k).1) % (A.length : Int) := Int.emod_nonneg _ (by omega)
            have b2 : ((k : Int) + (gt T k).1) % (A.length : Int) < A.length := Int.emod_lt_of_pos _ (by omega)
            have hal : ∀ o : Obj, (wr.alloc o).ownsRow w.heap.size 45 1 (.slice (some ⟨g, 0, none⟩) 16 16) 16 ((seenF (liF A B) (j * A.length + k) 16).map Value.bool) := fun o => row_below hown (box_below _ _)
            have ca : ∀ o : Obj, (wr.alloc o).cell? ⟨g, x, none⟩ = _ := fun o => (hal o).cellAt x (by omega)
            have fa : ∀ o : Obj, (wr.alloc o).frozen? ⟨g, x, none⟩ = false := fun o => (hal o).frozenAt x
            rw [seenF_at _ (by omega)] at ca
            have HAL := Lib.hid (And.intro hal (And.intro hB (fun o => hB.alloc hB.size o)))
            have hxi : (x : Int) < 16 := by omega
            have hn0 : ¬ (A.length : Int) = 0 := by omega
            clear hxx f1 hal hown hB
            have hld : ldV (gt T k) (j : Int) (k : Int) A.length = ((k : Int) + (gt T k).1) % (A.length : Int) * 2 + (if (gt T k).2 then 1 - (j : Int) else (j : Int)) := rfl
            rw [hld] at hland
            clear hld
            cases ha : decide (∃ i, i < j * A.length + k ∧ liF A B i = x)
            rotate_left
            · have hbad : Hid (vpB A B = false) := by
                have hjk : j * A.length + k < A.length * 2 := by rcases hj01 with rfl | rfl <;> omega
                exact vpB_no (fun hi => injF_not (c := j * A.length + k) hjk (by rw [← HX.out]; exact of_decide_eq_true ha) ((inj_same A B).1 hi))
              rw [ha] at ca
              clear ha
              cases hx : (gt T k).2 <;> rcases hj01 with rfl | rfl
              all_goals
                rw [hx] at hland p2
                clear hx
                simp only [if_true, if_false, Bool.false_eq_true, Int.sub_self, Int.sub_zero, Int.add_zero, Int.natCast_zero, Int.natCast_one] at hland
                go_wp2
                go_ret
                exact ⟨ret_bool hbad.out.symm, HAL.out.2.2 _⟩
            · have na : Hid (¬ ∃ i, i < j * A.length + k ∧ liF A B i = x) := of_decide_eq_false ha
              rw [ha] at ca
              clear ha
              have hinj3 : Hid (injF (liF A B) (j * A.length + (k + 1))) := by
                show injF (liF A B) (j * A.length + (k + 1))
                have hno : ¬ ∃ i, i < j * A.length + k ∧ liF A B i = liF A B (j * A.length + k) := by rw [← HX.out]; exact na.out
                exact injF_succ (c := j * A.length + k) Hinj2.out hno
              have hrow : Hid (∀ o : Obj, ((wr.alloc o).setCell ⟨g, x, none⟩ (.bool true)).ownsRow w.heap.size 45 1 (.slice (some ⟨g, 0, none⟩) 16 16) 16 ((seenF (liF A B) (j * A.length + (k + 1)) 16).map Value.bool)) := by
                refine Lib.hid (fun o => ?_)
                have s1 := ((HAL.out.1 o).stored x (.bool true)).1
                rw [HX.out, seenF_set _ (by rw [← HX.out]; omega)] at s1
                rw [← HX.out] at s1
                exact s1
              have hcl : Hid (∀ o : Obj, ∀ j, j < 2 → ((wr.alloc o).setCell ⟨g, x, none⟩ (.bool true)).cell? ⟨g + 1, j, none⟩ = some (if j = 0 then .slice (some ⟨ba, oa, none⟩) A.length c1 else .slice (some ⟨bb, ob, none⟩) B.length c2)) := by
                refine Lib.hid (fun o j hj => ?_)
                have hc : Chg (wr.alloc o) ((wr.alloc o).setCell ⟨g, x, none⟩ (.bool true)) g (g + 1) := (Chg.refl _ _ _).setCell _ _ (Nat.le_refl _) (Nat.lt_succ_self _)
                rw [chg_cell hc (by simp; omega) (.inr (Nat.le_refl _)) j, (box_below wr o).cell (p := ⟨g + 1, j, none⟩) hszr]
                exact Hcell2.out j hj
              clear hx16
              cases hx : (gt T k).2 <;> rcases hj01 with rfl | rfl
              all_goals
                rw [hx] at hland p2
                clear hx
                simp only [if_true, if_false, Bool.false_eq_true, Int.sub_self, Int.sub_zero, Int.add_zero, Int.natCast_zero, Int.natCast_one] at hland
                go_wp2
                go_roundw
                case rel => exact ⟨k + 1, by omega, by go_num, hrow.out _, hinj3.out, (HAL.out.2.2 _).setCell hsg _, by simp; omega, hcl.out _⟩
                case measure => simp [intOf]; omega
          · obtain rfl : k = A.length := by omega
            rw [← Nat.succ_mul] at hown
            have hi3 : Hid (injF (liF A B) ((j + 1) * A.length)) := by show injF (liF A B) ((j + 1) * A.length); rw [Nat.succ_mul]; exact Hinj2.out
            go_wp2
            go_roundw
            case rel => exact ⟨j + 1, by omega, by go_num, hown, hi3.out, hB, hszr, Hcell2.out⟩
            case measure => simp [intOf]; omega
      · go_wp2
        go_ret
        obtain rfl : j = 2 := by omega
        exact ⟨ret_bool (vpB_yes Hsh.out ((inj_same A B).2 (by rw [Nat.mul_comm]; exact Hinj.out))).symm, hB⟩
end Go.Proofs.Ytbkacjfdkaiogaa
