/-
  Contracts of ReadMulti (chapter 4), of the program. No condition beyond each contract's own.
-/
import Derived.Test.YtenjonopdffjeaaRm2
namespace Go.Proofs.Ytenjonopdffjeaa
open Go.ChangeShapes Go.WideShapes Go.ChangeAt Go.RowKit

open Go.PlainAid

/-- '[][]int64{}': a new row of no places. -/
theorem rows_made (w : World) : OwnR (w.alloc (.cells #[] 37)) w.heap.size (w.alloc (.cells #[] 37)).heap.size (.slice (some ⟨w.heap.size, 0, none⟩) 0 0) [] :=
  ⟨by simp [sumLen], fun _ => undef, World.ownsRow_made w #[] 0 (Nat.le_refl _) (by decide) (by simp), fun k hk => by simp [Value.ownBlock] at hk; simp; omega, fun j hj => absurd hj (Nat.not_lt_zero j), fun j _ hj => absurd hj (Nat.not_lt_zero j), fun i _ _ hi => absurd hi (Nat.not_lt_zero i)⟩
theorem below_rows (w : World) : Below w.heap.size w (w.alloc (.cells #[] 37)) := (Below.refl _ _).alloc (Nat.le_refl _) _

/-- What stands when a row u has been laid into a cell for the appending. -/
theorem lay_row {w w2 : World} {lo : Nat} {v u : Value} {T : List (List Int)} {L : List Int} (hT : OwnR w lo w.heap.size v T) (hb : Below w.heap.size w w2) (hu : Own w2 w.heap.size w2.heap.size u L) (o2 : Obj) :
    OwnR (w2.alloc o2) lo w.heap.size v T ∧ Own (w2.alloc o2) w.heap.size (w2.alloc o2).heap.size u L ∧ Below w.heap.size w (w2.alloc o2) ∧ (w2.alloc o2).heap[w2.heap.size]? = some o2 := by
  have hb2 := hb.alloc hb.size o2
  have hb3 := (Below.refl w2.heap.size w2).alloc (Nat.le_refl _) o2
  exact ⟨hT.below hb2, (hu.below hb3).mono (Nat.le_refl _) (by simp), hb2, heap_alloc_new _ _⟩

set_option maxRecDepth 20000 in
set_option maxHeartbeats 8000000 in
theorem readStacks_any (s : ByteArray) (w : World) (hs : s.size ≤ 1048576) :
    Calls Try.prog 11 #[.string s] w fun e w' => ∃ u, e = .returned (.tuple #[u, .bool (okM (pmR s))]) ∧ OwnR w' w.heap.size w'.heap.size u (pmR s) ∧ Below w.heap.size w w' := by
  have hbt := get_bt s
  have hok0 := Lib.hid (show okM [] = false from rfl)
  go_enter Try.func11, Try.ntmps11
  go_wp2
  go_loopw [4, 5] (fun o i wr => ∃ (k : Nat) (R : List (List Int)), k ≤ s.size ∧ i = .int .i64 k ∧ Hid (pmG s k = some (R, none)) ∧ OwnR wr w.heap.size wr.heap.size o R ∧ Below w.heap.size w wr) (fun _ i _ => s.size - (intOf i).toNat)
  case atStart => exact ⟨0, [], Nat.zero_le _, rfl, rfl, rows_made w, below_rows w⟩
  case round =>
    obtain ⟨k, R, hk, rfl, HG, hown, hB⟩ := hrel
    obtain ⟨so, co, rfl⟩ := hown.rd.form
    have HO := Lib.hid (And.intro hown hB)
    have hBs := hB.size
    clear hown hB
    have hbd := Lib.hid (pm_bd1 HG.out)
    by_cases hlt : k < s.size
    · by_cases hc : bt s k = 91
      · have hc1 : (bt s k != 91) = false := by simpa using hc
        have HQ := Lib.hid (pm_open HG.out hc)
        clear hc
        go_wp2
        go_loopw [5, 6] (fun i l wi => ∃ (m : Nat) (L : List Int), m ≤ s.size ∧ k + 1 ≤ m ∧ i = .int .i64 m ∧ Hid (pmG s m = some (R, some L)) ∧ wi.ownsRow wr.heap.size 2 1 l L.length (L.map (Value.int .i64)) ∧ Below wr.heap.size wr wi) (fun i _ _ => s.size - (intOf i).toNat)
        case atStart => exact ⟨k + 1, [], by omega, Nat.le_refl _, by go_num, HQ, own_made wr, below_made wr⟩
        case round =>
          obtain ⟨m, L, hm, hkm, rfl, HM, hown, hB⟩ := hrel
          have hbm := Lib.hid (pm_bd2 HM.out)
          have hlm := Lib.hid (show L.length ≤ 1048576 by have := hbm.out.2; omega)
          obtain ⟨qa, a, ca, hv, qb⟩ := (own_of (by have := hlm.out; omega) hown).rd
          clear qa qb
          subst hv
          have HI := Lib.hid (And.intro hown hB)
          have hsi := hB.size
          clear hown hB
          by_cases hlt2 : m < s.size
          · by_cases hc : bt s m = 93
            · have hc2 : (bt s m != 93) = false := by simpa using hc
              have hne : ((m : Int) == (s.size : Int)) = false := by simp; omega
              by_cases h2 : L.length < 2
              · have HN := Lib.hid (pmR_none (pm_bad HM.out hc h2) (by omega))
                clear hc
                go_wp2
                go_ret2
                exact ⟨_, by rw [HN.out]; rfl, by rw [HN.out]; exact ownR_nil _ _ _, below_step HO.out.2 HI.out.2 HO.out.2.size⟩
              · have HN := Lib.hid (pm_shut HM.out hc (by omega))
                have HL := Lib.hid (lay_row HO.out.1 HI.out.2 (own_of (by have := hlm.out; omega) (HI.out.1)) (.cells #[.slice a L.length ca] 37))
                clear hc
                go_wp2_with (at_builtin; refine push_row rfl _ _ rfl rfl _ rfl HL.out.2.2.2 HL.out.1 HL.out.2.1 ⟨by have := hbd.out.1; omega, by have := hbd.out.2; omega⟩ (by have := hlm.out; omega) HO.out.2.size HL.out.2.2.1.size ?_; intro v' w' hown' hb'; have HP := Lib.hid (And.intro hown' ((below_step HO.out.2 HL.out.2.2.1 HO.out.2.size).trans hb')); clear hown' hb')
                go_roundw
                case rel => exact ⟨m + 1, R ++ [L], by omega, by go_num, HN, HP.out.1, HP.out.2⟩
                case measure => simp [intOf]; omega
            · have hc2 : (bt s m != 93) = true := by simpa using hc
              have HN := Lib.hid (pm_more HM.out hc)
              clear hc
              go_wp2_with (first | (go_at_call 20; refine (hexOf_any _ _).mono ?_; rintro e w' ⟨rfl, rfl⟩) | (at_builtin; refine push_int rfl _ _ rfl rfl rfl HI.out.1 HI.out.2.size (by have := hlm.out; omega) ?_; intro v' w' hown' hb'))
              go_roundw
              case rel => exact ⟨m + 1, L ++ [hexV (bt s m)], by omega, by omega, by go_num, HN, hown', HI.out.2.trans hb'⟩
              case measure => simp [intOf]; omega
          · obtain rfl : m = s.size := by omega
            have HN := Lib.hid (pmR_open HM.out)
            go_wp2
            go_ret2
            exact ⟨_, by rw [HN.out]; rfl, by rw [HN.out]; exact ownR_nil _ _ _, below_step HO.out.2 HI.out.2 HO.out.2.size⟩
      · have hc1 : (bt s k != 91) = true := by simpa using hc
        have HQ := Lib.hid (pm_one HG.out hc)
        clear hc
        obtain ⟨x, hx⟩ : ∃ x, x = hexV (bt s k) := ⟨_, rfl⟩
        have hh := fun W => hexOf_any (bt s k) W
        rw [← hx] at hh HQ
        have HH := Lib.hid hh
        clear hx hh
        have HL := Lib.hid (one_row HO.out.1 x (.cells #[.slice (some ⟨wr.heap.size, 0, none⟩) 1 1] 37))
        go_wp2_with (first | (go_at_call 20; refine (HH.out _).mono ?_; rintro e w' ⟨rfl, rfl⟩) | (at_builtin; refine push_row rfl _ _ rfl rfl (wr.heap.size + 1) rfl HL.out.2.2.2 HL.out.1 HL.out.2.1 ⟨by have := hbd.out.1; omega, by have := hbd.out.2; omega⟩ (by simp) HO.out.2.size HL.out.2.2.1.size ?_; intro v' w' hown' hb'; have HP := Lib.hid (And.intro hown' ((below_step HO.out.2 HL.out.2.2.1 HO.out.2.size).trans hb')); clear hown' hb'))
        go_roundw
        case rel => exact ⟨k + 1, R ++ [[x]], by omega, by go_num, HQ, HP.out.1, HP.out.2⟩
        case measure => simp [intOf]; omega
    · obtain rfl : k = s.size := by omega
      have HE := Lib.hid (pmR_end HG.out)
      have ha := Lib.hid (areStacks_any _ R wr HO.out.1.rd)
      go_wp2_with (go_at_call 21; refine ha.out.mono ?_; rintro e w' ⟨rfl, rfl⟩)
      go_ret2
      exact ⟨_, by rw [HE.out]; rfl, by rw [HE.out]; exact HO.out.1, HO.out.2⟩

set_option maxRecDepth 20000 in
set_option maxHeartbeats 4000000 in
theorem implReadM_any (s : ByteArray) (w : World) (hs : s.size ≤ 1048576) :
    Calls Try.prog 5 #[.string s] w fun e w' => ∃ a, e = .returned (.tuple #[.agg #[a], .bool (rmB s)]) ∧ OwnR w' w.heap.size w'.heap.size a (rmL s) ∧ Below w.heap.size w w' := by
  have hr := fun W => readStacks_any s W hs
  have HRM := Lib.hid (show rmB s = vmB (pmR s) from rfl)
  have HRL := Lib.hid (show rmL s = if rmB s then pmR s else [] from rfl)
  obtain ⟨T, hT⟩ : ∃ T, T = pmR s := ⟨_, rfl⟩
  rw [← hT] at hr HRM HRL
  have hr := Lib.hid hr
  clear hT
  go_enter Try.func5, Try.ntmps5
  go_wp2_with fail
  generalize hW : (World.alloc w _) = wb
  have r0 : wb.cell? ⟨w.heap.size, 0, none⟩ = some (.slice none 0 0) := by rw [← hW]; simp
  have z0 : wb.frozen? ⟨w.heap.size, 0, none⟩ = false := by rw [← hW]; simp
  have hlt : w.heap.size < wb.heap.size := by rw [← hW]; simp
  have hB : Below w.heap.size w wb := by rw [← hW]; exact box_below _ _
  clear hW
  refine (hr.out wb).mono ?_
  rintro e w1 ⟨u, rfl, hu, hb⟩
  obtain ⟨s1, c1, rfl⟩ := hu.rd.form
  replace r0 := (hb.cell (p := ⟨w.heap.size, 0, none⟩) hlt).trans r0
  replace z0 := (hb.frozen (p := ⟨w.heap.size, 0, none⟩) hlt).trans z0
  replace hB := below_step hB hb hB.size
  have hlt1 := Nat.lt_of_lt_of_le hlt hb.size
  have hA := (Below.refl w1.heap.size w1).alloc (Nat.le_refl _) (.cells #[.slice s1 T.length c1] 24)
  have r1 := (hA.cell (p := ⟨w.heap.size, 0, none⟩) hlt1).trans r0
  have z1 := (hA.frozen (p := ⟨w.heap.size, 0, none⟩) hlt1).trans z0
  have hB1 := below_step hB hA hB.size
  have hbs := hb.size
  have HA := Lib.hid hA
  have HU := Lib.hid hu
  have HB0 := Lib.hid (And.intro hB r0)
  clear hA hu hb hB r0 z0
  cases hok : okM T
  · have hR : rmB s = false := HRM.out.trans (vmB_shape hok)
    have HRB := Lib.hid hR
    have HR := Lib.hid (show rmL s = [] by rw [HRL.out, hR]; rfl)
    have hA2 := (Below.refl (w1.setCell ⟨w.heap.size, 0, none⟩ (.slice none 0 0)).heap.size (w1.setCell ⟨w.heap.size, 0, none⟩ (.slice none 0 0))).alloc (Nat.le_refl _) (.cells #[.slice s1 T.length c1] 24)
    have e1 := (hA2.cell (p := ⟨w.heap.size, 0, none⟩) (by simp; omega)).trans (World.cell?_setCell_same _ _ _ HB0.out.2)
    clear hR hB1 hA2
    go_wp2
    refine bodyPost_ret (v := .tuple #[.agg #[.slice none 0 0], .bool false]) (by simp [results, Try.results5, go_sem, e1]) rfl ⟨_, by rw [HRB.out], by rw [HR.out]; exact ownR_nil _ _ _, (HB0.out.1.setCell (p := ⟨w.heap.size, 0, none⟩) (Nat.le_refl _) _).alloc (by simp; omega) _⟩
  · have hv := implValidM_any _ T _ (HU.out.rd.below HA.out)
    cases hval : rmB s
    all_goals
      rw [show vmB T = _ from HRM.out.symm.trans hval] at hv
      have HV := Lib.hid hv
      have HB1 := Lib.hid hB1
      have HVAL := Lib.hid hval
      clear hv hB1 hval hok
      go_wp2_with fail
      refine HV.out.mono ?_
      rintro e w2 ⟨rfl, hb2⟩
      replace r1 := (hb2.cell (p := ⟨w.heap.size, 0, none⟩) (by simp; omega)).trans r1
      replace z1 := (hb2.frozen (p := ⟨w.heap.size, 0, none⟩) (by simp; omega)).trans z1
      have k1 := hb2.cell (p := ⟨w1.heap.size, 0, none⟩) (by simp)
      simp at k1
      have HB2 := Lib.hid (below_step HB1.out hb2 HB1.out.size)
      have HU2 := Lib.hid ((HU.out.below HA.out).below hb2)
      have hs2 := hb2.size
      simp at hs2
      clear hb2
      go_wp2
    · refine bodyPost_ret (v := .tuple #[.agg #[.slice none 0 0], .bool false]) (by simp [results, Try.results5, go_sem, r1]) rfl ⟨_, by rw [HVAL.out], by rw [HRL.out, HVAL.out]; exact ownR_nil _ _ _, HB2.out.setCell (p := ⟨w.heap.size, 0, none⟩) (Nat.le_refl _) _⟩
    · refine bodyPost_ret (v := .tuple #[.agg #[.slice s1 T.length c1], .bool true]) (by simp [results, Try.results5, go_sem, r1]) rfl ⟨_, by rw [HVAL.out], ?_, HB2.out.setCell (p := ⟨w.heap.size, 0, none⟩) (Nat.le_refl _) _⟩
      rw [HRL.out, HVAL.out, if_pos rfl]
      exact ((HU2.out.mono (lo' := w.heap.size + 1) hlt (Nat.le_refl _)).kept ((Chg.refl _ _ _).setCell (p := ⟨w.heap.size, 0, none⟩) _ (Nat.le_refl _) (Nat.lt_succ_self _)) (.inr (Nat.le_refl _))).mono (Nat.le_succ _) (by simp; omega)
end Go.Proofs.Ytenjonopdffjeaa
