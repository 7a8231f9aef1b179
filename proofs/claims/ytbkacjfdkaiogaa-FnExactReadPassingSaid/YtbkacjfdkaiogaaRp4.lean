/-
  Contracts of ReadPassing (chapter 6), of the program, second part. No condition beyond each contract's own.
-/
import Derived.Test.YtbkacjfdkaiogaaRp3
import Derived.Deep.RegionHeld3
import Derived.Deep.Cut
namespace Go.Proofs.Ytbkacjfdkaiogaa
open Go.ChangeShapes Go.WideShapes Go.ChangeAt Go.RowKit

open Go.PlainAid

theorem rq_one {s : ByteArray} (h : cuF (inn s) 124 = false) : ¬ (rqW s).length = 2 := by
  rw [rqW, (spL_not h).1]
  simp
theorem rq_two {s : ByteArray} (h : cuF (inn s) 124 = true) : rqX s = spL (cuA (inn s) 124) 32 ∧ ((rqW s).length = 2 → rqY s = spL (cuB (inn s) 124) 32) ∧ (¬ (rqW s).length = 2 → goT (spL (cuB (inn s) 124) 32) = false) := by
  have hw : rqW s = cuA (inn s) 124 :: spL (cuB (inn s) 124) 124 := (spL_yes h).1
  refine ⟨by rw [rqX, hw]; rfl, fun hl => ?_, fun hl => ?_⟩
  · cases hc : cuF (cuB (inn s) 124) 124 with
    | false => rw [rqY, hw, (spL_not hc).1]; rfl
    | true =>
      exfalso
      rw [hw, (spL_yes hc).1] at hl
      have := (spL_length (cuB (cuB (inn s) 124) 124) 124).1
      simp at hl
      rw [hl] at this
      simp at this
  · cases hc : cuF (cuB (inn s) 124) 124 with
    | false => rw [hw, (spL_not hc).1] at hl; simp at hl
    | true =>
      obtain ⟨j, hj, hb⟩ := cuF_has hc
      exact goT_bar hj hb
theorem rq_okT {s : ByteArray} {T1 T2 : List Th} (hbr : 2 ≤ s.size ∧ bt s 0 = 60 ∧ bt s (s.size - 1) = 62) (h : cuF (inn s) 124 = true) (h1 : thB (spL (cuA (inn s) 124) 32) = true ∧ T1 = thL (spL (cuA (inn s) 124) 32)) (h2 : thB (spL (cuB (inn s) 124) 32) = true ∧ T2 = thL (spL (cuB (inn s) 124) 32))
    (hs : shB T1 T2 = true) : rqF s = true ∧ T1 = thL (rqX s) ∧ T2 = thL (rqY s) := by
  obtain ⟨e1, e2, e3⟩ := rq_two h
  obtain ⟨l1, l2⟩ := shB_lp hs
  rw [h1.2] at l1
  rw [h2.2] at l2
  have g1 := goT_of h1.1 l1
  have g2 := goT_of h2.1 l2
  have hl : (rqW s).length = 2 := by
    by_cases hl : (rqW s).length = 2
    · exact hl
    · rw [e3 hl] at g2; cases g2
  have e4 := e2 hl
  rw [← e1] at g1
  rw [← e4] at g2
  exact ⟨rq_yes hbr hl g1 g2, by rw [e1]; exact h1.2, by rw [e4]; exact h2.2⟩
theorem rq_okF {s : ByteArray} {T1 T2 : List Th} (h : cuF (inn s) 124 = true) (h1 : thB (spL (cuA (inn s) 124) 32) = true ∧ T1 = thL (spL (cuA (inn s) 124) 32)) (h2 : thB (spL (cuB (inn s) 124) 32) = true ∧ T2 = thL (spL (cuB (inn s) 124) 32))
    (hs : shB T1 T2 = false) : rqB s = false := by
  obtain ⟨e1, e2, e3⟩ := rq_two h
  by_cases hl : (rqW s).length = 2
  · exact rq_sh (by rw [e1, e2 hl, ← h1.2, ← h2.2]; exact hs)
  · exact rq_len hl
theorem rq_okX {s : ByteArray} (h : cuF (inn s) 124 = true) (h1 : goT (spL (cuA (inn s) 124) 32) = false) : rqB s = false := rq_x (by rw [(rq_two h).1]; exact h1)
theorem rq_okY {s : ByteArray} (h : cuF (inn s) 124 = true) (h1 : goT (spL (cuB (inn s) 124) 32) = false) : rqB s = false := by
  by_cases hl : (rqW s).length = 2
  · exact rq_y (by rw [(rq_two h).2.1 hl]; exact h1)
  · exact rq_len hl

set_option maxRecDepth 20000 in
set_option maxHeartbeats 16000000 in
theorem readPassingForm_any (s : ByteArray) (w : World) (hs : s.size ≤ 1048576) :
    Calls Try.prog 11 #[.string s] w (rqPost s w) := by
  have hbt := get_bt s
  by_cases h2 : s.size < 2
  · have HR := Lib.hid (rq_br (s := s) (fun h => by omega))
    go_enter Try.func11, Try.ntmps11
    go_wp2
    refine bodyPost_ret (v := .tuple #[.agg #[.slice none 0 0, .slice none 0 0], .bool false]) (by simp [results, Try.results11, go_sem]) rfl ⟨_, _, [], [], false, rfl, ownP_nil _ _ _, box_below _ _, ⟨fun h => absurd h (by simp), fun _ => HR.out⟩⟩
  obtain ⟨m, hm⟩ : ∃ m, s.size = m + 1 := ⟨s.size - 1, by omega⟩
  by_cases h60 : bt s 0 = 60
  rotate_left
  · have HR := Lib.hid (rq_br (s := s) (fun h => h60 h.2.1))
    have hq : (bt s 0 != 60) = true := by simpa using h60
    go_enter Try.func11, Try.ntmps11
    go_wp2
    refine bodyPost_ret (v := .tuple #[.agg #[.slice none 0 0, .slice none 0 0], .bool false]) (by simp [results, Try.results11, go_sem]) rfl ⟨_, _, [], [], false, rfl, ownP_nil _ _ _, box_below _ _, ⟨fun h => absurd h (by simp), fun _ => HR.out⟩⟩
  have hq0 : (bt s 0 != 60) = false := by simpa using h60
  by_cases h62 : bt s m = 62
  rotate_left
  · have HR := Lib.hid (rq_br (s := s) (fun h => h62 (by have := h.2.2; rwa [hm] at this)))
    have hq : (bt s m != 62) = true := by simpa using h62
    go_enter Try.func11, Try.ntmps11
    go_wp2
    refine bodyPost_ret (v := .tuple #[.agg #[.slice none 0 0, .slice none 0 0], .bool false]) (by simp [results, Try.results11, go_sem]) rfl ⟨_, _, [], [], false, rfl, ownP_nil _ _ _, box_below _ _, ⟨fun h => absurd h (by simp), fun _ => HR.out⟩⟩
  have hq1 : (bt s m != 62) = false := by simpa using h62
  have HBR := Lib.hid (show 2 ≤ s.size ∧ bt s 0 = 60 ∧ bt s (s.size - 1) = 62 from ⟨by omega, h60, by rw [hm]; exact h62⟩)
  clear h60 h62
  have hin : s.extract 1 m = inn s := by unfold inn sub; rw [hm]; rfl
  have hisz : (inn s).size ≤ 1048576 := by unfold inn; rw [sub_size (by omega)]; omega
  have hcut := Lib.hid (fun W => cut124_any (inn s) W hisz)
  have hrx := Lib.hid (fun W => readPasses_any (cuA (inn s) 124) W (Nat.le_trans (cuA_size _ _) hisz))
  have hry := Lib.hid (fun W => readPasses_any (cuB (inn s) 124) W (Nat.le_trans (cuB_size _ _) hisz))
  have hONE := Lib.hid (fun h => rq_len (rq_one (s := s) h))
  have hOKX := Lib.hid (fun h => rq_okX (s := s) h)
  have hOKY := Lib.hid (fun h => rq_okY (s := s) h)
  have hOKT := Lib.hid (fun T1 T2 h => rq_okT (s := s) (T1 := T1) (T2 := T2) HBR.out h)
  have hOKF := Lib.hid (fun T1 T2 h => rq_okF (s := s) (T1 := T1) (T2 := T2) h)
  obtain ⟨q, hq⟩ : ∃ q, q = inn s := ⟨_, rfl⟩
  rw [← hq] at hin hcut hrx hry hONE hOKX hOKY hOKT hOKF
  clear hq hisz
  obtain ⟨x, hx⟩ : ∃ x, x = cuA q 124 := ⟨_, rfl⟩
  obtain ⟨y, hy⟩ : ∃ y, y = cuB q 124 := ⟨_, rfl⟩
  obtain ⟨two, htw⟩ : ∃ two, two = cuF q 124 := ⟨_, rfl⟩
  rw [← hx, ← hy, ← htw] at hcut
  rw [← hx] at hrx
  rw [← hy] at hry
  rw [← htw] at hONE
  rw [← htw, ← hx] at hOKX
  rw [← htw, ← hy] at hOKY
  rw [← htw, ← hx, ← hy] at hOKT hOKF
  clear hx hy htw
  go_enter Try.func11, Try.ntmps11
  go_wp2_with fail
  generalize hW : World.alloc w _ = wb
  have r0 : wb.cell? ⟨w.heap.size, 0, none⟩ = some (.slice none 0 0) := by rw [← hW]; simp
  have r1 : wb.cell? ⟨w.heap.size, 1, none⟩ = some (.slice none 0 0) := by rw [← hW]; simp
  have z0 : wb.frozen? ⟨w.heap.size, 0, none⟩ = false := by rw [← hW]; simp
  have z1 : wb.frozen? ⟨w.heap.size, 1, none⟩ = false := by rw [← hW]; simp
  have hlt : w.heap.size < wb.heap.size := by rw [← hW]; simp
  have hB : Below w.heap.size w wb := by rw [← hW]; exact box_below _ _
  clear hW
  refine (hcut.out _).mono ?_
  rintro e w1 ⟨rfl, hb⟩
  replace r0 := (hb.cell (p := ⟨w.heap.size, 0, none⟩) hlt).trans r0
  replace r1 := (hb.cell (p := ⟨w.heap.size, 1, none⟩) hlt).trans r1
  replace z0 := (hb.frozen (p := ⟨w.heap.size, 0, none⟩) hlt).trans z0
  replace z1 := (hb.frozen (p := ⟨w.heap.size, 1, none⟩) hlt).trans z1
  replace hlt := Nat.lt_of_lt_of_le hlt hb.size
  replace hB := below_step hB hb hB.size
  have hs1 := hb.size
  have hw1 : w.heap.size < w1.heap.size := hlt
  clear hb hcut
  go_wp2_with fail
  refine (hrx.out _).mono ?_
  rintro e w2 ⟨u1, T1, ok1, rfl, hu1, hb, hT1⟩
  replace r0 := (hb.cell (p := ⟨w.heap.size, 0, none⟩) hlt).trans r0
  replace r1 := (hb.cell (p := ⟨w.heap.size, 1, none⟩) hlt).trans r1
  replace z0 := (hb.frozen (p := ⟨w.heap.size, 0, none⟩) hlt).trans z0
  replace z1 := (hb.frozen (p := ⟨w.heap.size, 1, none⟩) hlt).trans z1
  replace hlt := Nat.lt_of_lt_of_le hlt hb.size
  replace hB := below_step hB hb hB.size
  have hs2 := hb.size
  obtain ⟨s1, c1, rfl⟩ := hu1.rd.form
  have HU1 := Lib.hid hu1
  have HT1 := Lib.hid hT1
  clear hb hu1 hT1 hrx
  go_wp2_with fail
  refine (hry.out _).mono ?_
  rintro e w3 ⟨u2, T2, ok2, rfl, hu2, hb, hT2⟩
  replace r0 := (hb.cell (p := ⟨w.heap.size, 0, none⟩) hlt).trans r0
  replace r1 := (hb.cell (p := ⟨w.heap.size, 1, none⟩) hlt).trans r1
  replace z0 := (hb.frozen (p := ⟨w.heap.size, 0, none⟩) hlt).trans z0
  replace z1 := (hb.frozen (p := ⟨w.heap.size, 1, none⟩) hlt).trans z1
  replace hlt := Nat.lt_of_lt_of_le hlt hb.size
  replace hB := below_step hB hb hB.size
  have hs3 := hb.size
  have hw3 : w.heap.size < w3.heap.size := hlt
  have hne2 : ¬ w.heap.size = w3.heap.size := by omega
  obtain ⟨s2, c2, rfl⟩ := hu2.rd.form
  have HU := Lib.hid (ownP_of (HU1.out.below hb) hu2 hs2 hs3)
  have HT2 := Lib.hid hT2
  clear hb hu2 hT2 hry
  have hA := (Below.refl w3.heap.size w3).alloc (Nat.le_refl _) (.cells #[.slice s1 T1.length c1, .slice s2 T2.length c2] 24)
  replace r0 := (hA.cell (p := ⟨w.heap.size, 0, none⟩) hlt).trans r0
  replace r1 := (hA.cell (p := ⟨w.heap.size, 1, none⟩) hlt).trans r1
  replace z0 := (hA.frozen (p := ⟨w.heap.size, 0, none⟩) hlt).trans z0
  replace z1 := (hA.frozen (p := ⟨w.heap.size, 1, none⟩) hlt).trans z1
  replace hlt := Nat.lt_of_lt_of_le hlt hA.size
  replace hB := below_step hB hA hB.size
  have HSH := Lib.hid (fun W (hW : Below (w3.alloc (.cells #[.slice s1 T1.length c1, .slice s2 T2.length c2] 24)).heap.size (w3.alloc (.cells #[.slice s1 T1.length c1, .slice s2 T2.length c2] 24)) W) => isPassingForm_any _ _ T1 T2 W ((HU.out.rd.below hA).below hW))
  have HU4 := Lib.hid (HU.out.below hA)
  have hs4 : w3.heap.size < (w3.alloc (.cells #[.slice s1 T1.length c1, .slice s2 T2.length c2] 24)).heap.size := by simp
  have k0 : (w3.alloc (.cells #[.slice s1 T1.length c1, .slice s2 T2.length c2] 24)).cell? ⟨w3.heap.size, 0, none⟩ = some (.slice s1 T1.length c1) := by simp
  have k1 : (w3.alloc (.cells #[.slice s1 T1.length c1, .slice s2 T2.length c2] 24)).cell? ⟨w3.heap.size, 1, none⟩ = some (.slice s2 T2.length c2) := by simp
  clear hA
  have HHB := Lib.hid hB
  clear hB
  go_upto_region 7 with fail
  generalize (w3.alloc (.cells #[.slice s1 T1.length c1, .slice s2 T2.length c2] 24)) = w4 at *
  have DR := (Below.refl ((w4.setCell ⟨w.heap.size, 0, none⟩ (.slice s1 T1.length c1)).setCell ⟨w.heap.size, 1, none⟩ (.slice s2 T2.length c2)).heap.size ((w4.setCell ⟨w.heap.size, 0, none⟩ (.slice s1 T1.length c1)).setCell ⟨w.heap.size, 1, none⟩ (.slice s2 T2.length c2))).drew
  cases two
  · have HR := Lib.hid (hONE.out rfl)
    go_region
    go_wp2
    refine bodyPost_ret (v := .tuple #[.agg #[.slice s1 T1.length c1, .slice s2 T2.length c2], .bool false]) (by simp [results, Try.results11, go_sem, r0, r1]) rfl ⟨_, _, T1, T2, false, rfl, (((HU4.out.kept (((Chg.refl _ _ _).setCell (p := ⟨w.heap.size, 0, none⟩) _ (Nat.le_refl _) (Nat.lt_succ_self _)).setCell (p := ⟨w.heap.size, 1, none⟩) _ (Nat.le_refl _) (Nat.lt_succ_self _)) (.inr hw1)).mono (by omega) (by simp; omega)).below DR), (below_step ((HHB.out.setCell (p := ⟨w.heap.size, 0, none⟩) (Nat.le_refl _) _).setCell (p := ⟨w.heap.size, 1, none⟩) (Nat.le_refl _) _) DR (by simp; omega)), ⟨fun h => absurd h (by simp), fun _ => HR.out⟩⟩
  cases ok1
  · have HR := Lib.hid (hOKX.out rfl (HT1.out.2 rfl))
    go_region
    go_wp2
    refine bodyPost_ret (v := .tuple #[.agg #[.slice s1 T1.length c1, .slice s2 T2.length c2], .bool false]) (by simp [results, Try.results11, go_sem, r0, r1]) rfl ⟨_, _, T1, T2, false, rfl, (((HU4.out.kept (((Chg.refl _ _ _).setCell (p := ⟨w.heap.size, 0, none⟩) _ (Nat.le_refl _) (Nat.lt_succ_self _)).setCell (p := ⟨w.heap.size, 1, none⟩) _ (Nat.le_refl _) (Nat.lt_succ_self _)) (.inr hw1)).mono (by omega) (by simp; omega)).below DR), (below_step ((HHB.out.setCell (p := ⟨w.heap.size, 0, none⟩) (Nat.le_refl _) _).setCell (p := ⟨w.heap.size, 1, none⟩) (Nat.le_refl _) _) DR (by simp; omega)), ⟨fun h => absurd h (by simp), fun _ => HR.out⟩⟩
  cases ok2
  · have HR := Lib.hid (hOKY.out rfl (HT2.out.2 rfl))
    go_region
    go_wp2
    refine bodyPost_ret (v := .tuple #[.agg #[.slice s1 T1.length c1, .slice s2 T2.length c2], .bool false]) (by simp [results, Try.results11, go_sem, r0, r1]) rfl ⟨_, _, T1, T2, false, rfl, (((HU4.out.kept (((Chg.refl _ _ _).setCell (p := ⟨w.heap.size, 0, none⟩) _ (Nat.le_refl _) (Nat.lt_succ_self _)).setCell (p := ⟨w.heap.size, 1, none⟩) _ (Nat.le_refl _) (Nat.lt_succ_self _)) (.inr hw1)).mono (by omega) (by simp; omega)).below DR), (below_step ((HHB.out.setCell (p := ⟨w.heap.size, 0, none⟩) (Nat.le_refl _) _).setCell (p := ⟨w.heap.size, 1, none⟩) (Nat.le_refl _) _) DR (by simp; omega)), ⟨fun h => absurd h (by simp), fun _ => HR.out⟩⟩
  have HY := Lib.hid (hOKT.out T1 T2 rfl (HT1.out.1 rfl) (HT2.out.1 rfl))
  have HF := Lib.hid (hOKF.out T1 T2 rfl (HT1.out.1 rfl) (HT2.out.1 rfl))
  go_region_held3 (fun w' => w'.cell? ⟨w3.heap.size, 0, none⟩ = some (.slice s1 T1.length c1) ∧ w'.cell? ⟨w3.heap.size, 1, none⟩ = some (.slice s2 T2.length c2))
    (first | exact ⟨k0, k1⟩ | exact ⟨k05, k15⟩ | exact ⟨cell_two hne2 k05, cell_two hne2 k15⟩ | go_keep)
    (first | (go_at_call 22; refine (HSH.out _ (Below.refl _ _).drew).mono ?_; rintro e w5 ⟨rfl, hb5⟩; have r05 := (hb5.cell (p := ⟨w.heap.size, 0, none⟩) hlt).trans r0; have r15 := (hb5.cell (p := ⟨w.heap.size, 1, none⟩) hlt).trans r1; have z05 := (hb5.frozen (p := ⟨w.heap.size, 0, none⟩) hlt).trans z0; have z15 := (hb5.frozen (p := ⟨w.heap.size, 1, none⟩) hlt).trans z1; have k05 := (hb5.cell (p := ⟨w3.heap.size, 0, none⟩) hs4).trans k0; have k15 := (hb5.cell (p := ⟨w3.heap.size, 1, none⟩) hs4).trans k1; have hb6 := below_step (Below.refl w4.heap.size w4).drew hb5 (Nat.le_refl _); have hs6 := hb6.size) | fail)
  go_wp2
  refine bodyPost_ret (v := .tuple #[.agg #[.slice s1 T1.length c1, .slice s2 T2.length c2], .bool (shB T1 T2)]) (by simp [results, Try.results11, go_sem, r05, r15]) rfl ⟨_, _, T1, T2, shB T1 T2, rfl, (((HU4.out.below hb6).kept (((Chg.refl _ _ _).setCell (p := ⟨w.heap.size, 0, none⟩) _ (Nat.le_refl _) (Nat.lt_succ_self _)).setCell (p := ⟨w.heap.size, 1, none⟩) _ (Nat.le_refl _) (Nat.lt_succ_self _)) (.inr hw1)).mono (by omega) (by simp; omega)), (((below_step HHB.out hb6 HHB.out.size).setCell (p := ⟨w.heap.size, 0, none⟩) (Nat.le_refl _) _).setCell (p := ⟨w.heap.size, 1, none⟩) (Nat.le_refl _) _), ⟨fun h => HY.out h, fun h => HF.out h⟩⟩
end Go.Proofs.Ytbkacjfdkaiogaa
