/-
  Contracts of ReadPassing (chapter 6), of the reference, second part. No condition beyond each contract's own.
-/
import Derived.Test.YtbkacjfdkaiogaaRp2
import Derived.Deep.Cut
namespace Go.Proofs.Ytbkacjfdkaiogaa
open Go.ChangeShapes Go.WideShapes Go.ChangeAt Go.RowKit

open Go.PlainAid

set_option maxRecDepth 20000 in
set_option maxHeartbeats 8000000 in
theorem specReadP_any (s : ByteArray) (w : World) (hs : s.size ≤ 1048576) :
    Calls Try.prog 4 #[.string s] w fun e w' => ∃ a b, e = .returned (.tuple #[.agg #[a, b], .bool (rqB s)]) ∧ OwnP w' w.heap.size w'.heap.size a b (rqA s) (rqC s) ∧ Below w.heap.size w w' := by
  have hr := Lib.hid (fun W => l06Read_any s W hs)
  go_enter Try.func4, Try.ntmps4
  go_wp2_with fail
  generalize hW : (World.alloc w _) = wb
  have r0 : wb.cell? ⟨w.heap.size, 0, none⟩ = some (.slice none 0 0) := by rw [← hW]; simp
  have r1 : wb.cell? ⟨w.heap.size, 1, none⟩ = some (.slice none 0 0) := by rw [← hW]; simp
  have z0 : wb.frozen? ⟨w.heap.size, 0, none⟩ = false := by rw [← hW]; simp
  have z1 : wb.frozen? ⟨w.heap.size, 1, none⟩ = false := by rw [← hW]; simp
  have hlt : w.heap.size < wb.heap.size := by rw [← hW]; simp
  have hB : Below w.heap.size w wb := by rw [← hW]; exact box_below _ _
  have hltb : w.heap.size < wb.heap.size := hlt
  clear hW
  refine (hr.out wb).mono ?_
  rintro e w1 ⟨u1, u2, A, B, ok, rfl, hu, hb, hP⟩
  obtain ⟨s1, n1, c1, s2, n2, c2, rfl, rfl⟩ := hu.rd.form'
  replace r0 := (hb.cell (p := ⟨w.heap.size, 0, none⟩) hlt).trans r0
  replace r1 := (hb.cell (p := ⟨w.heap.size, 1, none⟩) hlt).trans r1
  replace z0 := (hb.frozen (p := ⟨w.heap.size, 0, none⟩) hlt).trans z0
  replace z1 := (hb.frozen (p := ⟨w.heap.size, 1, none⟩) hlt).trans z1
  replace hlt := Nat.lt_of_lt_of_le hlt hb.size
  replace hB := below_step hB hb hB.size
  have hbs := hb.size
  have hlt1 : w.heap.size < w1.heap.size := hlt
  have hne1 : ¬ w1.heap.size = w.heap.size := by omega
  have hne2 : ¬ w.heap.size = w1.heap.size := by omega
  have hA := (Below.refl w1.heap.size w1).alloc (Nat.le_refl _) (.cells #[.slice s1 n1 c1, .slice s2 n2 c2] 24)
  have HU := Lib.hid hu
  have HU1 := Lib.hid (hu.below hA)
  have HP := Lib.hid hP
  have HV0 := Lib.hid (fun A' B' (hA' : A' = A) (hB' : B' = B) => l06Ok_any _ A B _ (rdQ_box HU.out.rd))
  have k0 : (w1.alloc (.cells #[.slice s1 n1 c1, .slice s2 n2 c2] 24)).cell? ⟨w1.heap.size, 0, none⟩ = some (.slice s1 n1 c1) := by simp
  have k1 : (w1.alloc (.cells #[.slice s1 n1 c1, .slice s2 n2 c2] 24)).cell? ⟨w1.heap.size, 1, none⟩ = some (.slice s2 n2 c2) := by simp
  have hlt4 : w1.heap.size < (w1.alloc (.cells #[.slice s1 n1 c1, .slice s2 n2 c2] 24)).heap.size := by simp
  replace r0 := (hA.cell (p := ⟨w.heap.size, 0, none⟩) hlt).trans r0
  replace r1 := (hA.cell (p := ⟨w.heap.size, 1, none⟩) hlt).trans r1
  replace z0 := (hA.frozen (p := ⟨w.heap.size, 0, none⟩) hlt).trans z0
  replace z1 := (hA.frozen (p := ⟨w.heap.size, 1, none⟩) hlt).trans z1
  replace hlt := Nat.lt_of_lt_of_le hlt hA.size
  replace hB := below_step hB hA hB.size
  have HB1 := Lib.hid hB
  clear hA hu hb hB hP
  go_upto_region 2 with fail
  generalize (w1.alloc (.cells #[.slice s1 n1 c1, .slice s2 n2 c2] 24)) = w4 at *
  cases ok
  · have hR := HP.out.2 rfl
    have HRB := Lib.hid hR
    have HRA := Lib.hid (show rqA s = [] by rw [rqA, hR]; rfl)
    have HRC := Lib.hid (show rqC s = [] by rw [rqC, hR]; rfl)
    clear hR
    go_wp2
    refine bodyPost_ret (v := .tuple #[.agg #[.slice none 0 0, .slice none 0 0], .bool false]) (by simp [results, Try.results4, go_sem, r0, r1]) rfl ⟨_, _, by rw [HRB.out], by rw [HRA.out, HRC.out]; exact ownP_nil _ _ _, (HB1.out.setCell (p := ⟨w.heap.size, 0, none⟩) (Nat.le_refl _) _).setCell (p := ⟨w.heap.size, 1, none⟩) (Nat.le_refl _) _⟩
  · obtain ⟨hF, hTA, hTB⟩ := HP.out.1 rfl
    have hv := HV0.out A B rfl rfl
    have hrb : rqB s = vpB A B := by rw [rqB, hF, hTA, hTB, Bool.true_and]
    have HTA := Lib.hid (And.intro hTA hTB)
    cases hval : rqB s
    all_goals
      rw [← hrb, hval] at hv
      have HV := Lib.hid hv
      have HVAL := Lib.hid hval
      clear hv hval hrb hF hTA hTB
      go_wp2_with fail
      refine HV.out.mono ?_
      rintro e w2 ⟨rfl, hb2⟩
      replace r0 := (hb2.cell (p := ⟨w.heap.size, 0, none⟩) hlt).trans r0
      replace r1 := (hb2.cell (p := ⟨w.heap.size, 1, none⟩) hlt).trans r1
      replace z0 := (hb2.frozen (p := ⟨w.heap.size, 0, none⟩) hlt).trans z0
      replace z1 := (hb2.frozen (p := ⟨w.heap.size, 1, none⟩) hlt).trans z1
      replace k0 := (hb2.cell (p := ⟨w1.heap.size, 0, none⟩) hlt4).trans k0
      replace k1 := (hb2.cell (p := ⟨w1.heap.size, 1, none⟩) hlt4).trans k1
      have HB2 := Lib.hid (below_step HB1.out hb2 HB1.out.size)
      have HU2 := Lib.hid (HU1.out.below hb2)
      have hs2 := hb2.size
      clear hb2
      go_wp2
    · refine bodyPost_ret (v := .tuple #[.agg #[.slice none 0 0, .slice none 0 0], .bool false]) (by simp [results, Try.results4, go_sem, r0, r1]) rfl ⟨_, _, by rw [HVAL.out], by rw [rqA, rqC, HVAL.out]; exact ownP_nil _ _ _, (HB2.out.setCell (p := ⟨w.heap.size, 0, none⟩) (Nat.le_refl _) _).setCell (p := ⟨w.heap.size, 1, none⟩) (Nat.le_refl _) _⟩
    · refine bodyPost_ret (v := .tuple #[.agg #[.slice s1 n1 c1, .slice s2 n2 c2], .bool true]) (by simp [results, Try.results4, go_sem, r0, r1]) rfl ⟨_, _, by rw [HVAL.out], ?_, (HB2.out.setCell (p := ⟨w.heap.size, 0, none⟩) (Nat.le_refl _) _).setCell (p := ⟨w.heap.size, 1, none⟩) (Nat.le_refl _) _⟩
      rw [rqA, rqC, HVAL.out, if_pos rfl, if_pos rfl, ← HTA.out.1, ← HTA.out.2]
      exact ((HU2.out.mono (lo' := w.heap.size + 1) (by omega) (Nat.le_refl _)).kept (((Chg.refl _ _ _).setCell (p := ⟨w.heap.size, 0, none⟩) _ (Nat.le_refl _) (Nat.lt_succ_self _)).setCell (p := ⟨w.heap.size, 1, none⟩) _ (Nat.le_refl _) (Nat.lt_succ_self _)) (.inr (Nat.le_refl _))).mono (Nat.le_succ _) (by simp; omega)
end Go.Proofs.Ytbkacjfdkaiogaa
