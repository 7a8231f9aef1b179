/-
  Contracts of the functions on patterns with several throws at a beat (chapter 4), ninth part: patterns of one throw at each beat. No condition beyond each contract's own.
-/
import Derived.Test.YtbeaknnehpdepaaM8
import Derived.Test.YtbeaknnehpdepaaL02b
import Derived.Deep.RegionLaw
namespace Go.Proofs.Ytbeaknnehpdepaa
open Go.ChangeShapes Go.WideShapes Go.ChangeAt Go.RowKit


def sgR (p : List Int) (k : Nat) : List (List Int) := (List.range k).map fun j => [gi p j]
theorem sgR_length (p : List Int) (k : Nat) : (sgR p k).length = k := by simp [sgR]
theorem sgR_succ (p : List Int) (k : Nat) : sgR p (k + 1) = sgR p k ++ [[gi p k]] := by simp [sgR, List.range_succ]
theorem sgR_sum (p : List Int) : ∀ k, sumLen (sgR p k) (sgR p k).length = k
  | 0 => rfl
  | k + 1 => by rw [sgR_succ, sumLen_app, sgR_sum p k]; rfl
def moL (p : List Int) : List (List Int) := if validB p then sgR p p.length else []
def moC (p : List Int) : Int := if validB p then 0 else 1

/-- What stands when a row of one number has been made for the appending. -/
theorem one_row {w : World} {lo : Nat} {v : Value} {T : List (List Int)} (hT : OwnR w lo w.heap.size v T) (x : Int) (o2 : Obj) :
    OwnR ((w.alloc (.cells #[.int .i64 x] 2)).alloc o2) lo w.heap.size v T ∧ Own ((w.alloc (.cells #[.int .i64 x] 2)).alloc o2) w.heap.size ((w.alloc (.cells #[.int .i64 x] 2)).alloc o2).heap.size (.slice (some ⟨w.heap.size, 0, none⟩) 1 1) [x] ∧ Below w.heap.size w ((w.alloc (.cells #[.int .i64 x] 2)).alloc o2) ∧ ((w.alloc (.cells #[.int .i64 x] 2)).alloc o2).heap[w.heap.size + 1]? = some o2 := by
  have hb1 := (Below.refl w.heap.size w).alloc (Nat.le_refl _) (.cells #[.int .i64 x] 2)
  have hb2 := hb1.alloc (by simp) o2
  have hb3 := (Below.refl (w.alloc (.cells #[.int .i64 x] 2)).heap.size (w.alloc (.cells #[.int .i64 x] 2))).alloc (Nat.le_refl _) o2
  exact ⟨hT.below hb2, ((own_one w x).below hb3).mono (Nat.le_refl _) (by simp), hb2, by rw [show w.heap.size + 1 = (w.alloc (.cells #[.int .i64 x] 2)).heap.size by simp]; exact heap_alloc_new _ _⟩

/-- The variable 'out' of a pattern that is being made: its cell is the first above H. -/
def OutM (W wr : World) (H : Nat) (v : Value) (T : List (List Int)) : Prop :=
  wr.cell? ⟨H + 1, 0, none⟩ = some v ∧ wr.frozen? ⟨H + 1, 0, none⟩ = false ∧ wr.cell? ⟨H, 0, none⟩ = some (.slice none 0 0) ∧ wr.frozen? ⟨H, 0, none⟩ = false ∧ OwnR wr (H + 2) wr.heap.size v T ∧ Below H W wr ∧ H + 2 ≤ wr.heap.size
theorem OutM.below {W wr w2 : World} {H : Nat} {v : Value} {T : List (List Int)} (h : OutM W wr H v T) (hb : Below wr.heap.size wr w2) : wr.heap.size ≤ w2.heap.size ∧ w2.cell? ⟨H + 1, 0, none⟩ = some v ∧ w2.frozen? ⟨H + 1, 0, none⟩ = false ∧ w2.cell? ⟨H, 0, none⟩ = some (.slice none 0 0) ∧ w2.frozen? ⟨H, 0, none⟩ = false ∧ OwnR w2 (H + 2) wr.heap.size v T ∧ Below H W w2 := by
  obtain ⟨a1, a2, a3, a4, a5, a6, a7⟩ := h
  exact ⟨hb.size, (hb.cell (p := ⟨H + 1, 0, none⟩) (by show H + 1 < _; omega)).trans a1, (hb.frozen (p := ⟨H + 1, 0, none⟩) (by show H + 1 < _; omega)).trans a2, (hb.cell (p := ⟨H, 0, none⟩) (by show H < _; omega)).trans a3, (hb.frozen (p := ⟨H, 0, none⟩) (by show H < _; omega)).trans a4, a5.below hb, below_step a6 hb (by omega)⟩
/-- A row is appended and stored. -/
theorem outM_next {W w2 w3 : World} {H : Nat} {v' : Value} {T : List (List Int)} (hB : Below H W w2) (hs : H + 2 ≤ w2.heap.size) (hz1 : w2.frozen? ⟨H + 1, 0, none⟩ = false) (hc0 : w2.cell? ⟨H, 0, none⟩ = some (.slice none 0 0)) (hz0 : w2.frozen? ⟨H, 0, none⟩ = false) {v : Value} (hc1 : w2.cell? ⟨H + 1, 0, none⟩ = some v)
    (hb : Below (H + 2) w2 w3) (hT : OwnR w3 (H + 2) w3.heap.size v' T) : OutM W (w3.setCell ⟨H + 1, 0, none⟩ v') H v' T := by
  have f1 := (hb.cell (p := ⟨H + 1, 0, none⟩) (by show H + 1 < _; omega)).trans hc1
  have f2 := (hb.frozen (p := ⟨H + 1, 0, none⟩) (by show H + 1 < _; omega)).trans hz1
  have f3 := (hb.cell (p := ⟨H, 0, none⟩) (by show H < _; omega)).trans hc0
  have f4 := (hb.frozen (p := ⟨H, 0, none⟩) (by show H < _; omega)).trans hz0
  have hch : Chg w3 (w3.setCell ⟨H + 1, 0, none⟩ v') (H + 1) (H + 2) := (Chg.refl _ _ _).setCell _ _ (Nat.le_refl _) (Nat.lt_succ_self _)
  refine ⟨World.cell?_setCell_same _ _ _ f1, ?_, (World.cell?_setCell_other _ _ _ _ (by simp)).trans f3, ?_, (hT.kept hch (.inr (Nat.le_refl _))).mono (Nat.le_refl _) (by simp), (hB.trans (hb.mono (by omega))).setCell (p := ⟨H + 1, 0, none⟩) (Nat.le_succ _) _, by simp; have := hb.size; omega⟩
  · simpa using f2
  · simpa using f4

theorem outM_start (w : World) (t1 t2 : TypeId) : OutM w ((w.alloc (.cells #[.slice none 0 0] t1)).alloc (.cells #[.slice none 0 0] t2)) w.heap.size (.slice none 0 0) [] :=
  ⟨by simp, by simp, by simp, by simp, ownR_nil _ _ _, (box_below w _).alloc (by simp) _, by simp⟩

set_option maxHeartbeats 4000000 in
theorem implMulti1_any (v : Value) (p : List Int) (w : World) (hp : Rd w v p) (h12 : p.length ≤ 12) :
    Calls Try.prog 70 #[v] w fun e w' => ∃ a, e = .returned (.agg #[a]) ∧ OwnR w' w.heap.size w'.heap.size a (sgR p p.length) ∧ Below w.heap.size w w' := by
  obtain ⟨la, a, ca, rfl, ha⟩ := hp
  go_enter Try.func70, Try.ntmps70
  go_wp2
  go_loopw [9] (fun i wr => ∃ (k : Nat) (o : Value), k ≤ p.length ∧ i = .int .i64 k ∧ OutM w wr w.heap.size o (sgR p k)) (fun i _ => p.length - (intOf i).toNat)
  case atStart => exact ⟨0, _, Nat.zero_le _, rfl, outM_start w _ _⟩
  case round =>
    obtain ⟨k, o, hk, rfl, hout⟩ := hrel
    obtain ⟨_, g, cc, rfl, _⟩ := hout.2.2.2.2.1.rd
    rw [sgR_length] at hout
    by_cases hlt : k < p.length
    · obtain ⟨ba, oa, rfl, hba, hca⟩ := ha (by omega)
      have y1 := (hout.2.2.2.2.2.1.cell (p := ⟨ba, oa + k, none⟩) hba).trans (hca k hlt)
      have z1 := hout.1
      have HO := Lib.hid hout
      have HR := Lib.hid (one_row hout.2.2.2.2.1 (gi p k) (.cells #[.slice (some ⟨wr.heap.size, 0, none⟩) 1 1] 22))
      have HOB := Lib.hid (hout.below (HR.out.2.2.1))
      have hsl := Lib.hid (sgR_length p k)
      have hsm := Lib.hid (sgR_sum p k)
      have HS := Lib.hid (sgR_succ p k)
      clear hca ha hout
      go_wp2_with (at_builtin; refine push_row rfl _ _ rfl rfl (wr.heap.size + 1) rfl HR.out.2.2.2 HR.out.1 HR.out.2.1 ⟨by rw [hsl.out]; omega, by rw [hsm.out]; omega⟩ (by simp) HO.out.2.2.2.2.2.2 (by simp; omega) ?_; intro v' w' hown' hb'; obtain ⟨_, g', cc', hv', _⟩ := hown'.rd; rw [List.length_append, List.length_singleton, hsl.out] at hv'; subst hv'; have f1 := (hb'.cell (p := ⟨w.heap.size + 1, 0, none⟩) (Nat.lt_succ_self _)).trans HOB.out.2.1; have f2 := (hb'.frozen (p := ⟨w.heap.size + 1, 0, none⟩) (Nat.lt_succ_self _)).trans HOB.out.2.2.1; have HN := Lib.hid (And.intro hown' hb'); clear hown' hb')
      go_roundw
      case rel => exact ⟨k + 1, _, by omega, by go_num, by rw [HS.out]; exact outM_next HOB.out.2.2.2.2.2.2 (by have := HO.out.2.2.2.2.2.2; have := HOB.out.1; omega) HOB.out.2.2.1 HOB.out.2.2.2.1 HOB.out.2.2.2.2.1 HOB.out.2.1 HN.out.2 HN.out.1⟩
      case measure => simp [intOf]; omega
    · have z1 := hout.1
      have z2 := hout.2.2.1
      have z3 := hout.2.2.2.1
      obtain rfl : k = p.length := by omega
      have HO := Lib.hid hout
      clear hout
      go_wp2
      refine bodyPost_ret (v := .agg #[.slice g p.length cc]) (by simp [results, Try.results70, go_sem, z2]) rfl ⟨_, rfl, ?_, ?_⟩
      · exact ((HO.out.2.2.2.2.1.kept ((Chg.refl _ _ _).setCell _ _ (Nat.le_refl _) (Nat.lt_succ_self _)) (.inr (Nat.le_succ _))).mono (by omega) (by simp))
      · exact HO.out.2.2.2.2.2.1.setCell (p := ⟨w.heap.size, 0, none⟩) (Nat.le_refl _) _

set_option maxHeartbeats 4000000 in
theorem l04Single_any (v : Value) (p : List Int) (w : World) (hp : Rd w v p) (h12 : p.length ≤ 12) :
    Calls Try.prog 69 #[v] w fun e w' => ∃ a, e = .returned (.agg #[a]) ∧ OwnR w' w.heap.size w'.heap.size a (sgR p p.length) ∧ Below w.heap.size w w' := by
  obtain ⟨la, a, ca, rfl, ha⟩ := hp
  go_enter Try.func69, Try.ntmps69
  go_wp2
  go_loopw [4] (fun i wr => ∃ (k : Nat) (o : Value), k ≤ p.length ∧ i = .int .i64 k ∧ OutM w wr w.heap.size o (sgR p k)) (fun i _ => p.length - (intOf i).toNat)
  case atStart => exact ⟨0, _, Nat.zero_le _, rfl, outM_start w _ _⟩
  case round =>
    obtain ⟨k, o, hk, rfl, hout⟩ := hrel
    obtain ⟨_, g, cc, rfl, _⟩ := hout.2.2.2.2.1.rd
    rw [sgR_length] at hout
    by_cases hlt : k < p.length
    · obtain ⟨ba, oa, rfl, hba, hca⟩ := ha (by omega)
      have y1 := (hout.2.2.2.2.2.1.cell (p := ⟨ba, oa + k, none⟩) hba).trans (hca k hlt)
      have z1 := hout.1
      have HO := Lib.hid hout
      have HR := Lib.hid (one_row hout.2.2.2.2.1 (gi p k) (.cells #[.slice (some ⟨wr.heap.size, 0, none⟩) 1 1] 22))
      have HOB := Lib.hid (hout.below (HR.out.2.2.1))
      have hsl := Lib.hid (sgR_length p k)
      have hsm := Lib.hid (sgR_sum p k)
      have HS := Lib.hid (sgR_succ p k)
      have z1a : (wr.alloc (.cells #[.int .i64 (gi p k)] 2)).cell? ⟨w.heap.size + 1, 0, none⟩ = some (.slice g k cc) := (((Below.refl wr.heap.size wr).alloc (Nat.le_refl _) _).cell (p := ⟨w.heap.size + 1, 0, none⟩) (by have := HO.out.2.2.2.2.2.2; show w.heap.size + 1 < wr.heap.size; omega)).trans z1
      have z1b := HOB.out.2.1
      have hi0' : (0 : Int) ≤ (k : Int) := Int.natCast_nonneg _
      have hi1 : (k : Int) < (p.length : Int) := by omega
      clear hca ha hout
      go_wp2
      go_region_law ((refine step_push_row (by rfl) _ _ (by rfl) (by rfl) (wr.heap.size + 1) (by rfl) HR.out.2.2.2 HR.out.1 HR.out.2.1 ⟨by rw [hsl.out]; omega, by rw [hsm.out]; omega⟩ (by simp) HO.out.2.2.2.2.2.2 (by simp; omega) ?_; intro v' w' hown' hb'; obtain ⟨_, g', cc', hv', _⟩ := hown'.rd; rw [List.length_append, List.length_singleton, hsl.out] at hv'; subst hv'; have f1 := (hb'.cell (p := ⟨w.heap.size + 1, 0, none⟩) (Nat.lt_succ_self _)).trans HOB.out.2.1; have f2 := (hb'.frozen (p := ⟨w.heap.size + 1, 0, none⟩) (Nat.lt_succ_self _)).trans HOB.out.2.2.1; have HN := Lib.hid (And.intro hown' hb'); clear hown' hb'))
      all_goals
        go_wp2
        go_roundw
        case rel => exact ⟨k + 1, _, by omega, by go_num, by rw [HS.out]; exact outM_next HOB.out.2.2.2.2.2.2.drew (Nat.le_trans HO.out.2.2.2.2.2.2 HOB.out.1) HOB.out.2.2.1 HOB.out.2.2.2.1 HOB.out.2.2.2.2.1 HOB.out.2.1 HN.out.2 HN.out.1⟩
        case measure => simp [intOf]; omega
    · have z1 := hout.1
      have z2 := hout.2.2.1
      have z3 := hout.2.2.2.1
      obtain rfl : k = p.length := by omega
      have HO := Lib.hid hout
      clear hout
      go_wp2
      refine bodyPost_ret (v := .agg #[.slice g p.length cc]) (by simp [results, Try.results69, go_sem, z2]) rfl ⟨_, rfl, ?_, ?_⟩
      · exact ((HO.out.2.2.2.2.1.kept ((Chg.refl _ _ _).setCell _ _ (Nat.le_refl _) (Nat.lt_succ_self _)) (.inr (Nat.le_succ _))).mono (by omega) (by simp))
      · exact HO.out.2.2.2.2.2.1.setCell (p := ⟨w.heap.size, 0, none⟩) (Nat.le_refl _) _

set_option maxHeartbeats 4000000 in
theorem specMultiOf_any (v : Value) (p : List Int) (w : World) (hp : Rd w v p) :
    Calls Try.prog 31 #[v] w fun e w' => ∃ a, e = .returned (.tuple #[.agg #[a], .int .i64 (moC p)]) ∧ OwnR w' w.heap.size w'.heap.size a (moL p) ∧ Below w.heap.size w w' := by
  have hv0 : Hid (∀ W, Below w.heap.size w W → Calls Try.prog 68 #[v] W fun e w' => e = .returned (.bool (validB p)) ∧ Below W.heap.size W w') := fun W hW => specValid_any v p W (hp.below hW)
  cases hval : validB p
  · have HMC := Lib.hid (show moC p = 1 by rw [moC, hval]; rfl)
    have HML := Lib.hid (show moL p = [] by rw [moL, hval]; rfl)
    rw [hval] at hv0
    clear hval
    go_enter Try.func31, Try.ntmps31
    go_wp2_with fail
    generalize hW : (World.alloc w _) = wb
    have r0 : wb.cell? ⟨w.heap.size, 0, none⟩ = some (.slice none 0 0) := by rw [← hW]; simp
    have z0 : wb.frozen? ⟨w.heap.size, 0, none⟩ = false := by rw [← hW]; simp
    have hlt : w.heap.size < wb.heap.size := by rw [← hW]; simp
    have hB : Below w.heap.size w wb := by rw [← hW]; exact box_below _ _
    clear hW
    refine (hv0.out _ hB).mono ?_
    rintro e w1 ⟨rfl, hb⟩
    replace r0 := (hb.cell (p := ⟨w.heap.size, 0, none⟩) hlt).trans r0
    replace z0 := (hb.frozen (p := ⟨w.heap.size, 0, none⟩) hlt).trans z0
    replace hB := below_step hB hb hB.size
    clear hb
    go_wp2
    refine bodyPost_ret (v := .tuple #[.agg #[.slice none 0 0], .int .i64 (moC p)]) (by simp [results, Try.results31, go_sem, r0]; exact HMC.out.symm) rfl ⟨_, rfl, by rw [HML.out]; exact ownR_nil _ _ _, hB.setCell (p := ⟨w.heap.size, 0, none⟩) (Nat.le_refl _) _⟩
  · have HMC := Lib.hid (show moC p = 0 by rw [moC, hval]; rfl)
    have HML := Lib.hid (show moL p = sgR p p.length by rw [moL, hval]; rfl)
    have hs0 : Hid (∀ W, Below w.heap.size w W → Calls Try.prog 69 #[v] W fun e w' => ∃ a, e = .returned (.agg #[a]) ∧ OwnR w' W.heap.size w'.heap.size a (sgR p p.length) ∧ Below W.heap.size W w') := fun W hW => l04Single_any v p W (hp.below hW) (validB_true hval).2.1
    rw [hval] at hv0
    clear hval
    go_enter Try.func31, Try.ntmps31
    go_wp2_with fail
    generalize hW : (World.alloc w _) = wb
    have r0 : wb.cell? ⟨w.heap.size, 0, none⟩ = some (.slice none 0 0) := by rw [← hW]; simp
    have z0 : wb.frozen? ⟨w.heap.size, 0, none⟩ = false := by rw [← hW]; simp
    have hlt : w.heap.size < wb.heap.size := by rw [← hW]; simp
    have hB : Below w.heap.size w wb := by rw [← hW]; exact box_below _ _
    clear hW
    refine (hv0.out _ hB).mono ?_
    rintro e w1 ⟨rfl, hb⟩
    replace r0 := (hb.cell (p := ⟨w.heap.size, 0, none⟩) hlt).trans r0
    replace z0 := (hb.frozen (p := ⟨w.heap.size, 0, none⟩) hlt).trans z0
    replace hlt := Nat.lt_of_lt_of_le hlt hb.size
    replace hB := below_step hB hb hB.size
    clear hb
    go_wp2_with fail
    refine (hs0.out _ hB).mono ?_
    rintro e w2 ⟨u, rfl, ho, hb⟩
    obtain ⟨s1, c1, rfl⟩ := ho.rd.form
    replace r0 := (hb.cell (p := ⟨w.heap.size, 0, none⟩) hlt).trans r0
    replace z0 := (hb.frozen (p := ⟨w.heap.size, 0, none⟩) hlt).trans z0
    replace hB := below_step hB hb hB.size
    have HO := Lib.hid ho
    clear hb ho
    go_wp2
    refine bodyPost_ret (v := .tuple #[.agg #[.slice s1 (sgR p p.length).length c1], .int .i64 (moC p)]) (by simp [results, Try.results31, go_sem, r0]; exact HMC.out.symm) rfl ⟨_, rfl, ?_, hB.setCell (p := ⟨w.heap.size, 0, none⟩) (Nat.le_refl _) _⟩
    rw [HML.out]
    exact (((HO.out.mono (lo' := w.heap.size + 1) hlt (Nat.le_refl _)).kept ((Chg.refl _ _ _).setCell (p := ⟨w.heap.size, 0, none⟩) _ (Nat.le_refl _) (Nat.lt_succ_self _)) (.inr (Nat.le_refl _))).mono (Nat.le_succ _) (by simp))

set_option maxHeartbeats 4000000 in
theorem implMultiOf_any (v : Value) (p : List Int) (w : World) (hp : Rd w v p) :
    Calls Try.prog 32 #[v] w fun e w' => ∃ a, e = .returned (.tuple #[.agg #[a], .int .i64 (moC p)]) ∧ OwnR w' w.heap.size w'.heap.size a (moL p) ∧ Below w.heap.size w w' := by
  have hv0 : Hid (∀ W, Below w.heap.size w W → Calls Try.prog 49 #[v] W fun e w' => e = .returned (.bool (validB p)) ∧ Below W.heap.size W w') := fun W hW => implValid_any v p W (hp.below hW)
  cases hval : validB p
  · have HMC := Lib.hid (show moC p = 1 by rw [moC, hval]; rfl)
    have HML := Lib.hid (show moL p = [] by rw [moL, hval]; rfl)
    rw [hval] at hv0
    clear hval
    go_enter Try.func32, Try.ntmps32
    go_wp2_with fail
    generalize hW : (World.alloc w _) = wb
    have r0 : wb.cell? ⟨w.heap.size, 0, none⟩ = some (.slice none 0 0) := by rw [← hW]; simp
    have z0 : wb.frozen? ⟨w.heap.size, 0, none⟩ = false := by rw [← hW]; simp
    have hlt : w.heap.size < wb.heap.size := by rw [← hW]; simp
    have hB : Below w.heap.size w wb := by rw [← hW]; exact box_below _ _
    clear hW
    refine (hv0.out _ hB).mono ?_
    rintro e w1 ⟨rfl, hb⟩
    replace r0 := (hb.cell (p := ⟨w.heap.size, 0, none⟩) hlt).trans r0
    replace z0 := (hb.frozen (p := ⟨w.heap.size, 0, none⟩) hlt).trans z0
    replace hB := below_step hB hb hB.size
    clear hb
    go_wp2
    refine bodyPost_ret (v := .tuple #[.agg #[.slice none 0 0], .int .i64 (moC p)]) (by simp [results, Try.results32, go_sem, r0]; exact HMC.out.symm) rfl ⟨_, rfl, by rw [HML.out]; exact ownR_nil _ _ _, hB.setCell (p := ⟨w.heap.size, 0, none⟩) (Nat.le_refl _) _⟩
  · have HMC := Lib.hid (show moC p = 0 by rw [moC, hval]; rfl)
    have HML := Lib.hid (show moL p = sgR p p.length by rw [moL, hval]; rfl)
    have hs0 : Hid (∀ W, Below w.heap.size w W → Calls Try.prog 70 #[v] W fun e w' => ∃ a, e = .returned (.agg #[a]) ∧ OwnR w' W.heap.size w'.heap.size a (sgR p p.length) ∧ Below W.heap.size W w') := fun W hW => implMulti1_any v p W (hp.below hW) (validB_true hval).2.1
    rw [hval] at hv0
    clear hval
    go_enter Try.func32, Try.ntmps32
    go_wp2_with fail
    generalize hW : (World.alloc w _) = wb
    have r0 : wb.cell? ⟨w.heap.size, 0, none⟩ = some (.slice none 0 0) := by rw [← hW]; simp
    have z0 : wb.frozen? ⟨w.heap.size, 0, none⟩ = false := by rw [← hW]; simp
    have hlt : w.heap.size < wb.heap.size := by rw [← hW]; simp
    have hB : Below w.heap.size w wb := by rw [← hW]; exact box_below _ _
    clear hW
    refine (hv0.out _ hB).mono ?_
    rintro e w1 ⟨rfl, hb⟩
    replace r0 := (hb.cell (p := ⟨w.heap.size, 0, none⟩) hlt).trans r0
    replace z0 := (hb.frozen (p := ⟨w.heap.size, 0, none⟩) hlt).trans z0
    replace hlt := Nat.lt_of_lt_of_le hlt hb.size
    replace hB := below_step hB hb hB.size
    clear hb
    go_wp2_with fail
    refine (hs0.out _ hB).mono ?_
    rintro e w2 ⟨u, rfl, ho, hb⟩
    obtain ⟨s1, c1, rfl⟩ := ho.rd.form
    replace r0 := (hb.cell (p := ⟨w.heap.size, 0, none⟩) hlt).trans r0
    replace z0 := (hb.frozen (p := ⟨w.heap.size, 0, none⟩) hlt).trans z0
    replace hB := below_step hB hb hB.size
    have HO := Lib.hid ho
    clear hb ho
    go_wp2
    refine bodyPost_ret (v := .tuple #[.agg #[.slice s1 (sgR p p.length).length c1], .int .i64 (moC p)]) (by simp [results, Try.results32, go_sem, r0]; exact HMC.out.symm) rfl ⟨_, rfl, ?_, hB.setCell (p := ⟨w.heap.size, 0, none⟩) (Nat.le_refl _) _⟩
    rw [HML.out]
    exact (((HO.out.mono (lo' := w.heap.size + 1) hlt (Nat.le_refl _)).kept ((Chg.refl _ _ _).setCell (p := ⟨w.heap.size, 0, none⟩) _ (Nat.le_refl _) (Nat.lt_succ_self _)) (.inr (Nat.le_refl _))).mono (Nat.le_succ _) (by simp))
end Go.Proofs.Ytbeaknnehpdepaa
