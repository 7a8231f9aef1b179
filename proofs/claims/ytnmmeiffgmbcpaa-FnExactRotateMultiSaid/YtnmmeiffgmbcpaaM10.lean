/-
  Contracts of the functions on patterns with several throws at a beat (chapter 4), tenth part: rotations. No condition beyond each contract's own.
-/
import Derived.Test.YtnmmeiffgmbcpaaM5
import Derived.Test.YtnmmeiffgmbcpaaM9
import Derived.Test.YtnmmeiffgmbcpaaL03
import Derived.Deep.RegionLaw
namespace Go.Proofs.Ytnmmeiffgmbcpaa
open Go.ChangeShapes Go.WideShapes Go.ChangeAt Go.RowKit


/-- The beat that comes k beats behind the beginning of the turned pattern. -/
def rtI (R : List (List Int)) (b : Int) (k : Nat) : Nat := (((k : Int) + b % (R.length : Int)) % (R.length : Int)).toNat
def rtM (R : List (List Int)) (b : Int) (k : Nat) : List (List Int) := (List.range k).map fun j => gr R (rtI R b j)
theorem rtM_length (R : List (List Int)) (b : Int) (k : Nat) : (rtM R b k).length = k := by simp [rtM]
theorem rtM_succ (R : List (List Int)) (b : Int) (k : Nat) : rtM R b (k + 1) = rtM R b k ++ [gr R (rtI R b k)] := by simp [rtM, List.range_succ]
theorem rtI_lt {R : List (List Int)} (h : 1 ≤ R.length) (b : Int) (k : Nat) : rtI R b k < R.length := by
  have := emod_bd (a := (k : Int) + b % (R.length : Int)) (n := (R.length : Int)) (by omega)
  unfold rtI
  omega
theorem rtI_int {R : List (List Int)} (h : 1 ≤ R.length) (b : Int) (k : Nat) : ((k : Int) + b % (R.length : Int)) % (R.length : Int) = (rtI R b k : Int) := by
  have := emod_bd (a := (k : Int) + b % (R.length : Int)) (n := (R.length : Int)) (by omega)
  unfold rtI
  omega
theorem rtM_sum {R : List (List Int)} (h : 1 ≤ R.length) (b : Int) (h4 : ∀ j, j < R.length → (gr R j).length ≤ 4) : ∀ k, sumLen (rtM R b k) (rtM R b k).length ≤ 4 * k
  | 0 => by simp [rtM, sumLen]
  | k + 1 => by
    have h1 := rtM_sum h b h4 k
    have h2 := h4 _ (rtI_lt h b k)
    rw [rtM_succ, sumLen_app]
    omega
def roL (R : List (List Int)) (b : Int) : List (List Int) := if vmB R then rtM R b R.length else []

/-- The variable 'out' of a pattern that is being made: its cell is the first above wb. -/
def OutN (wb wr : World) (v : Value) (T : List (List Int)) : Prop :=
  wr.cell? ⟨wb.heap.size, 0, none⟩ = some v ∧ wr.frozen? ⟨wb.heap.size, 0, none⟩ = false ∧ OwnR wr (wb.heap.size + 1) wr.heap.size v T ∧ Below wb.heap.size wb wr ∧ wb.heap.size + 1 ≤ wr.heap.size
theorem outN_start (wb : World) (t : TypeId) : OutN wb (wb.alloc (.cells #[.slice none 0 0] t)) (.slice none 0 0) [] :=
  ⟨by simp, by simp, ownR_nil _ _ _, box_below _ _, by simp⟩
/-- What stands when a row u has been made by a call and laid into a cell for the appending. -/
theorem outN_row {wb wr w2 : World} {v u : Value} {T : List (List Int)} {L : List Int} (h : OutN wb wr v T) (hb : Below wr.heap.size wr w2) (hu : Own w2 wr.heap.size w2.heap.size u L) (o2 : Obj) :
    OwnR (w2.alloc o2) (wb.heap.size + 1) wr.heap.size v T ∧ Own (w2.alloc o2) wr.heap.size (w2.alloc o2).heap.size u L ∧ (w2.alloc o2).heap[w2.heap.size]? = some o2 ∧ (w2.alloc o2).cell? ⟨wb.heap.size, 0, none⟩ = some v ∧ (w2.alloc o2).frozen? ⟨wb.heap.size, 0, none⟩ = false ∧ Below wb.heap.size wb (w2.alloc o2) ∧ wr.heap.size ≤ (w2.alloc o2).heap.size ∧ w2.cell? ⟨wb.heap.size, 0, none⟩ = some v := by
  obtain ⟨a1, a2, a5, a6, a7⟩ := h
  have hb2 := hb.alloc hb.size o2
  have hb3 := (Below.refl w2.heap.size w2).alloc (Nat.le_refl _) o2
  exact ⟨a5.below hb2, (hu.below hb3).mono (Nat.le_refl _) (by simp), heap_alloc_new _ _, (hb2.cell (p := ⟨wb.heap.size, 0, none⟩) (by show wb.heap.size < _; omega)).trans a1, (hb2.frozen (p := ⟨wb.heap.size, 0, none⟩) (by show wb.heap.size < _; omega)).trans a2, below_step a6 hb2 (by omega), hb2.size, (hb.cell (p := ⟨wb.heap.size, 0, none⟩) (by show wb.heap.size < _; omega)).trans a1⟩
theorem outN_next {wb w2 w3 : World} {v v' : Value} {T : List (List Int)} (hB : Below wb.heap.size wb w2) (hs : wb.heap.size + 1 ≤ w2.heap.size) (hc1 : w2.cell? ⟨wb.heap.size, 0, none⟩ = some v) (hz1 : w2.frozen? ⟨wb.heap.size, 0, none⟩ = false)
    (hb : Below (wb.heap.size + 1) w2 w3) (hT : OwnR w3 (wb.heap.size + 1) w3.heap.size v' T) : OutN wb (w3.setCell ⟨wb.heap.size, 0, none⟩ v') v' T := by
  have f1 := (hb.cell (p := ⟨wb.heap.size, 0, none⟩) (Nat.lt_succ_self _)).trans hc1
  have f2 := (hb.frozen (p := ⟨wb.heap.size, 0, none⟩) (Nat.lt_succ_self _)).trans hz1
  have hch : Chg w3 (w3.setCell ⟨wb.heap.size, 0, none⟩ v') wb.heap.size (wb.heap.size + 1) := (Chg.refl _ _ _).setCell _ _ (Nat.le_refl _) (Nat.lt_succ_self _)
  refine ⟨World.cell?_setCell_same _ _ _ f1, ?_, (hT.kept hch (.inr (Nat.le_refl _))).mono (Nat.le_refl _) (by simp), (hB.trans (hb.mono (Nat.le_succ _))).setCell (p := ⟨wb.heap.size, 0, none⟩) (Nat.le_refl _) _, by simp; have := hb.size; omega⟩
  simpa using f2

set_option maxRecDepth 20000 in
set_option maxHeartbeats 8000000 in
theorem specRotateM_any (a : Value) (R : List (List Int)) (b : Int) (w : World) (h : RdR w a R) :
    Calls Try.prog 35 #[.agg #[a], .int .i64 b] w fun e w' => ∃ u, e = .returned (.tuple #[.agg #[u], .int .i64 (vmC R)]) ∧ OwnR w' w.heap.size w'.heap.size u (roL R b) ∧ Below w.heap.size w w' := by
  obtain ⟨s1, c1, rfl⟩ := h.form
  have hv0 : Hid (∀ W, Below w.heap.size w W → W.cell? ⟨w.heap.size, 0, none⟩ = some (.slice s1 R.length c1) → w.heap.size < W.heap.size → Calls Try.prog 48 #[.pointer (some ⟨w.heap.size, 0, none⟩)] W fun e w' => e = .returned (.bool (vmB R)) ∧ Below W.heap.size W w') := fun W hW hc hl => l04Ok_any _ R W ⟨w.heap.size, s1, c1, rfl, hl, hc, h.below hW⟩
  cases hval : vmB R
  · have HMC := Lib.hid (show vmC R = 1 by rw [vmC, hval]; rfl)
    have HML := Lib.hid (show roL R b = [] by rw [roL, hval]; rfl)
    rw [hval] at hv0
    clear hval h
    go_enter Try.func35, Try.ntmps35
    go_wp2_with fail
    generalize hW : (World.alloc (World.alloc w _) _) = wb
    have k0 : wb.cell? ⟨w.heap.size, 0, none⟩ = some (.slice s1 R.length c1) := by rw [← hW]; simp
    have r0 : wb.cell? ⟨w.heap.size + 1, 0, none⟩ = some (.slice none 0 0) := by rw [← hW]; simp
    have z0 : wb.frozen? ⟨w.heap.size + 1, 0, none⟩ = false := by rw [← hW]; simp
    have hlt : w.heap.size + 1 < wb.heap.size := by rw [← hW]; simp
    have hB : Below w.heap.size w wb := by rw [← hW]; exact (box_below _ _).alloc (by simp) _
    clear hW
    refine (hv0.out _ hB k0 (by omega)).mono ?_
    rintro e w1 ⟨rfl, hb⟩
    replace r0 := (hb.cell (p := ⟨w.heap.size + 1, 0, none⟩) hlt).trans r0
    replace z0 := (hb.frozen (p := ⟨w.heap.size + 1, 0, none⟩) hlt).trans z0
    replace hB := below_step hB hb hB.size
    clear hb k0
    go_wp2
    refine bodyPost_ret (v := .tuple #[.agg #[.slice none 0 0], .int .i64 (vmC R)]) (by simp [results, Try.results35, go_sem, r0]; exact HMC.out.symm) rfl ⟨_, rfl, by rw [HML.out]; exact ownR_nil _ _ _, hB.setCell (p := ⟨w.heap.size + 1, 0, none⟩) (Nat.le_succ _) _⟩
  · have HMC := Lib.hid (show vmC R = 0 by rw [vmC, hval]; rfl)
    have HML := Lib.hid (show roL R b = rtM R b R.length by rw [roL, hval]; rfl)
    obtain ⟨h1, h12, hst⟩ := okM_true (vmB_ok hval)
    have HST := Lib.hid (fun j hj => stB_true (hst j hj))
    have hsm := Lib.hid (rtM_sum h1 b (fun j hj => (stB_true (hst j hj)).2.1))
    rw [hval] at hv0
    clear hval hst
    obtain ⟨la, a, ca, hv', ha⟩ := h
    cases hv'
    obtain ⟨ba, oa, cs, rfl, hba, hca⟩ := ha (by omega)
    have HCA := Lib.hid hca
    clear ha hca
    go_enter Try.func35, Try.ntmps35
    go_wp2_with fail
    generalize hW : (World.alloc (World.alloc w _) _) = wb0
    have k0 : wb0.cell? ⟨w.heap.size, 0, none⟩ = some (.slice (some ⟨ba, oa, none⟩) R.length c1) := by rw [← hW]; simp
    have r0 : wb0.cell? ⟨w.heap.size + 1, 0, none⟩ = some (.slice none 0 0) := by rw [← hW]; simp
    have z0 : wb0.frozen? ⟨w.heap.size + 1, 0, none⟩ = false := by rw [← hW]; simp
    have hlt : w.heap.size + 1 < wb0.heap.size := by rw [← hW]; simp
    have hB : Below w.heap.size w wb0 := by rw [← hW]; exact (box_below _ _).alloc (by simp) _
    clear hW
    refine (hv0.out _ hB k0 (by omega)).mono ?_
    rintro e wb ⟨rfl, hb⟩
    replace k0 := (hb.cell (p := ⟨w.heap.size, 0, none⟩) (by show w.heap.size < _; omega)).trans k0
    replace r0 := (hb.cell (p := ⟨w.heap.size + 1, 0, none⟩) hlt).trans r0
    replace z0 := (hb.frozen (p := ⟨w.heap.size + 1, 0, none⟩) hlt).trans z0
    replace hlt := Nat.lt_of_lt_of_le hlt hb.size
    replace hB := below_step hB hb hB.size
    clear hb
    have HB := Lib.hid hB
    have HK := Lib.hid (And.intro r0 z0)
    clear hB r0 z0
    obtain ⟨m1, m2⟩ := tmod_bd (a := b) (n := (R.length : Int)) (by omega)
    obtain ⟨m3, m4⟩ := emod_bd (a := b) (n := (R.length : Int)) (by omega)
    have HMM := Lib.hid (show b.tmod (R.length : Int) % (R.length : Int) = b % (R.length : Int) by have := mod_mod (a := b) (n := (R.length : Int)); rwa [Int.add_emod_right] at this)
    go_wp2
    go_loopw [8] (fun i wr => ∃ (k : Nat) (o : Value), k ≤ R.length ∧ i = .int .i64 k ∧ OutN wb wr o (rtM R b k)) (fun i _ => R.length - (intOf i).toNat)
    case atStart => exact ⟨0, _, Nat.zero_le _, rfl, outN_start wb _⟩
    case round =>
      obtain ⟨k, o, hk, rfl, hout⟩ := hrel
      obtain ⟨_, g, cc, rfl, _⟩ := hout.2.2.1.rd
      rw [rtM_length] at hout
      have hB2 := below_step HB.out hout.2.2.2.1 HB.out.size
      have k1 : wr.cell? ⟨w.heap.size, 0, none⟩ = some (.slice (some ⟨ba, oa, none⟩) R.length c1) := (hout.2.2.2.1.cell (p := ⟨w.heap.size, 0, none⟩) (by show w.heap.size < _; omega)).trans k0
      by_cases hlt2 : k < R.length
      · have hI := rtI_lt h1 b k
        have hE := rtI_int h1 b k
        have p0 : wr.cell? ⟨ba, oa + rtI R b k, none⟩ = some (cs (rtI R b k)) := (hB2.cell (p := ⟨ba, oa + rtI R b k, none⟩) hba).trans (HCA.out _ hI).1
        have hrr := (HCA.out _ hI).2.below hB2
        obtain ⟨_, aL, cL, hvL, _⟩ := hrr
        rw [hvL] at p0
        have hrr := (HCA.out _ hI).2.below hB2
        rw [hvL] at hrr
        have bst := HST.out _ hI
        have z1 := hout.1
        have HO := Lib.hid hout
        have HS := Lib.hid (rtM_succ R b k)
        have hsl := Lib.hid (rtM_length R b k)
        obtain ⟨L, hL⟩ : ∃ L, L = gr R (rtI R b k) := ⟨_, rfl⟩
        obtain ⟨I, hII⟩ : ∃ I, I = rtI R b k := ⟨_, rfl⟩
        rw [← hL] at HS hrr p0 bst
        rw [← hII] at hE p0 hI
        have HOWN : Hid (∀ W, W.heap.size = wr.heap.size → Below wr.heap.size wr W → Calls Try.prog 49 #[.slice aL L.length cL] W fun e w' => ∃ u, e = .returned u ∧ Own w' wr.heap.size w'.heap.size u L ∧ Below wr.heap.size wr w') := fun W hW hBW => (l00Own_any _ L W (hrr.below hBW) bst.1).mono fun e w' ⟨u, he, ho, hb⟩ => ⟨u, he, hW ▸ ho, below_step hBW hb (by omega)⟩
        have hbst := Lib.hid bst
        have hBW := Lib.hid ((Below.refl wr.heap.size wr).drew)
        clear hL hII hout hrr hvL bst hB2
        have hE2 : ((k : Int) + b.tmod (R.length : Int) % (R.length : Int)) % (R.length : Int) = (I : Int) := by rw [HMM.out]; exact hE
        obtain ⟨m5, m6⟩ := emod_bd (a := b.tmod (R.length : Int)) (n := (R.length : Int)) (by omega)
        have hi0' : (0 : Int) ≤ (I : Int) := Int.natCast_nonneg _
        have hi1 : (I : Int) < (R.length : Int) := by omega
        have HE2 := Lib.hid hE2
        clear hE hE2
        go_wp2
        rw [HE2.out]
        go_region_law ((first
          | (go_simp; refine (HOWN.out _ (by simp) hBW.out).mono ?_; rintro e w2 ⟨u, rfl, hu, hb2⟩; obtain ⟨_, gu, cu, hvu, _⟩ := hu.rd; subst hvu; have hn := outN_row HO.out hb2 hu (.cells #[.slice gu L.length cu] 22); have hn4 := hn.2.2.2.1; have hn8 := hn.2.2.2.2.2.2.2; have HNR := Lib.hid hn; clear hn hu hb2)
          | (refine step_push_row (by rfl) _ _ (by rfl) (by rfl) _ (by rfl) HNR.out.2.2.1 HNR.out.1 HNR.out.2.1 ⟨by rw [hsl.out]; omega, Nat.le_trans (hsm.out k) (by omega)⟩ (by have := hbst.out.2.1; omega) HO.out.2.2.2.2 HNR.out.2.2.2.2.2.2.1 ?_; intro v' w' hown' hb'; obtain ⟨_, g', cc', hv', _⟩ := hown'.rd; rw [List.length_append, List.length_singleton, hsl.out] at hv'; subst hv'; have f1 := (hb'.cell (p := ⟨wb.heap.size, 0, none⟩) (Nat.lt_succ_self _)).trans HNR.out.2.2.2.1; have f2 := (hb'.frozen (p := ⟨wb.heap.size, 0, none⟩) (Nat.lt_succ_self _)).trans HNR.out.2.2.2.2.1; have HN := Lib.hid (And.intro hown' hb'); clear hown' hb')))
        all_goals
          go_wp2
          go_roundw
          case rel => exact ⟨k + 1, _, by omega, by go_num, by rw [HS.out]; exact outN_next HNR.out.2.2.2.2.2.1 (Nat.le_trans HO.out.2.2.2.2 HNR.out.2.2.2.2.2.2.1) HNR.out.2.2.2.1 HNR.out.2.2.2.2.1 HN.out.2 HN.out.1⟩
          case measure => simp [intOf]; omega
      · obtain rfl : k = R.length := by omega
        have z1 := hout.1
        have r1 := (hout.2.2.2.1.cell (p := ⟨w.heap.size + 1, 0, none⟩) hlt).trans HK.out.1
        have q1 := (hout.2.2.2.1.frozen (p := ⟨w.heap.size + 1, 0, none⟩) hlt).trans HK.out.2
        have HO := Lib.hid hout
        have HB2 := Lib.hid hB2
        clear hout hB2
        go_wp2
        refine bodyPost_ret (v := .tuple #[.agg #[.slice g R.length cc], .int .i64 (vmC R)]) (by simp [results, Try.results35, go_sem, r1]; exact HMC.out.symm) rfl ⟨_, rfl, ?_, HB2.out.setCell (p := ⟨w.heap.size + 1, 0, none⟩) (Nat.le_succ _) _⟩
        rw [HML.out]
        exact (((HO.out.2.2.1.mono (lo' := w.heap.size + 1 + 1) (Nat.le_trans hlt (Nat.le_succ _)) (Nat.le_refl _)).kept ((Chg.refl _ _ _).setCell (p := ⟨w.heap.size + 1, 0, none⟩) _ (Nat.le_refl _) (Nat.lt_succ_self _)) (.inr (Nat.le_refl _))).mono (by omega) (by simp))

set_option maxRecDepth 20000 in
set_option maxHeartbeats 8000000 in
theorem implRotateM_any (a : Value) (R : List (List Int)) (b : Int) (w : World) (h : RdR w a R) :
    Calls Try.prog 36 #[.agg #[a], .int .i64 b] w fun e w' => ∃ u, e = .returned (.tuple #[.agg #[u], .int .i64 (vmC R)]) ∧ OwnR w' w.heap.size w'.heap.size u (roL R b) ∧ Below w.heap.size w w' := by
  obtain ⟨s1, c1, rfl⟩ := h.form
  have hv0 : Hid (∀ W, Below w.heap.size w W → W.cell? ⟨w.heap.size, 0, none⟩ = some (.slice s1 R.length c1) → w.heap.size < W.heap.size → Calls Try.prog 28 #[.agg #[.slice s1 R.length c1]] W fun e w' => e = .returned (.bool (vmB R)) ∧ Below W.heap.size W w') := fun W hW _ _ => implValidM_any _ R W (h.below hW)
  cases hval : vmB R
  · have HMC := Lib.hid (show vmC R = 1 by rw [vmC, hval]; rfl)
    have HML := Lib.hid (show roL R b = [] by rw [roL, hval]; rfl)
    rw [hval] at hv0
    clear hval h
    go_enter Try.func36, Try.ntmps36
    go_wp2_with fail
    generalize hW : (World.alloc (World.alloc w _) _) = wb
    have k0 : wb.cell? ⟨w.heap.size, 0, none⟩ = some (.slice s1 R.length c1) := by rw [← hW]; simp
    have r0 : wb.cell? ⟨w.heap.size + 1, 0, none⟩ = some (.slice none 0 0) := by rw [← hW]; simp
    have z0 : wb.frozen? ⟨w.heap.size + 1, 0, none⟩ = false := by rw [← hW]; simp
    have hlt : w.heap.size + 1 < wb.heap.size := by rw [← hW]; simp
    have hB : Below w.heap.size w wb := by rw [← hW]; exact (box_below _ _).alloc (by simp) _
    clear hW
    refine (hv0.out _ hB k0 (by omega)).mono ?_
    rintro e w1 ⟨rfl, hb⟩
    replace r0 := (hb.cell (p := ⟨w.heap.size + 1, 0, none⟩) hlt).trans r0
    replace z0 := (hb.frozen (p := ⟨w.heap.size + 1, 0, none⟩) hlt).trans z0
    replace hB := below_step hB hb hB.size
    clear hb k0
    go_wp2
    refine bodyPost_ret (v := .tuple #[.agg #[.slice none 0 0], .int .i64 (vmC R)]) (by simp [results, Try.results36, go_sem, r0]; exact HMC.out.symm) rfl ⟨_, rfl, by rw [HML.out]; exact ownR_nil _ _ _, hB.setCell (p := ⟨w.heap.size + 1, 0, none⟩) (Nat.le_succ _) _⟩
  · have HMC := Lib.hid (show vmC R = 0 by rw [vmC, hval]; rfl)
    have HML := Lib.hid (show roL R b = rtM R b R.length by rw [roL, hval]; rfl)
    obtain ⟨h1, h12, hst⟩ := okM_true (vmB_ok hval)
    have HST := Lib.hid (fun j hj => stB_true (hst j hj))
    have hsm := Lib.hid (rtM_sum h1 b (fun j hj => (stB_true (hst j hj)).2.1))
    rw [hval] at hv0
    clear hval hst
    obtain ⟨la, a, ca, hv', ha⟩ := h
    cases hv'
    obtain ⟨ba, oa, cs, rfl, hba, hca⟩ := ha (by omega)
    have HCA := Lib.hid hca
    clear ha hca
    go_enter Try.func36, Try.ntmps36
    go_wp2_with fail
    generalize hW : (World.alloc (World.alloc w _) _) = wb0
    have k0 : wb0.cell? ⟨w.heap.size, 0, none⟩ = some (.slice (some ⟨ba, oa, none⟩) R.length c1) := by rw [← hW]; simp
    have r0 : wb0.cell? ⟨w.heap.size + 1, 0, none⟩ = some (.slice none 0 0) := by rw [← hW]; simp
    have z0 : wb0.frozen? ⟨w.heap.size + 1, 0, none⟩ = false := by rw [← hW]; simp
    have hlt : w.heap.size + 1 < wb0.heap.size := by rw [← hW]; simp
    have hB : Below w.heap.size w wb0 := by rw [← hW]; exact (box_below _ _).alloc (by simp) _
    clear hW
    refine (hv0.out _ hB k0 (by omega)).mono ?_
    rintro e wb ⟨rfl, hb⟩
    replace k0 := (hb.cell (p := ⟨w.heap.size, 0, none⟩) (by show w.heap.size < _; omega)).trans k0
    replace r0 := (hb.cell (p := ⟨w.heap.size + 1, 0, none⟩) hlt).trans r0
    replace z0 := (hb.frozen (p := ⟨w.heap.size + 1, 0, none⟩) hlt).trans z0
    replace hlt := Nat.lt_of_lt_of_le hlt hb.size
    replace hB := below_step hB hb hB.size
    clear hb
    have HB := Lib.hid hB
    have HK := Lib.hid (And.intro r0 z0)
    clear hB r0 z0
    obtain ⟨m1, m2⟩ := tmod_bd (a := b) (n := (R.length : Int)) (by omega)
    obtain ⟨m3, m4⟩ := emod_bd (a := b) (n := (R.length : Int)) (by omega)
    have HMM := Lib.hid (show b.tmod (R.length : Int) % (R.length : Int) = b % (R.length : Int) by have := mod_mod (a := b) (n := (R.length : Int)); rwa [Int.add_emod_right] at this)
    go_wp2
    go_loopw [18] (fun i wr => ∃ (k : Nat) (o : Value), k ≤ R.length ∧ i = .int .i64 k ∧ OutN wb wr o (rtM R b k)) (fun i _ => R.length - (intOf i).toNat)
    case atStart => exact ⟨0, _, Nat.zero_le _, rfl, outN_start wb _⟩
    case round =>
      obtain ⟨k, o, hk, rfl, hout⟩ := hrel
      obtain ⟨_, g, cc, rfl, _⟩ := hout.2.2.1.rd
      rw [rtM_length] at hout
      have hB2 := below_step HB.out hout.2.2.2.1 HB.out.size
      have k1 : wr.cell? ⟨w.heap.size, 0, none⟩ = some (.slice (some ⟨ba, oa, none⟩) R.length c1) := (hout.2.2.2.1.cell (p := ⟨w.heap.size, 0, none⟩) (by show w.heap.size < _; omega)).trans k0
      by_cases hlt2 : k < R.length
      · have hI := rtI_lt h1 b k
        have hE := rtI_int h1 b k
        have p0 : wr.cell? ⟨ba, oa + rtI R b k, none⟩ = some (cs (rtI R b k)) := (hB2.cell (p := ⟨ba, oa + rtI R b k, none⟩) hba).trans (HCA.out _ hI).1
        have hrr := (HCA.out _ hI).2.below hB2
        obtain ⟨_, aL, cL, hvL, _⟩ := hrr
        rw [hvL] at p0
        have hrr := (HCA.out _ hI).2.below hB2
        rw [hvL] at hrr
        have bst := HST.out _ hI
        have z1 := hout.1
        have HO := Lib.hid hout
        have HS := Lib.hid (rtM_succ R b k)
        have hsl := Lib.hid (rtM_length R b k)
        obtain ⟨L, hL⟩ : ∃ L, L = gr R (rtI R b k) := ⟨_, rfl⟩
        obtain ⟨I, hII⟩ : ∃ I, I = rtI R b k := ⟨_, rfl⟩
        rw [← hL] at HS hrr p0 bst
        rw [← hII] at hE p0 hI
        have HOWN : Hid (∀ W, W.heap.size = wr.heap.size → Below wr.heap.size wr W → Calls Try.prog 50 #[.slice aL L.length cL] W fun e w' => ∃ u, e = .returned u ∧ Own w' wr.heap.size w'.heap.size u L ∧ Below wr.heap.size wr w') := fun W hW hBW => (copyNumbers_any _ L W (hrr.below hBW) bst.1).mono fun e w' ⟨u, he, ho, hb⟩ => ⟨u, he, hW ▸ ho, below_step hBW hb (by omega)⟩
        have hbst := Lib.hid bst
        have hBW := Lib.hid ((Below.refl wr.heap.size wr).drew)
        clear hL hII hout hrr hvL bst hB2
        have hw1 : IntKind.i64.wrap ((k : Int) + b % (R.length : Int)) = (k : Int) + b % (R.length : Int) := IntWalk.i64_in _ (by omega)
        have hw2 : ((k : Int) + b % (R.length : Int)).tmod (R.length : Int) = (I : Int) := by rw [Int.tmod_eq_emod_of_nonneg (by omega)]; exact hE
        have hi0' : (0 : Int) ≤ (I : Int) := Int.natCast_nonneg _
        have hi1 : (I : Int) < (R.length : Int) := by omega
        have hne : ¬ R = [] := fun h => by rw [h] at h1; simp at h1
        have HA := Lib.hid (And.intro h1 h12)
        clear hE HMM m1 m2 m3 m4
        go_wp2
        go_region_law ((first
          | (go_simp; refine (modulo_any _ _ _ (by have := HA.out.1; omega) (by have := HA.out.2; omega)).mono ?_; rintro e w2 ⟨rfl, rfl⟩)
          | (go_simp; refine (HOWN.out _ (by simp) hBW.out).mono ?_; rintro e w2 ⟨u, rfl, hu, hb2⟩; obtain ⟨_, gu, cu, hvu, _⟩ := hu.rd; subst hvu; have hn := outN_row HO.out hb2 hu (.cells #[.slice gu L.length cu] 22); have hn4 := hn.2.2.2.1; have hn8 := hn.2.2.2.2.2.2.2; have HNR := Lib.hid hn; clear hn hu hb2)
          | (refine step_push_row (by rfl) _ _ (by rfl) (by rfl) _ (by rfl) HNR.out.2.2.1 HNR.out.1 HNR.out.2.1 ⟨by rw [hsl.out]; omega, Nat.le_trans (hsm.out k) (by omega)⟩ (by have := hbst.out.2.1; omega) HO.out.2.2.2.2 HNR.out.2.2.2.2.2.2.1 ?_; intro v' w' hown' hb'; obtain ⟨_, g', cc', hv', _⟩ := hown'.rd; rw [List.length_append, List.length_singleton, hsl.out] at hv'; subst hv'; have f1 := (hb'.cell (p := ⟨wb.heap.size, 0, none⟩) (Nat.lt_succ_self _)).trans HNR.out.2.2.2.1; have f2 := (hb'.frozen (p := ⟨wb.heap.size, 0, none⟩) (Nat.lt_succ_self _)).trans HNR.out.2.2.2.2.1; have HN := Lib.hid (And.intro hown' hb'); clear hown' hb')))
        all_goals
          go_wp2
          go_roundw
          case rel => exact ⟨k + 1, _, by omega, by go_num, by rw [HS.out]; exact outN_next HNR.out.2.2.2.2.2.1 (Nat.le_trans HO.out.2.2.2.2 HNR.out.2.2.2.2.2.2.1) HNR.out.2.2.2.1 HNR.out.2.2.2.2.1 HN.out.2 HN.out.1⟩
          case measure => simp [intOf]; omega
      · obtain rfl : k = R.length := by omega
        have z1 := hout.1
        have r1 := (hout.2.2.2.1.cell (p := ⟨w.heap.size + 1, 0, none⟩) hlt).trans HK.out.1
        have q1 := (hout.2.2.2.1.frozen (p := ⟨w.heap.size + 1, 0, none⟩) hlt).trans HK.out.2
        have HO := Lib.hid hout
        have HB2 := Lib.hid hB2
        clear hout hB2
        go_wp2
        refine bodyPost_ret (v := .tuple #[.agg #[.slice g R.length cc], .int .i64 (vmC R)]) (by simp [results, Try.results36, go_sem, r1]; exact HMC.out.symm) rfl ⟨_, rfl, ?_, HB2.out.setCell (p := ⟨w.heap.size + 1, 0, none⟩) (Nat.le_succ _) _⟩
        rw [HML.out]
        exact (((HO.out.2.2.1.mono (lo' := w.heap.size + 1 + 1) (Nat.le_trans hlt (Nat.le_succ _)) (Nat.le_refl _)).kept ((Chg.refl _ _ _).setCell (p := ⟨w.heap.size + 1, 0, none⟩) _ (Nat.le_refl _) (Nat.lt_succ_self _)) (.inr (Nat.le_refl _))).mono (by omega) (by simp))
end Go.Proofs.Ytnmmeiffgmbcpaa
