/-
  Contracts of the functions on synchronous patterns (chapter 5), eighth part: pairing up. No condition beyond each contract's own.
-/
import Derived.Test.YtncfnbkddpdedaaY4
import Derived.Test.YtncfnbkddpdedaaL03
import Derived.Deep.RegionLaw
namespace Go.Proofs.Ytncfnbkddpdedaa
open Go.ChangeShapes Go.WideShapes Go.ChangeAt Go.RowKit


/-- The throw for a throw of a pattern at an index of that parity. -/
def bkV (v : Int) (odd : Bool) : Th := if v % 2 = 1 then (if odd then v + 1 else v - 1, true) else (v, false)

set_option maxHeartbeats 4000000 in
theorem l05Back_any (v q : Int) (odd : Bool) (w : World) (h0 : 0 ≤ v) (h15 : v ≤ 15) (hq : q = if odd then 1 else 0) :
    Calls Try.prog 17 #[.int .i64 v, .int .i64 q] w fun e w' => e = .returned (.tuple #[.agg #[.int .i64 (bkV v odd).1, .bool (bkV v odd).2], .bool (thS (bkV v odd))]) ∧ Below w.heap.size w w' := by
  obtain ⟨t, ht⟩ : ∃ t, t = bkV v odd := ⟨_, rfl⟩
  have HT := Lib.hid ht
  have hcall := Lib.hid (fun W => l05Throw_any t.1 t.2 W)
  have e1 : v.tmod 2 = v % 2 := Int.tmod_eq_emod_of_nonneg h0
  have e3 : v % 2 = 1 ∨ v % 2 = 0 := by omega
  rw [bkV] at ht
  rcases e3 with e3 | e3
  · rw [e3] at e1
    rw [if_pos e3] at ht
    have HH := Lib.hid e3
    clear e3
    cases odd
    · simp at ht hq
      subst ht hq
      rw [← HT.out]
      clear HT
      go_enter Try.func17, Try.ntmps17
      go_wp2
      generalize hW : (World.alloc (World.alloc w _) _) = wb
      have c1 : wb.cell? ⟨w.heap.size + 1, 0, none⟩ = some (.int .i64 (v - 1)) := by rw [← hW]; simp
      have c2 : wb.cell? ⟨w.heap.size + 1, 1, none⟩ = some (.bool true) := by rw [← hW]; simp
      have c3 : wb.cell? ⟨w.heap.size, 0, none⟩ = some (.int .i64 0) := by rw [← hW]; simp
      have c4 : wb.cell? ⟨w.heap.size, 1, none⟩ = some (.bool false) := by rw [← hW]; simp
      have c5 : wb.frozen? ⟨w.heap.size, 0, none⟩ = false := by rw [← hW]; simp
      have c6 : wb.frozen? ⟨w.heap.size, 1, none⟩ = false := by rw [← hW]; simp
      have hlt : w.heap.size + 1 < wb.heap.size := by rw [← hW]; simp
      have hB : Below w.heap.size w wb := by rw [← hW]; exact ((Below.refl _ _).alloc (Nat.le_refl _) _).alloc (by simp) _
      clear hW
      go_region_law ((go_simp; refine (hcall.out _).mono ?_; rintro e w2 ⟨rfl, hb⟩; have d1 := (hb.cell (p := ⟨w.heap.size + 1, 0, none⟩) hlt).trans c1; have d2 := (hb.cell (p := ⟨w.heap.size + 1, 1, none⟩) hlt).trans c2; have d3 := (hb.cell (p := ⟨w.heap.size, 0, none⟩) (Nat.lt_of_succ_lt hlt)).trans c3; have d4 := (hb.cell (p := ⟨w.heap.size, 1, none⟩) (Nat.lt_of_succ_lt hlt)).trans c4; have d5 := (hb.frozen (p := ⟨w.heap.size, 0, none⟩) (Nat.lt_of_succ_lt hlt)).trans c5; have d6 := (hb.frozen (p := ⟨w.heap.size, 1, none⟩) (Nat.lt_of_succ_lt hlt)).trans c6; have HB2 := Lib.hid (below_step hB.drew hb hB.size); clear hb))
      all_goals
        go_wp2
        refine bodyPost_ret (v := .tuple #[.agg #[.int .i64 (v - 1), .bool true], .bool (thS (v - 1, true))]) (by simp [results, Try.results17, go_sem, d3, d4]) rfl ⟨rfl, (HB2.out.setCell (p := ⟨w.heap.size, 0, none⟩) (Nat.le_refl _) _).setCell (p := ⟨w.heap.size, 1, none⟩) (Nat.le_refl _) _⟩
    · simp at ht hq
      subst ht hq
      rw [← HT.out]
      clear HT
      go_enter Try.func17, Try.ntmps17
      go_wp2
      generalize hW : (World.alloc (World.alloc w _) _) = wb
      have c1 : wb.cell? ⟨w.heap.size + 1, 0, none⟩ = some (.int .i64 (v + 1)) := by rw [← hW]; simp
      have c2 : wb.cell? ⟨w.heap.size + 1, 1, none⟩ = some (.bool true) := by rw [← hW]; simp
      have c3 : wb.cell? ⟨w.heap.size, 0, none⟩ = some (.int .i64 0) := by rw [← hW]; simp
      have c4 : wb.cell? ⟨w.heap.size, 1, none⟩ = some (.bool false) := by rw [← hW]; simp
      have c5 : wb.frozen? ⟨w.heap.size, 0, none⟩ = false := by rw [← hW]; simp
      have c6 : wb.frozen? ⟨w.heap.size, 1, none⟩ = false := by rw [← hW]; simp
      have hlt : w.heap.size + 1 < wb.heap.size := by rw [← hW]; simp
      have hB : Below w.heap.size w wb := by rw [← hW]; exact ((Below.refl _ _).alloc (Nat.le_refl _) _).alloc (by simp) _
      clear hW
      go_region_law ((go_simp; refine (hcall.out _).mono ?_; rintro e w2 ⟨rfl, hb⟩; have d1 := (hb.cell (p := ⟨w.heap.size + 1, 0, none⟩) hlt).trans c1; have d2 := (hb.cell (p := ⟨w.heap.size + 1, 1, none⟩) hlt).trans c2; have d3 := (hb.cell (p := ⟨w.heap.size, 0, none⟩) (Nat.lt_of_succ_lt hlt)).trans c3; have d4 := (hb.cell (p := ⟨w.heap.size, 1, none⟩) (Nat.lt_of_succ_lt hlt)).trans c4; have d5 := (hb.frozen (p := ⟨w.heap.size, 0, none⟩) (Nat.lt_of_succ_lt hlt)).trans c5; have d6 := (hb.frozen (p := ⟨w.heap.size, 1, none⟩) (Nat.lt_of_succ_lt hlt)).trans c6; have HB2 := Lib.hid (below_step hB.drew hb hB.size); clear hb))
      all_goals
        go_wp2
        refine bodyPost_ret (v := .tuple #[.agg #[.int .i64 (v + 1), .bool true], .bool (thS (v + 1, true))]) (by simp [results, Try.results17, go_sem, d3, d4]) rfl ⟨rfl, (HB2.out.setCell (p := ⟨w.heap.size, 0, none⟩) (Nat.le_refl _) _).setCell (p := ⟨w.heap.size, 1, none⟩) (Nat.le_refl _) _⟩
  · rw [e3] at e1
    rw [if_neg (by omega)] at ht
    have HH := Lib.hid e3
    clear e3
    subst ht
    rw [← HT.out]
    clear HT hq
    go_enter Try.func17, Try.ntmps17
    go_wp2
    generalize hW : (World.alloc (World.alloc w _) _) = wb
    have c1 : wb.cell? ⟨w.heap.size + 1, 0, none⟩ = some (.int .i64 (v)) := by rw [← hW]; simp
    have c2 : wb.cell? ⟨w.heap.size + 1, 1, none⟩ = some (.bool false) := by rw [← hW]; simp
    have c3 : wb.cell? ⟨w.heap.size, 0, none⟩ = some (.int .i64 0) := by rw [← hW]; simp
    have c4 : wb.cell? ⟨w.heap.size, 1, none⟩ = some (.bool false) := by rw [← hW]; simp
    have c5 : wb.frozen? ⟨w.heap.size, 0, none⟩ = false := by rw [← hW]; simp
    have c6 : wb.frozen? ⟨w.heap.size, 1, none⟩ = false := by rw [← hW]; simp
    have hlt : w.heap.size + 1 < wb.heap.size := by rw [← hW]; simp
    have hB : Below w.heap.size w wb := by rw [← hW]; exact ((Below.refl _ _).alloc (Nat.le_refl _) _).alloc (by simp) _
    clear hW
    go_region_law ((go_simp; refine (hcall.out _).mono ?_; rintro e w2 ⟨rfl, hb⟩; have d1 := (hb.cell (p := ⟨w.heap.size + 1, 0, none⟩) hlt).trans c1; have d2 := (hb.cell (p := ⟨w.heap.size + 1, 1, none⟩) hlt).trans c2; have d3 := (hb.cell (p := ⟨w.heap.size, 0, none⟩) (Nat.lt_of_succ_lt hlt)).trans c3; have d4 := (hb.cell (p := ⟨w.heap.size, 1, none⟩) (Nat.lt_of_succ_lt hlt)).trans c4; have d5 := (hb.frozen (p := ⟨w.heap.size, 0, none⟩) (Nat.lt_of_succ_lt hlt)).trans c5; have d6 := (hb.frozen (p := ⟨w.heap.size, 1, none⟩) (Nat.lt_of_succ_lt hlt)).trans c6; have HB2 := Lib.hid (below_step hB.drew hb hB.size); clear hb))
    all_goals
      go_wp2
      refine bodyPost_ret (v := .tuple #[.agg #[.int .i64 (v), .bool false], .bool (thS (v, false))]) (by simp [results, Try.results17, go_sem, d3, d4]) rfl ⟨rfl, (HB2.out.setCell (p := ⟨w.heap.size, 0, none⟩) (Nat.le_refl _) _).setCell (p := ⟨w.heap.size, 1, none⟩) (Nat.le_refl _) _⟩

/-- The throws of a pattern, paired up. -/
def puT (A : List Int) (k : Nat) : List Th := (List.range k).map fun j => bkV (gi A j) (decide (j % 2 = 1))
theorem puT_length (A : List Int) (k : Nat) : (puT A k).length = k := by simp [puT]
theorem puT_two (A : List Int) (k : Nat) : puT A ((k + 1) * 2) = puT A (k * 2) ++ [bkV (gi A (k * 2)) false, bkV (gi A (k * 2 + 1)) true] := by
  rw [show (k + 1) * 2 = k * 2 + 1 + 1 by omega]
  simp only [puT, List.range_succ, List.map_append, List.map_cons, List.map_nil, List.append_assoc, List.cons_append, List.nil_append]
  rw [decide_eq_false (show ¬ k * 2 % 2 = 1 by omega), decide_eq_true (show (k * 2 + 1) % 2 = 1 by omega)]
def dblP (p : List Int) : List Int := if p.length % 2 = 1 then p ++ p else p
def thA (A : List Int) : Bool := decide (∀ j, j < A.length → thS (bkV (gi A j) (decide (j % 2 = 1))) = true)
def puC (p : List Int) : Int := if validB p then (if 12 < (dblP p).length then 5 else if thA (dblP p) then 0 else 10) else 1
def puOk (p : List Int) : Bool := validB p && decide (¬ 12 < (dblP p).length) && thA (dblP p)
def puN (p : List Int) : Nat := if puOk p then (dblP p).length / 2 else 0
def puL (p : List Int) : List Th := if puOk p then puT (dblP p) ((dblP p).length / 2 * 2) else []
theorem pu_inv {p : List Int} (h : validB p = false) : puC p = 1 ∧ puN p = 0 ∧ puL p = [] := by simp [puC, puN, puL, puOk, h]
theorem pu_full {p : List Int} (h : validB p = true) (h2 : 12 < (dblP p).length) : puC p = 5 ∧ puN p = 0 ∧ puL p = [] := by simp [puC, puN, puL, puOk, h, h2]
theorem pu_lost {p A : List Int} (h : validB p = true) (hA : A = dblP p) (h2 : A.length ≤ 12) {j : Nat} (hj : j < A.length) (hf : thS (bkV (gi A j) (decide (j % 2 = 1))) = false) : puC p = 10 ∧ puN p = 0 ∧ puL p = [] := by
  subst hA
  have h3 : thA (dblP p) = false := decide_eq_false (fun hh => by have := hh j hj; rw [hf] at this; cases this)
  have h4 : ¬ 12 < (dblP p).length := by omega
  simp [puC, puN, puL, puOk, h, h3, h4]
theorem pu_good {p A : List Int} (h : validB p = true) (hA : A = dblP p) (h2 : A.length ≤ 12) (hf : ∀ j, j < A.length → thS (bkV (gi A j) (decide (j % 2 = 1))) = true) : puC p = 0 ∧ puN p = A.length / 2 ∧ puL p = puT A (A.length / 2 * 2) := by
  subst hA
  have h3 : thA (dblP p) = true := decide_eq_true hf
  have h4 : ¬ 12 < (dblP p).length := by omega
  simp [puC, puN, puL, puOk, h, h3, h4]
theorem gi_dbl {p : List Int} (h : ∀ j, j < p.length → 0 ≤ gi p j ∧ gi p j ≤ 15) : ∀ j, j < (p ++ p).length → 0 ≤ gi (p ++ p) j ∧ gi (p ++ p) j ≤ 15 := by
  intro j hj
  by_cases h1 : j < p.length
  · rw [show gi (p ++ p) j = gi p j by simp [gi, List.getElem?_append_left h1]]; exact h j h1
  · rw [show gi (p ++ p) j = gi p (j - p.length) by simp [gi, List.getElem?_append_right (Nat.le_of_not_lt h1)]]; exact h _ (by simp at hj; omega)
theorem nm2 (k : Nat) : (k : Int).tmod 2 = ((k % 2 : Nat) : Int) := by rw [Int.tmod_eq_emod_of_nonneg (by omega)]; omega
theorem dbl_even {p : List Int} (h : ¬ p.length % 2 = 1) : p = dblP p := by rw [dblP, if_neg h]
theorem dbl_odd {p : List Int} (h : p.length % 2 = 1) : p ++ p = dblP p := by rw [dblP, if_pos h]

set_option maxRecDepth 20000 in
set_option maxHeartbeats 8000000 in
theorem specPairUp_any (v : Value) (p : List Int) (w : World) (hp : Rd w v p) :
    Calls Try.prog 5 #[v] w fun e w' => ∃ u, e = .returned (.tuple #[u, .int .i64 (puC p)]) ∧ OwnT 40 2 w' w.heap.size w'.heap.size u (puN p) (puL p) ∧ Below w.heap.size w w' := by
  have hv0 := l02Ok_any v p w hp
  cases hval : validB p
  · rw [hval] at hv0
    have hv := Lib.hid hv0
    have HR := Lib.hid (pu_inv hval)
    clear hv0 hval
    go_enter Try.func5, Try.ntmps5
    go_wp2_with fail
    refine hv.out.mono ?_
    rintro e w' ⟨rfl, n, rfl⟩
    go_wp2
    go_ret2
    exact ⟨_, ret2 rfl (vint HR.out.1.symm), by rw [HR.out.2.1, HR.out.2.2]; exact ownT_nil _ _ _ _ _, below_dn _ _⟩
  · rw [hval] at hv0
    have hv := Lib.hid hv0
    obtain ⟨h1, h12, hbd⟩ := validB_true hval
    have Hval := Lib.hid hval
    have hown0 : Hid (∀ W, Below w.heap.size w W → Calls Try.prog 16 #[v] W fun e w' => ∃ u, e = .returned u ∧ Own w' W.heap.size w'.heap.size u p ∧ Below W.heap.size W w') := fun W hW => l00Own_any v p W (hp.below hW) h1
    have HP := Lib.hid hp
    obtain ⟨la, a0, ca0, rfl, ha⟩ := hp
    obtain ⟨ba0, oa0, rfl, hba0, hca0⟩ := ha (by omega)
    have HC0 := Lib.hid hca0
    have hm2 := nm2 p.length
    clear ha hv0 hval hca0
    by_cases hodd : p.length % 2 = 1
    · rw [hodd, Int.natCast_one] at hm2
      have HBD := Lib.hid (gi_dbl hbd)
      have HD := Lib.hid (dbl_odd hodd)
      have HL : Hid ((p ++ p).length = p.length + p.length) := List.length_append
      have HOD := Lib.hid hodd
      clear hbd hodd
      by_cases h6 : p.length ≤ 6
      · have HA12 : Hid ((p ++ p).length ≤ 12) := by show (p ++ p).length ≤ 12; rw [HL.out]; omega
        clear h6
        go_enter Try.func5, Try.ntmps5
        go_wp2_with fail
        refine hv.out.mono ?_
        rintro e w' ⟨rfl, nq, rfl⟩
        go_wp2_with fail
        refine (hown0.out _ (below_dn _ _)).mono ?_
        rintro e w1 ⟨u, rfl, hu, hb1⟩
        have HB1 := Lib.hid (below_step (below_dn w nq) hb1 (Nat.le_refl _))
        have HU := Lib.hid hu
        clear hb1 hu
        go_wp2_with (at_builtin; refine push_slice (zs := p) (ys := p) rfl _ _ rfl rfl rfl HU.out.2.1 (fun j hj => (HB1.out.cell (p := ⟨ba0, oa0 + j, none⟩) hba0).trans (HC0.out j hj)) HB1.out.size (by omega) ?_; intro v' wU hown' hb'; obtain ⟨A, hA⟩ : ∃ A, A = p ++ p := ⟨_, rfl⟩; rw [← hA] at hown' HBD HD HL HA12; have hA12 := HA12.out; have HUA := Lib.hid (own_of (by omega) hown'); obtain ⟨laA, ga, gc, hvA, haA⟩ := HUA.out.rd; subst hvA; have HBU := Lib.hid (HB1.out.trans hb'); have hE := Lib.hid (show A.length % 2 = 0 by rw [HL.out]; omega); have h1A := Lib.hid (show 1 ≤ A.length by rw [HL.out]; omega); clear hown' hb' hA)
        obtain ⟨ba, oa, hga, hba, hca⟩ := haA (by have := h1A.out; omega)
        subst hga
        have HCA := Lib.hid hca
        have hbU := HBU.out.size
        clear haA hca
        go_loopw [5, 6] (fun o i wr => ∃ k : Nat, k * 2 ≤ A.length ∧ i = .int .i64 ((k * 2 : Nat) : Int) ∧ (∀ j, j < k * 2 → thS (bkV (gi A j) (decide (j % 2 = 1))) = true) ∧ wr.ownsRow wU.heap.size 40 4 o k (cT (puT A (k * 2))) ∧ Below wU.heap.size wU wr) (fun _ i _ => A.length - (intOf i).toNat)
        case atStart => exact ⟨0, by omega, rfl, fun j hj => absurd hj (by omega), sync_made wU, below_sync wU⟩
        case round =>
          obtain ⟨k, hk, rfl, hth, hown, hB⟩ := hrel
          have HTH := Lib.hid hth
          have HOWN := Lib.hid (And.intro hown hB)
          clear hth hown
          obtain ⟨J, hJ⟩ : ∃ J, J = k * 2 := ⟨_, rfl⟩
          by_cases hlt : k * 2 < A.length
          · have hlt1 : k * 2 + 1 < A.length := by have := hE.out; omega
            have p1 := (hB.cell (p := ⟨ba, oa + k * 2, none⟩) hba).trans (HCA.out _ hlt)
            have p2 := (hB.cell (p := ⟨ba, oa + (k * 2 + 1), none⟩) hba).trans (HCA.out _ hlt1)
            have hbr : ba < wr.heap.size := Nat.lt_of_lt_of_le hba hB.size
            have b1 := HBD.out _ hlt
            have b2 := HBD.out _ hlt1
            have t1 := Lib.hid (fun W => l05Back_any (gi A (k * 2)) 0 false W b1.1 b1.2 rfl)
            have t2 := Lib.hid (fun W => l05Back_any (gi A (k * 2 + 1)) 1 true W b2.1 b2.2 rfl)
            have HS := Lib.hid (puT_two A k)
            have LX : Hid (thS (bkV (gi A (k * 2)) false) = false → puC p = 10 ∧ puN p = 0 ∧ puL p = []) := fun h => pu_lost Hval.out HD.out hA12 hlt (by rw [decide_eq_false (show ¬ k * 2 % 2 = 1 by omega)]; exact h)
            have LY : Hid (thS (bkV (gi A (k * 2 + 1)) true) = false → puC p = 10 ∧ puN p = 0 ∧ puL p = []) := fun h => pu_lost Hval.out HD.out hA12 hlt1 (by rw [decide_eq_true (show (k * 2 + 1) % 2 = 1 by omega)]; exact h)
            obtain ⟨x, hx⟩ : ∃ x, x = bkV (gi A (k * 2)) false := ⟨_, rfl⟩
            obtain ⟨y, hy⟩ : ∃ y, y = bkV (gi A (k * 2 + 1)) true := ⟨_, rfl⟩
            rw [← hx] at t1 HS LX
            rw [← hy] at t2 HS LY
            have HX := Lib.hid hx.symm
            have HY := Lib.hid hy.symm
            rw [← hJ] at t1 t2 p1 p2 ⊢
            have hJ1 : J < A.length := by omega
            have hJ2 : J + 1 < A.length := by omega
            have HJ := Lib.hid hJ
            clear b1 b2 hx hy hB hJ
            cases hb1 : thS x
            · rw [hb1] at t1
              have LO := Lib.hid (LX.out hb1)
              cases hb2 : thS y
              all_goals
                rw [hb2] at t2
                go_wp2_with fail
                refine (t1.out _).mono ?_
                rintro e w2 ⟨rfl, hb⟩
                have q2 : ∀ o, (w2.alloc o).cell? ⟨ba, oa + (J + 1), none⟩ = some (.int .i64 (gi A (J + 1))) := fun o => (((Below.refl w2.heap.size w2).alloc (Nat.le_refl _) o).cell (p := ⟨ba, oa + (J + 1), none⟩) (Nat.lt_of_lt_of_le hbr hb.size)).trans ((hb.cell (p := ⟨ba, oa + (J + 1), none⟩) hbr).trans p2)
                have HB2 := Lib.hid (below_step HOWN.out.2 hb HOWN.out.2.size)
                have HR2 := Lib.hid (row_below HOWN.out.1 hb)
                clear hb p1 p2
                go_wp2_with fail
                generalize hW : (World.alloc w2 _) = w3
                have c1 : w3.cell? ⟨w2.heap.size, 0, none⟩ = some (.int .i64 x.1) := by rw [← hW]; simp
                have c2 : w3.cell? ⟨w2.heap.size, 1, none⟩ = some (.bool x.2) := by rw [← hW]; simp
                have hlt3 : w2.heap.size < w3.heap.size := by rw [← hW]; simp
                have hB3 : Below w2.heap.size w2 w3 := by rw [← hW]; exact (Below.refl _ _).alloc (Nat.le_refl _) _
                clear hW
                refine (t2.out _).mono ?_
                rintro e w4 ⟨rfl, hb⟩
                have d1 : ∀ o, (w4.alloc o).cell? ⟨w2.heap.size, 0, none⟩ = some (.int .i64 x.1) := fun o => (((Below.refl w4.heap.size w4).alloc (Nat.le_refl _) o).cell (p := ⟨w2.heap.size, 0, none⟩) (Nat.lt_of_lt_of_le hlt3 hb.size)).trans ((hb.cell (p := ⟨w2.heap.size, 0, none⟩) hlt3).trans c1)
                have d2 : ∀ o, (w4.alloc o).cell? ⟨w2.heap.size, 1, none⟩ = some (.bool x.2) := fun o => (((Below.refl w4.heap.size w4).alloc (Nat.le_refl _) o).cell (p := ⟨w2.heap.size, 1, none⟩) (Nat.lt_of_lt_of_le hlt3 hb.size)).trans ((hb.cell (p := ⟨w2.heap.size, 1, none⟩) hlt3).trans c2)
                have HB4 : Hid (∀ o, Below wU.heap.size wU (w4.alloc o)) := fun o => (below_step HB2.out (below_step hB3 hb hB3.size) HB2.out.size).alloc (below_step HB2.out (below_step hB3 hb hB3.size) HB2.out.size).size o
                have HR4 : Hid (∀ o, (w4.alloc o).ownsRow wU.heap.size 40 4 u5 k (cT (puT A (k * 2)))) := fun o => row_below HR2.out ((below_step hB3 hb hB3.size).alloc (Nat.le_trans hB3.size hb.size) o)
                clear hb hB3 c1 c2 q2
                go_wp2
                go_ret2
                exact ⟨_, ret2 rfl (vint LO.out.1.symm), by rw [LO.out.2.1, LO.out.2.2]; exact ownT_nil _ _ _ _ _, below_step HBU.out (HB4.out _) HBU.out.size⟩
            · cases hb2 : thS y
              · rw [hb1] at t1
                rw [hb2] at t2
                have LO := Lib.hid (LY.out hb2)
                go_wp2_with fail
                refine (t1.out _).mono ?_
                rintro e w2 ⟨rfl, hb⟩
                have q2 : ∀ o, (w2.alloc o).cell? ⟨ba, oa + (J + 1), none⟩ = some (.int .i64 (gi A (J + 1))) := fun o => (((Below.refl w2.heap.size w2).alloc (Nat.le_refl _) o).cell (p := ⟨ba, oa + (J + 1), none⟩) (Nat.lt_of_lt_of_le hbr hb.size)).trans ((hb.cell (p := ⟨ba, oa + (J + 1), none⟩) hbr).trans p2)
                have HB2 := Lib.hid (below_step HOWN.out.2 hb HOWN.out.2.size)
                have HR2 := Lib.hid (row_below HOWN.out.1 hb)
                clear hb p1 p2
                go_wp2_with fail
                generalize hW : (World.alloc w2 _) = w3
                have c1 : w3.cell? ⟨w2.heap.size, 0, none⟩ = some (.int .i64 x.1) := by rw [← hW]; simp
                have c2 : w3.cell? ⟨w2.heap.size, 1, none⟩ = some (.bool x.2) := by rw [← hW]; simp
                have hlt3 : w2.heap.size < w3.heap.size := by rw [← hW]; simp
                have hB3 : Below w2.heap.size w2 w3 := by rw [← hW]; exact (Below.refl _ _).alloc (Nat.le_refl _) _
                clear hW
                refine (t2.out _).mono ?_
                rintro e w4 ⟨rfl, hb⟩
                have d1 : ∀ o, (w4.alloc o).cell? ⟨w2.heap.size, 0, none⟩ = some (.int .i64 x.1) := fun o => (((Below.refl w4.heap.size w4).alloc (Nat.le_refl _) o).cell (p := ⟨w2.heap.size, 0, none⟩) (Nat.lt_of_lt_of_le hlt3 hb.size)).trans ((hb.cell (p := ⟨w2.heap.size, 0, none⟩) hlt3).trans c1)
                have d2 : ∀ o, (w4.alloc o).cell? ⟨w2.heap.size, 1, none⟩ = some (.bool x.2) := fun o => (((Below.refl w4.heap.size w4).alloc (Nat.le_refl _) o).cell (p := ⟨w2.heap.size, 1, none⟩) (Nat.lt_of_lt_of_le hlt3 hb.size)).trans ((hb.cell (p := ⟨w2.heap.size, 1, none⟩) hlt3).trans c2)
                have HB4 : Hid (∀ o, Below wU.heap.size wU (w4.alloc o)) := fun o => (below_step HB2.out (below_step hB3 hb hB3.size) HB2.out.size).alloc (below_step HB2.out (below_step hB3 hb hB3.size) HB2.out.size).size o
                have HR4 : Hid (∀ o, (w4.alloc o).ownsRow wU.heap.size 40 4 u5 k (cT (puT A (k * 2)))) := fun o => row_below HR2.out ((below_step hB3 hb hB3.size).alloc (Nat.le_trans hB3.size hb.size) o)
                clear hb hB3 c1 c2 q2
                go_wp2
                go_ret2
                exact ⟨_, ret2 rfl (vint LO.out.1.symm), by rw [LO.out.2.1, LO.out.2.2]; exact ownT_nil _ _ _ _ _, below_step HBU.out (HB4.out _) HBU.out.size⟩
              · rw [hb1] at t1
                rw [hb2] at t2
                go_wp2_with fail
                refine (t1.out _).mono ?_
                rintro e w2 ⟨rfl, hb⟩
                have q2 : ∀ o, (w2.alloc o).cell? ⟨ba, oa + (J + 1), none⟩ = some (.int .i64 (gi A (J + 1))) := fun o => (((Below.refl w2.heap.size w2).alloc (Nat.le_refl _) o).cell (p := ⟨ba, oa + (J + 1), none⟩) (Nat.lt_of_lt_of_le hbr hb.size)).trans ((hb.cell (p := ⟨ba, oa + (J + 1), none⟩) hbr).trans p2)
                have HB2 := Lib.hid (below_step HOWN.out.2 hb HOWN.out.2.size)
                have HR2 := Lib.hid (row_below HOWN.out.1 hb)
                clear hb p1 p2
                go_wp2_with fail
                generalize hW : (World.alloc w2 _) = w3
                have c1 : w3.cell? ⟨w2.heap.size, 0, none⟩ = some (.int .i64 x.1) := by rw [← hW]; simp
                have c2 : w3.cell? ⟨w2.heap.size, 1, none⟩ = some (.bool x.2) := by rw [← hW]; simp
                have hlt3 : w2.heap.size < w3.heap.size := by rw [← hW]; simp
                have hB3 : Below w2.heap.size w2 w3 := by rw [← hW]; exact (Below.refl _ _).alloc (Nat.le_refl _) _
                clear hW
                refine (t2.out _).mono ?_
                rintro e w4 ⟨rfl, hb⟩
                have d1 : ∀ o, (w4.alloc o).cell? ⟨w2.heap.size, 0, none⟩ = some (.int .i64 x.1) := fun o => (((Below.refl w4.heap.size w4).alloc (Nat.le_refl _) o).cell (p := ⟨w2.heap.size, 0, none⟩) (Nat.lt_of_lt_of_le hlt3 hb.size)).trans ((hb.cell (p := ⟨w2.heap.size, 0, none⟩) hlt3).trans c1)
                have d2 : ∀ o, (w4.alloc o).cell? ⟨w2.heap.size, 1, none⟩ = some (.bool x.2) := fun o => (((Below.refl w4.heap.size w4).alloc (Nat.le_refl _) o).cell (p := ⟨w2.heap.size, 1, none⟩) (Nat.lt_of_lt_of_le hlt3 hb.size)).trans ((hb.cell (p := ⟨w2.heap.size, 1, none⟩) hlt3).trans c2)
                have HB4 : Hid (∀ o, Below wU.heap.size wU (w4.alloc o)) := fun o => (below_step HB2.out (below_step hB3 hb hB3.size) HB2.out.size).alloc (below_step HB2.out (below_step hB3 hb hB3.size) HB2.out.size).size o
                have HR4 : Hid (∀ o, (w4.alloc o).ownsRow wU.heap.size 40 4 u5 k (cT (puT A (k * 2)))) := fun o => row_below HR2.out ((below_step hB3 hb hB3.size).alloc (Nat.le_trans hB3.size hb.size) o)
                clear hb hB3 c1 c2 q2
                go_wp2_with (at_builtin; refine push_sync (x := x) (y := y) rfl _ _ rfl rfl (w4.heap.size + 1) rfl (by simp) (HR4.out _) (HB4.out _).size (by omega) ?_; intro v' w' hown' hb')
                go_roundw
                case rel =>
                  refine ⟨k + 1, by omega, vint (by have := HJ.out; omega), fun j hj => ?_, by rw [HS.out]; exact hown', (HB4.out _).trans hb'⟩
                  by_cases hj1 : j < k * 2
                  · exact HTH.out j hj1
                  · by_cases hj2 : j = k * 2
                    · rw [hj2, decide_eq_false (show ¬ k * 2 % 2 = 1 by omega), HX.out]; exact hb1
                    · rw [show j = k * 2 + 1 by omega, decide_eq_true (show (k * 2 + 1) % 2 = 1 by omega), HY.out]; exact hb2
                case measure => simp [intOf]; omega
          · have hk2 : k * 2 = A.length := by omega
            have HG := Lib.hid (pu_good Hval.out HD.out hA12 (by rw [← hk2]; exact HTH.out))
            have HK := Lib.hid (show A.length / 2 = k by omega)
            rw [← hJ] at ⊢ hlt
            have hJA : ¬ J < A.length := hlt
            clear hk2 hB hJ
            go_wp2
            go_ret2
            exact ⟨_, ret2 rfl (vint HG.out.1.symm), by rw [HG.out.2.1, HG.out.2.2, HK.out]; exact (ownT_of (by rw [puT_length]) (by omega) HOWN.out.1).mono hbU (Nat.le_refl _), below_step HBU.out HOWN.out.2 hbU⟩
      · have HA12 : Hid (12 < (p ++ p).length) := by show 12 < (p ++ p).length; rw [HL.out]; omega
        have HR := Lib.hid (pu_full Hval.out (by rw [← HD.out]; exact HA12.out))
        clear h6
        go_enter Try.func5, Try.ntmps5
        go_wp2_with fail
        refine hv.out.mono ?_
        rintro e w' ⟨rfl, nq, rfl⟩
        go_wp2_with fail
        refine (hown0.out _ (below_dn _ _)).mono ?_
        rintro e w1 ⟨u, rfl, hu, hb1⟩
        have HB1 := Lib.hid (below_step (below_dn w nq) hb1 (Nat.le_refl _))
        have HU := Lib.hid hu
        clear hb1 hu
        go_wp2_with (at_builtin; refine push_slice (zs := p) (ys := p) rfl _ _ rfl rfl rfl HU.out.2.1 (fun j hj => (HB1.out.cell (p := ⟨ba0, oa0 + j, none⟩) hba0).trans (HC0.out j hj)) HB1.out.size (by omega) ?_; intro v' wU hown' hb'; obtain ⟨A, hA⟩ : ∃ A, A = p ++ p := ⟨_, rfl⟩; rw [← hA] at hown' HBD HD HL HA12; have hA12 := HA12.out; have HUA := Lib.hid (own_of (by have := HL.out; omega) hown'); obtain ⟨laA, ga, gc, hvA, haA⟩ := HUA.out.rd; subst hvA; have HBU := Lib.hid (HB1.out.trans hb'); clear hown' hb' hA)
        go_ret2
        exact ⟨_, ret2 rfl (vint HR.out.1.symm), by rw [HR.out.2.1, HR.out.2.2]; exact ownT_nil _ _ _ _ _, HBU.out⟩
    · have HBD := Lib.hid hbd
      have HD := Lib.hid (dbl_even hodd)
      have he2 : p.length % 2 = 0 := by omega
      rw [he2, Int.natCast_zero] at hm2
      have hE0 := Lib.hid he2
      have h10 := Lib.hid h1
      have h120 := Lib.hid h12
      clear hodd he2
      go_enter Try.func5, Try.ntmps5
      go_wp2_with fail
      refine hv.out.mono ?_
      rintro e w' ⟨rfl, nq, rfl⟩
      go_wp2_with fail
      refine (hown0.out _ (below_dn _ _)).mono ?_
      rintro e wU ⟨u, rfl, hu, hb1⟩
      have HBU := Lib.hid (below_step (below_dn w nq) hb1 (Nat.le_refl _))
      obtain ⟨laA, ga, gc, hvA, haA⟩ := hu.rd
      subst hvA
      clear hb1 hu
      have hE := hE0
      have h1A := h10
      have hA12 := h120.out
      obtain ⟨ba, oa, hga, hba, hca⟩ := haA (by have := h1A.out; omega)
      subst hga
      clear h1 h12 la haA
      go_wp2
      have HCA := Lib.hid hca
      have hbU := HBU.out.size
      clear hca
      go_loopw [5, 6] (fun o i wr => ∃ k : Nat, k * 2 ≤ p.length ∧ i = .int .i64 ((k * 2 : Nat) : Int) ∧ (∀ j, j < k * 2 → thS (bkV (gi p j) (decide (j % 2 = 1))) = true) ∧ wr.ownsRow wU.heap.size 40 4 o k (cT (puT p (k * 2))) ∧ Below wU.heap.size wU wr) (fun _ i _ => p.length - (intOf i).toNat)
      case atStart => exact ⟨0, by omega, rfl, fun j hj => absurd hj (by omega), sync_made wU, below_sync wU⟩
      case round =>
        obtain ⟨k, hk, rfl, hth, hown, hB⟩ := hrel
        have HTH := Lib.hid hth
        have HOWN := Lib.hid (And.intro hown hB)
        clear hth hown
        obtain ⟨J, hJ⟩ : ∃ J, J = k * 2 := ⟨_, rfl⟩
        by_cases hlt : k * 2 < p.length
        · have hlt1 : k * 2 + 1 < p.length := by have := hE.out; omega
          have p1 := (hB.cell (p := ⟨ba, oa + k * 2, none⟩) hba).trans (HCA.out _ hlt)
          have p2 := (hB.cell (p := ⟨ba, oa + (k * 2 + 1), none⟩) hba).trans (HCA.out _ hlt1)
          have hbr : ba < wr.heap.size := Nat.lt_of_lt_of_le hba hB.size
          have b1 := HBD.out _ hlt
          have b2 := HBD.out _ hlt1
          have t1 := Lib.hid (fun W => l05Back_any (gi p (k * 2)) 0 false W b1.1 b1.2 rfl)
          have t2 := Lib.hid (fun W => l05Back_any (gi p (k * 2 + 1)) 1 true W b2.1 b2.2 rfl)
          have HS := Lib.hid (puT_two p k)
          have LX : Hid (thS (bkV (gi p (k * 2)) false) = false → puC p = 10 ∧ puN p = 0 ∧ puL p = []) := fun h => pu_lost Hval.out HD.out hA12 hlt (by rw [decide_eq_false (show ¬ k * 2 % 2 = 1 by omega)]; exact h)
          have LY : Hid (thS (bkV (gi p (k * 2 + 1)) true) = false → puC p = 10 ∧ puN p = 0 ∧ puL p = []) := fun h => pu_lost Hval.out HD.out hA12 hlt1 (by rw [decide_eq_true (show (k * 2 + 1) % 2 = 1 by omega)]; exact h)
          obtain ⟨x, hx⟩ : ∃ x, x = bkV (gi p (k * 2)) false := ⟨_, rfl⟩
          obtain ⟨y, hy⟩ : ∃ y, y = bkV (gi p (k * 2 + 1)) true := ⟨_, rfl⟩
          rw [← hx] at t1 HS LX
          rw [← hy] at t2 HS LY
          have HX := Lib.hid hx.symm
          have HY := Lib.hid hy.symm
          rw [← hJ] at t1 t2 p1 p2 ⊢
          have hJ1 : J < p.length := by omega
          have hJ2 : J + 1 < p.length := by omega
          have HJ := Lib.hid hJ
          clear b1 b2 hx hy hB hJ
          cases hb1 : thS x
          · rw [hb1] at t1
            have LO := Lib.hid (LX.out hb1)
            cases hb2 : thS y
            all_goals
              rw [hb2] at t2
              go_wp2_with fail
              refine (t1.out _).mono ?_
              rintro e w2 ⟨rfl, hb⟩
              have q2 : ∀ o, (w2.alloc o).cell? ⟨ba, oa + (J + 1), none⟩ = some (.int .i64 (gi p (J + 1))) := fun o => (((Below.refl w2.heap.size w2).alloc (Nat.le_refl _) o).cell (p := ⟨ba, oa + (J + 1), none⟩) (Nat.lt_of_lt_of_le hbr hb.size)).trans ((hb.cell (p := ⟨ba, oa + (J + 1), none⟩) hbr).trans p2)
              have HB2 := Lib.hid (below_step HOWN.out.2 hb HOWN.out.2.size)
              have HR2 := Lib.hid (row_below HOWN.out.1 hb)
              clear hb p1 p2
              go_wp2_with fail
              generalize hW : (World.alloc w2 _) = w3
              have c1 : w3.cell? ⟨w2.heap.size, 0, none⟩ = some (.int .i64 x.1) := by rw [← hW]; simp
              have c2 : w3.cell? ⟨w2.heap.size, 1, none⟩ = some (.bool x.2) := by rw [← hW]; simp
              have hlt3 : w2.heap.size < w3.heap.size := by rw [← hW]; simp
              have hB3 : Below w2.heap.size w2 w3 := by rw [← hW]; exact (Below.refl _ _).alloc (Nat.le_refl _) _
              clear hW
              refine (t2.out _).mono ?_
              rintro e w4 ⟨rfl, hb⟩
              have d1 : ∀ o, (w4.alloc o).cell? ⟨w2.heap.size, 0, none⟩ = some (.int .i64 x.1) := fun o => (((Below.refl w4.heap.size w4).alloc (Nat.le_refl _) o).cell (p := ⟨w2.heap.size, 0, none⟩) (Nat.lt_of_lt_of_le hlt3 hb.size)).trans ((hb.cell (p := ⟨w2.heap.size, 0, none⟩) hlt3).trans c1)
              have d2 : ∀ o, (w4.alloc o).cell? ⟨w2.heap.size, 1, none⟩ = some (.bool x.2) := fun o => (((Below.refl w4.heap.size w4).alloc (Nat.le_refl _) o).cell (p := ⟨w2.heap.size, 1, none⟩) (Nat.lt_of_lt_of_le hlt3 hb.size)).trans ((hb.cell (p := ⟨w2.heap.size, 1, none⟩) hlt3).trans c2)
              have HB4 : Hid (∀ o, Below wU.heap.size wU (w4.alloc o)) := fun o => (below_step HB2.out (below_step hB3 hb hB3.size) HB2.out.size).alloc (below_step HB2.out (below_step hB3 hb hB3.size) HB2.out.size).size o
              have HR4 : Hid (∀ o, (w4.alloc o).ownsRow wU.heap.size 40 4 u5 k (cT (puT p (k * 2)))) := fun o => row_below HR2.out ((below_step hB3 hb hB3.size).alloc (Nat.le_trans hB3.size hb.size) o)
              clear hb hB3 c1 c2 q2
              go_wp2
              go_ret2
              exact ⟨_, ret2 rfl (vint LO.out.1.symm), by rw [LO.out.2.1, LO.out.2.2]; exact ownT_nil _ _ _ _ _, below_step HBU.out (HB4.out _) HBU.out.size⟩
          · cases hb2 : thS y
            · rw [hb1] at t1
              rw [hb2] at t2
              have LO := Lib.hid (LY.out hb2)
              go_wp2_with fail
              refine (t1.out _).mono ?_
              rintro e w2 ⟨rfl, hb⟩
              have q2 : ∀ o, (w2.alloc o).cell? ⟨ba, oa + (J + 1), none⟩ = some (.int .i64 (gi p (J + 1))) := fun o => (((Below.refl w2.heap.size w2).alloc (Nat.le_refl _) o).cell (p := ⟨ba, oa + (J + 1), none⟩) (Nat.lt_of_lt_of_le hbr hb.size)).trans ((hb.cell (p := ⟨ba, oa + (J + 1), none⟩) hbr).trans p2)
              have HB2 := Lib.hid (below_step HOWN.out.2 hb HOWN.out.2.size)
              have HR2 := Lib.hid (row_below HOWN.out.1 hb)
              clear hb p1 p2
              go_wp2_with fail
              generalize hW : (World.alloc w2 _) = w3
              have c1 : w3.cell? ⟨w2.heap.size, 0, none⟩ = some (.int .i64 x.1) := by rw [← hW]; simp
              have c2 : w3.cell? ⟨w2.heap.size, 1, none⟩ = some (.bool x.2) := by rw [← hW]; simp
              have hlt3 : w2.heap.size < w3.heap.size := by rw [← hW]; simp
              have hB3 : Below w2.heap.size w2 w3 := by rw [← hW]; exact (Below.refl _ _).alloc (Nat.le_refl _) _
              clear hW
              refine (t2.out _).mono ?_
              rintro e w4 ⟨rfl, hb⟩
              have d1 : ∀ o, (w4.alloc o).cell? ⟨w2.heap.size, 0, none⟩ = some (.int .i64 x.1) := fun o => (((Below.refl w4.heap.size w4).alloc (Nat.le_refl _) o).cell (p := ⟨w2.heap.size, 0, none⟩) (Nat.lt_of_lt_of_le hlt3 hb.size)).trans ((hb.cell (p := ⟨w2.heap.size, 0, none⟩) hlt3).trans c1)
              have d2 : ∀ o, (w4.alloc o).cell? ⟨w2.heap.size, 1, none⟩ = some (.bool x.2) := fun o => (((Below.refl w4.heap.size w4).alloc (Nat.le_refl _) o).cell (p := ⟨w2.heap.size, 1, none⟩) (Nat.lt_of_lt_of_le hlt3 hb.size)).trans ((hb.cell (p := ⟨w2.heap.size, 1, none⟩) hlt3).trans c2)
              have HB4 : Hid (∀ o, Below wU.heap.size wU (w4.alloc o)) := fun o => (below_step HB2.out (below_step hB3 hb hB3.size) HB2.out.size).alloc (below_step HB2.out (below_step hB3 hb hB3.size) HB2.out.size).size o
              have HR4 : Hid (∀ o, (w4.alloc o).ownsRow wU.heap.size 40 4 u5 k (cT (puT p (k * 2)))) := fun o => row_below HR2.out ((below_step hB3 hb hB3.size).alloc (Nat.le_trans hB3.size hb.size) o)
              clear hb hB3 c1 c2 q2
              go_wp2
              go_ret2
              exact ⟨_, ret2 rfl (vint LO.out.1.symm), by rw [LO.out.2.1, LO.out.2.2]; exact ownT_nil _ _ _ _ _, below_step HBU.out (HB4.out _) HBU.out.size⟩
            · rw [hb1] at t1
              rw [hb2] at t2
              go_wp2_with fail
              refine (t1.out _).mono ?_
              rintro e w2 ⟨rfl, hb⟩
              have q2 : ∀ o, (w2.alloc o).cell? ⟨ba, oa + (J + 1), none⟩ = some (.int .i64 (gi p (J + 1))) := fun o => (((Below.refl w2.heap.size w2).alloc (Nat.le_refl _) o).cell (p := ⟨ba, oa + (J + 1), none⟩) (Nat.lt_of_lt_of_le hbr hb.size)).trans ((hb.cell (p := ⟨ba, oa + (J + 1), none⟩) hbr).trans p2)
              have HB2 := Lib.hid (below_step HOWN.out.2 hb HOWN.out.2.size)
              have HR2 := Lib.hid (row_below HOWN.out.1 hb)
              clear hb p1 p2
              go_wp2_with fail
              generalize hW : (World.alloc w2 _) = w3
              have c1 : w3.cell? ⟨w2.heap.size, 0, none⟩ = some (.int .i64 x.1) := by rw [← hW]; simp
              have c2 : w3.cell? ⟨w2.heap.size, 1, none⟩ = some (.bool x.2) := by rw [← hW]; simp
              have hlt3 : w2.heap.size < w3.heap.size := by rw [← hW]; simp
              have hB3 : Below w2.heap.size w2 w3 := by rw [← hW]; exact (Below.refl _ _).alloc (Nat.le_refl _) _
              clear hW
              refine (t2.out _).mono ?_
              rintro e w4 ⟨rfl, hb⟩
              have d1 : ∀ o, (w4.alloc o).cell? ⟨w2.heap.size, 0, none⟩ = some (.int .i64 x.1) := fun o => (((Below.refl w4.heap.size w4).alloc (Nat.le_refl _) o).cell (p := ⟨w2.heap.size, 0, none⟩) (Nat.lt_of_lt_of_le hlt3 hb.size)).trans ((hb.cell (p := ⟨w2.heap.size, 0, none⟩) hlt3).trans c1)
              have d2 : ∀ o, (w4.alloc o).cell? ⟨w2.heap.size, 1, none⟩ = some (.bool x.2) := fun o => (((Below.refl w4.heap.size w4).alloc (Nat.le_refl _) o).cell (p := ⟨w2.heap.size, 1, none⟩) (Nat.lt_of_lt_of_le hlt3 hb.size)).trans ((hb.cell (p := ⟨w2.heap.size, 1, none⟩) hlt3).trans c2)
              have HB4 : Hid (∀ o, Below wU.heap.size wU (w4.alloc o)) := fun o => (below_step HB2.out (below_step hB3 hb hB3.size) HB2.out.size).alloc (below_step HB2.out (below_step hB3 hb hB3.size) HB2.out.size).size o
              have HR4 : Hid (∀ o, (w4.alloc o).ownsRow wU.heap.size 40 4 u5 k (cT (puT p (k * 2)))) := fun o => row_below HR2.out ((below_step hB3 hb hB3.size).alloc (Nat.le_trans hB3.size hb.size) o)
              clear hb hB3 c1 c2 q2
              go_wp2_with (at_builtin; refine push_sync (x := x) (y := y) rfl _ _ rfl rfl (w4.heap.size + 1) rfl (by simp) (HR4.out _) (HB4.out _).size (by omega) ?_; intro v' w' hown' hb')
              go_roundw
              case rel =>
                refine ⟨k + 1, by omega, vint (by have := HJ.out; omega), fun j hj => ?_, by rw [HS.out]; exact hown', (HB4.out _).trans hb'⟩
                by_cases hj1 : j < k * 2
                · exact HTH.out j hj1
                · by_cases hj2 : j = k * 2
                  · rw [hj2, decide_eq_false (show ¬ k * 2 % 2 = 1 by omega), HX.out]; exact hb1
                  · rw [show j = k * 2 + 1 by omega, decide_eq_true (show (k * 2 + 1) % 2 = 1 by omega), HY.out]; exact hb2
              case measure => simp [intOf]; omega
        · have hk2 : k * 2 = p.length := by omega
          have HG := Lib.hid (pu_good Hval.out HD.out hA12 (by rw [← hk2]; exact HTH.out))
          have HK := Lib.hid (show p.length / 2 = k by omega)
          rw [← hJ] at ⊢ hlt
          have hJA : ¬ J < p.length := hlt
          clear hk2 hB hJ
          go_wp2
          go_ret2
          exact ⟨_, ret2 rfl (vint HG.out.1.symm), by rw [HG.out.2.1, HG.out.2.2, HK.out]; exact (ownT_of (by rw [puT_length]) (by omega) HOWN.out.1).mono hbU (Nat.le_refl _), below_step HBU.out HOWN.out.2 hbU⟩
end Go.Proofs.Ytncfnbkddpdedaa
