/-
  Contracts of the functions on patterns of two jugglers (chapter 6), seventh part: the jugglers apart. No condition beyond each contract's own.
-/
import Derived.Test.YtfepgbpblbccbaaP6
import Derived.Deep.RegionHeld3
namespace Go.Proofs.Ytfepgbpblbccbaa
open Go.ChangeShapes Go.WideShapes Go.ChangeAt Go.RowKit


noncomputable def apB (A B : List Th) : Bool := vpB A B && npB A && npB B
noncomputable def apV (A B : List Th) : List Int := if apB A B then vaL A A.length else []
noncomputable def apW (A B : List Th) : List Int := if apB A B then vaL B B.length else []
noncomputable def apC (A B : List Th) : Int := if vpB A B then (if apB A B then 0 else 10) else 1

set_option maxHeartbeats 4000000 in
theorem specApart_any (a b : Value) (A B : List Th) (w : World) (h : RdP w a b A B) :
    Calls Try.prog 31 #[.agg #[a, b]] w fun e w' => ∃ u1 u2 mid, e = .returned (.tuple #[u1, u2, .int .i64 (apC A B)]) ∧ Own w' w.heap.size mid u1 (apV A B) ∧ Own w' mid w'.heap.size u2 (apW A B) ∧ w.heap.size ≤ mid ∧ mid ≤ w'.heap.size ∧ Below w.heap.size w w' := by
  obtain ⟨⟨s1, c1, rfl⟩, s2, c2, rfl⟩ := h.form
  have hv0 := l06Ok_any _ A B _ (rdQ_box h)
  cases hval : vpB A B
  · rw [hval] at hv0
    have hv := Lib.hid hv0
    clear hv0 h
    go_enter Try.func31, Try.ntmps31
    go_wp2_with fail
    refine hv.out.mono ?_
    rintro e w' ⟨rfl, hb⟩
    have HB := Lib.hid (below_step (box_below _ _) hb (by simp))
    clear hb
    go_wp2
    go_ret3
    have hap : apB A B = false := by rw [apB, hval]; rfl
    refine ⟨_, _, w.heap.size, ret3 rfl rfl (vint (by rw [apC, hval]; rfl)), ?_, ?_, Nat.le_refl _, HB.out.size, HB.out⟩
    · rw [apV, hap]; exact own_nil _ _ _
    · rw [apW, hap]; exact own_nil _ _ _
  · rw [hval] at hv0
    have hv := Lib.hid hv0
    clear hv0
    obtain ⟨h1, h8, hAB, hbA, hbB⟩ := shB_true (vpB_ok hval)
    have HAB := Lib.hid hAB
    have hB1 : 1 ≤ B.length := by omega
    have hB8 : B.length ≤ 8 := by omega
    clear hAB
    have Hval := Lib.hid hval
    clear hval
    have HR := Lib.hid (And.intro h.1 h.2)
    clear h hbA hbB
    have t1 : Hid (∀ W, Below w.heap.size w W → Calls Try.prog 61 #[.slice s1 A.length c1] W fun e w' => ∃ u, e = .returned (.tuple #[u, .bool (npB A)]) ∧ Own w' W.heap.size w'.heap.size u (alL A) ∧ Below W.heap.size W w') := fun W hW => l06Alone_any _ A W (HR.out.1.below hW) h8
    have t2 : Hid (∀ W, Below w.heap.size w W → Calls Try.prog 61 #[.slice s2 B.length c2] W fun e w' => ∃ u, e = .returned (.tuple #[u, .bool (npB B)]) ∧ Own w' W.heap.size w'.heap.size u (alL B) ∧ Below W.heap.size W w') := fun W hW => l06Alone_any _ B W (HR.out.2.below hW) hB8
    cases e1 : npB A <;> cases e2 : npB B
    all_goals
      rw [e1] at t1
      rw [e2] at t2
      have hap : apB A B = (true && npB A && npB B) := by rw [apB, Hval.out]
      rw [e1, e2] at hap
      have HAP := Lib.hid (And.intro hap (And.intro e1 e2))
      clear hap e1 e2
      go_enter Try.func31, Try.ntmps31
      go_wp2_with fail
      refine hv.out.mono ?_
      rintro e w1 ⟨rfl, hb⟩
      obtain ⟨hcc, hzz⟩ := bcell hb
      have k0 : w1.cell? ⟨w.heap.size, 0, none⟩ = some (.slice s1 A.length c1) := (hcc _ _ (by simp)).trans (by simp)
      have k1 : w1.cell? ⟨w.heap.size, 1, none⟩ = some (.slice s2 B.length c2) := (hcc _ _ (by simp)).trans (by simp)
      have hB := below_step (box_below _ _) hb (by simp)
      have hlt0 : w.heap.size < w1.heap.size := by have := hb.size; simp at this; omega
      clear hcc hzz hb
      go_wp2_with fail
      refine (t1.out _ hB).mono ?_
      rintro e w2 ⟨u1, rfl, ho1, hb2⟩
      have q1 := (hb2.cell (p := ⟨w.heap.size, 1, none⟩) hlt0).trans k1
      have hB2 := below_step hB hb2 hB.size
      have HS := Lib.hid (And.intro hlt0 hb2.size)
      clear k0 k1 hb2 hB
      go_wp2_with fail
      refine (t2.out _ hB2).mono ?_
      rintro e w3 ⟨u2, rfl, ho2, hb3⟩
      have HF := Lib.hid (And.intro ((ho1.mono (lo' := w.heap.size) (Nat.le_of_lt HS.out.1) (Nat.le_refl _)).below hb3) (And.intro ho2 (And.intro (below_step hB2 hb3 hB2.size) hb3.size)))
      clear ho1 ho2 hb3 hB2
      go_wp2
      go_ret3
      refine ⟨_, _, w2.heap.size, ret3 rfl rfl (vint (by rw [apC, Hval.out, HAP.out.1]; rfl)), ?_, ?_, Nat.le_of_lt (Nat.lt_of_lt_of_le HS.out.1 HS.out.2), HF.out.2.2.2, HF.out.2.2.1⟩
      · rw [apV, HAP.out.1]
        first
        | exact own_nil _ _ _
        | (have h9 := HF.out.1; rw [alL, if_pos (of_decide_eq_true HAP.out.2.1)] at h9; exact h9)
      · rw [apW, HAP.out.1]
        first
        | exact own_nil _ _ _
        | (have h9 := HF.out.2.1; rw [alL, if_pos (of_decide_eq_true HAP.out.2.2)] at h9; exact h9)

set_option maxHeartbeats 4000000 in
theorem implApart_any (a b : Value) (A B : List Th) (w : World) (h : RdP w a b A B) :
    Calls Try.prog 32 #[.agg #[a, b]] w fun e w' => ∃ u1 u2 mid, e = .returned (.tuple #[u1, u2, .int .i64 (apC A B)]) ∧ Own w' w.heap.size mid u1 (apV A B) ∧ Own w' mid w'.heap.size u2 (apW A B) ∧ w.heap.size ≤ mid ∧ mid ≤ w'.heap.size ∧ Below w.heap.size w w' := by
  obtain ⟨⟨s1, c1, rfl⟩, s2, c2, rfl⟩ := h.form
  have hv0 := implValidP_any _ _ A B (w.alloc (.cells #[.slice s1 A.length c1, .slice s2 B.length c2] 29)) (h.below (box_below _ _))
  cases hval : vpB A B
  · rw [hval] at hv0
    have hv := Lib.hid hv0
    clear hv0 h
    go_enter Try.func32, Try.ntmps32
    go_wp2_with fail
    refine hv.out.mono ?_
    rintro e w' ⟨rfl, hb⟩
    have HB := Lib.hid (below_step (box_below _ _) hb (by simp))
    clear hb
    go_wp2
    go_ret3
    have hap : apB A B = false := by rw [apB, hval]; rfl
    refine ⟨_, _, w.heap.size, ret3 rfl rfl (vint (by rw [apC, hval]; rfl)), ?_, ?_, Nat.le_refl _, HB.out.size, HB.out⟩
    · rw [apV, hap]; exact own_nil _ _ _
    · rw [apW, hap]; exact own_nil _ _ _
  · rw [hval] at hv0
    have hv := Lib.hid hv0
    clear hv0
    obtain ⟨h1, h8, hAB, hbA, hbB⟩ := shB_true (vpB_ok hval)
    have HAB := Lib.hid hAB
    have hB1 : 1 ≤ B.length := by omega
    have hB8 : B.length ≤ 8 := by omega
    clear hAB
    have Hval := Lib.hid hval
    clear hval
    have HR := Lib.hid (And.intro h.1 h.2)
    clear hbA hbB
    have t1 : Hid (∀ W, Below w.heap.size w W → Calls Try.prog 62 #[.slice s1 A.length c1] W fun e w' => ∃ u, e = .returned u ∧ Own w' W.heap.size w'.heap.size u (pbL A A.length) ∧ Below W.heap.size W w') := fun W hW => passBeats_any _ A W (HR.out.1.below hW) h8
    have t2 : Hid (∀ W, Below w.heap.size w W → Calls Try.prog 62 #[.slice s2 B.length c2] W fun e w' => ∃ u, e = .returned u ∧ Own w' W.heap.size w'.heap.size u (pbL B B.length) ∧ Below W.heap.size W w') := fun W hW => passBeats_any _ B W (HR.out.2.below hW) hB8
    have t3 : Hid (∀ W, Below w.heap.size w W → Calls Try.prog 63 #[.slice s1 A.length c1] W fun e w' => ∃ u, e = .returned u ∧ Own w' W.heap.size w'.heap.size u (vaL A A.length) ∧ Below W.heap.size W w') := fun W hW => valuesOf_any _ A W (HR.out.1.below hW) h8
    have t4 : Hid (∀ W, Below w.heap.size w W → Calls Try.prog 63 #[.slice s2 B.length c2] W fun e w' => ∃ u, e = .returned u ∧ Own w' W.heap.size w'.heap.size u (vaL B B.length) ∧ Below W.heap.size W w') := fun W hW => valuesOf_any _ B W (HR.out.2.below hW) hB8
    clear h
    have l1 := pbL_length A A.length
    have l2 := pbL_length B B.length
    have n1 := npB_len A
    have n2 := npB_len B
    have hsum : IntKind.i64.wrap (((pbL A A.length).length : Int) + ((pbL B B.length).length : Int)) = ((pbL A A.length).length : Int) + ((pbL B B.length).length : Int) := IntWalk.i64_in _ (by omega)
    by_cases hz : (pbL A A.length).length = 0 ∧ (pbL B B.length).length = 0
    rotate_left
    · have hap : Hid (apB A B = false) := by
        show apB A B = false
        rw [apB, Hval.out, n1, n2]
        by_cases hz1 : (pbL A A.length).length = 0
        · rw [decide_eq_false (show ¬ (pbL B B.length).length = 0 from fun h => hz ⟨hz1, h⟩)]; simp
        · rw [decide_eq_false hz1]; simp
      have hd : decide ((0 : Int) < ((pbL A A.length).length : Int) + ((pbL B B.length).length : Int)) = true := decide_eq_true (by omega)
      clear n1 n2 hz l1 l2
      go_enter Try.func32, Try.ntmps32
      go_wp2_with fail
      refine hv.out.mono ?_
      rintro e w1 ⟨rfl, hb⟩
      obtain ⟨hcc, hzz⟩ := bcell hb
      have k0 : w1.cell? ⟨w.heap.size, 0, none⟩ = some (.slice s1 A.length c1) := (hcc _ _ (by simp)).trans (by simp)
      have k1 : w1.cell? ⟨w.heap.size, 1, none⟩ = some (.slice s2 B.length c2) := (hcc _ _ (by simp)).trans (by simp)
      have hB := below_step (box_below _ _) hb (by simp)
      have hlt0 : w.heap.size < w1.heap.size := by have := hb.size; simp at this; omega
      clear hcc hzz hb
      have hBd := hB.drew
      go_wp2
      go_region_held3 (fun w' => w'.cell? ⟨w.heap.size, 0, none⟩ = some (.slice s1 A.length c1) ∧ w'.cell? ⟨w.heap.size, 1, none⟩ = some (.slice s2 B.length c2))
        (first
          | go_keep
          | (go_split_ands
             refine ⟨?_, ?_⟩ <;> (rw [hb2.cell (p := ⟨w.heap.size, _, none⟩) hlt0]; assumption))
          | (go_split_ands
             refine ⟨?_, ?_⟩ <;> (rw [hb3.cell (p := ⟨w.heap.size, _, none⟩) hlt2]; assumption)))
        (first
          | (go_at_call_of 62 (Value.slice s1 A.length c1); (with_reducible refine (t1.out _ hBd).mono ?_); rintro e w2 ⟨u2, rfl, ho2, hb2⟩; obtain ⟨_, ga2, gc2, hgv2, _⟩ := ho2.rd; subst hgv2; have hlt2 : w.heap.size < w2.heap.size := Nat.lt_of_lt_of_le hlt0 hb2.size; have hB2 := below_step hBd hb2 hBd.size)
          | (go_at_call_of 62 (Value.slice s2 B.length c2); (with_reducible refine (t2.out _ hB2).mono ?_); rintro e w3 ⟨u3, rfl, ho3, hb3⟩; obtain ⟨_, ga3, gc3, hgv3, _⟩ := ho3.rd; subst hgv3))
      have HF := Lib.hid (below_step hB2 hb3 hB2.size)
      clear ho2 ho3 hb2 hb3 hB2
      go_wp2
      go_ret3
      refine ⟨_, _, w.heap.size, ret3 rfl rfl (vint (by rw [apC, Hval.out, hap.out]; rfl)), ?_, ?_, Nat.le_refl _, HF.out.size, HF.out⟩
      · rw [apV, hap.out]; exact own_nil _ _ _
      · rw [apW, hap.out]; exact own_nil _ _ _
    · have hap : Hid (apB A B = true) := by
        show apB A B = true
        rw [apB, Hval.out, n1, n2, decide_eq_true hz.1, decide_eq_true hz.2]; rfl
      have hd : decide ((0 : Int) < ((pbL A A.length).length : Int) + ((pbL B B.length).length : Int)) = false := decide_eq_false (by omega)
      clear n1 n2 hz l1 l2
      go_enter Try.func32, Try.ntmps32
      go_wp2_with fail
      refine hv.out.mono ?_
      rintro e w1 ⟨rfl, hb⟩
      obtain ⟨hcc, hzz⟩ := bcell hb
      have k0 : w1.cell? ⟨w.heap.size, 0, none⟩ = some (.slice s1 A.length c1) := (hcc _ _ (by simp)).trans (by simp)
      have k1 : w1.cell? ⟨w.heap.size, 1, none⟩ = some (.slice s2 B.length c2) := (hcc _ _ (by simp)).trans (by simp)
      have hB := below_step (box_below _ _) hb (by simp)
      have hlt0 : w.heap.size < w1.heap.size := by have := hb.size; simp at this; omega
      clear hcc hzz hb
      have hBd := hB.drew
      go_wp2
      go_region_held3 (fun w' => w'.cell? ⟨w.heap.size, 0, none⟩ = some (.slice s1 A.length c1) ∧ w'.cell? ⟨w.heap.size, 1, none⟩ = some (.slice s2 B.length c2))
        (first
          | go_keep
          | (go_split_ands
             refine ⟨?_, ?_⟩ <;> (rw [hb2.cell (p := ⟨w.heap.size, _, none⟩) hlt0]; assumption))
          | (go_split_ands
             refine ⟨?_, ?_⟩ <;> (rw [hb3.cell (p := ⟨w.heap.size, _, none⟩) hlt2]; assumption)))
        (first
          | (go_at_call_of 62 (Value.slice s1 A.length c1); (with_reducible refine (t1.out _ hBd).mono ?_); rintro e w2 ⟨u2, rfl, ho2, hb2⟩; obtain ⟨_, ga2, gc2, hgv2, _⟩ := ho2.rd; subst hgv2; have hlt2 : w.heap.size < w2.heap.size := Nat.lt_of_lt_of_le hlt0 hb2.size; have hB2 := below_step hBd hb2 hBd.size)
          | (go_at_call_of 62 (Value.slice s2 B.length c2); (with_reducible refine (t2.out _ hB2).mono ?_); rintro e w3 ⟨u3, rfl, ho3, hb3⟩; obtain ⟨_, ga3, gc3, hgv3, _⟩ := ho3.rd; subst hgv3))
      have hB3 := below_step hB2 hb3 hB2.size
      have hlt3 : w.heap.size < w3.heap.size := Nat.lt_of_lt_of_le hlt2 hb3.size
      have q0 := (hb3.cell (p := ⟨w.heap.size, 0, none⟩) hlt2).trans ((hb2.cell (p := ⟨w.heap.size, 0, none⟩) hlt0).trans k0)
      have q1 := (hb3.cell (p := ⟨w.heap.size, 1, none⟩) hlt2).trans ((hb2.cell (p := ⟨w.heap.size, 1, none⟩) hlt0).trans k1)
      clear ho2 ho3 hb2 hb3 hB2 hBd hB k0 k1 hlt2 hlt0
      have hBd := hB3.drew
      go_wp2
      go_region_held3 (fun w' => w'.cell? ⟨w.heap.size, 0, none⟩ = some (.slice s1 A.length c1) ∧ w'.cell? ⟨w.heap.size, 1, none⟩ = some (.slice s2 B.length c2))
        (first
          | go_keep
          | (go_split_ands
             refine ⟨?_, ?_⟩ <;> (rw [hb4.cell (p := ⟨w.heap.size, _, none⟩) hlt3]; assumption))
          | (go_split_ands
             refine ⟨?_, ?_⟩ <;> (rw [hb5.cell (p := ⟨w.heap.size, _, none⟩) hlt4]; assumption)))
        (first
          | (go_at_call_of 63 (Value.slice s1 A.length c1); (with_reducible refine (t3.out _ hBd).mono ?_); rintro e w4 ⟨u4, rfl, ho4, hb4⟩; obtain ⟨_, ga4, gc4, hgv4, _⟩ := ho4.rd; subst hgv4; have hlt4 : w.heap.size < w4.heap.size := Nat.lt_of_lt_of_le hlt3 hb4.size; have hB4 := below_step hBd hb4 hBd.size)
          | (go_at_call_of 63 (Value.slice s2 B.length c2); (with_reducible refine (t4.out _ hB4).mono ?_); rintro e w5 ⟨u5, rfl, ho5, hb5⟩; obtain ⟨_, ga5, gc5, hgv5, _⟩ := ho5.rd; subst hgv5))
      have HF := Lib.hid (And.intro ((ho4.mono (lo' := w.heap.size) (Nat.le_of_lt hlt3) (Nat.le_refl _)).below hb5) (And.intro ho5 (And.intro (below_step hB4 hb5 hB4.size) (And.intro hlt4 hb5.size))))
      clear ho4 ho5 hb4 hb5 hB4
      go_wp2
      go_ret3
      refine ⟨_, _, w4.heap.size, ret3 rfl rfl (vint (by rw [apC, Hval.out, hap.out]; rfl)), ?_, ?_, Nat.le_of_lt HF.out.2.2.2.1, HF.out.2.2.2.2, HF.out.2.2.1⟩
      · rw [apV, hap.out]; exact HF.out.1
      · rw [apW, hap.out]; exact HF.out.2.1
end Go.Proofs.Ytfepgbpblbccbaa
