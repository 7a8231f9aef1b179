/-
  Contracts of the functions on synchronous patterns (chapter 5), sixth part: stars. No condition beyond each contract's own.
-/
import Derived.Test.YtfeihkpaigadkaaY4
namespace Go.Proofs.Ytfeihkpaigadkaa
open Go.ChangeShapes Go.WideShapes Go.ChangeAt Go.RowKit


/-- 'append(out, ys...)' of beats onto a slice of the call's own. -/
theorem push_syncs {ops : Array Oper} {rest : List Oper} {o : Oper} {a : Act} {Q : Exit → Act → World → Prop} {w : World} {lo n m : Nat} {v : Value} {T S : List Th} {b off c : Nat}
    (hgd : o.guard = none) (s xo : Operand) (ho : o.op = .call { callee := .builtin .append, args := #[s, xo], argTypes := #[22, 22] })
    (hs : a.eval s = v) (hx : a.eval xo = .slice (some ⟨b, off, none⟩) m c) (hown : w.ownsRow lo 35 4 v n (cT T)) (hS : S.length = m * 2)
    (hc : ∀ k, k < m * 2 → w.cell? ⟨b, off + 2 * k, none⟩ = some (.int .i64 (gt S k).1) ∧ w.cell? ⟨b, off + (2 * k + 1), none⟩ = some (.bool (gt S k).2)) (hlo : lo ≤ w.heap.size) (hl : n + m ≤ 1000000000)
    (h : ∀ v' w', w'.ownsRow lo 35 4 v' (n + m) (cT (T ++ S)) → Below lo w w' → wpList Try.prog ops Q rest (a.put o.dst v') w') :
    wpList Try.prog ops Q (o :: rest) a w := by
  obtain ⟨i0, hi, hz0, hz1, hz2⟩ := info_parts Try.infoSync
  refine wpList_append_own _ hgd s xo 22 ho lo 35 i0 _ 4 32 Try.underlying22 hi hz0 hz1 hz2 rfl (by decide) v n _ hs hown ⟨b, off, none⟩ m c (cT S) hx (by rw [cT_length, hS]; omega) ?_ (cT_one _) (by unfold maxLen; omega) (by omega) hlo ?_
  · intro j u hu
    have hj : j < 2 * S.length := by
      have := (List.getElem?_eq_some_iff.1 hu).1
      rwa [cT_length] at this
    rw [Addr.add_lit]
    by_cases hp : j % 2 = 0
    · rw [show j = 2 * (j / 2) by omega, (hc (j / 2) (by omega)).1]
      rw [show j = 2 * (j / 2) by omega, cT_v (by omega)] at hu
      exact hu
    · rw [show j = 2 * (j / 2) + 1 by omega, (hc (j / 2) (by omega)).2]
      rw [show j = 2 * (j / 2) + 1 by omega, cT_x (by omega)] at hu
      exact hu
  intro v' w' hown' hg _
  rw [← cT_append] at hown'
  exact h v' w' hown' ((Below.refl _ _).grown hg (by omega) (fun k hk => by have := (hown.lt k hk).1; omega))

theorem mirT_app (T : List Th) (n : Nat) (h : T.length = n * 2) : (T ++ mirT T n).length = (n + n) * 2 := by simp [mirT_length, h]; omega

set_option maxHeartbeats 4000000 in
theorem specStarSync_any (v : Value) (n : Nat) (T : List Th) (w : World) (hp : RdT 2 w v n T) :
    Calls Try.prog 10 #[v] w fun e w' => ∃ u, e = .returned (.tuple #[u, .int .i64 (stC T n)]) ∧ OwnT 35 2 w' w.heap.size w'.heap.size u (stN T n) (stL T n) ∧ Below w.heap.size w w' := by
  have hv0 := l05List_any v n T w hp
  cases hok : okY T n
  · rw [hok] at hv0
    have hv := Lib.hid hv0
    clear hv0
    have hst : stB T n = false := by rw [stB, hok]; rfl
    go_enter Try.func10, Try.ntmps10
    go_wp2_with fail
    refine hv.out.mono ?_
    rintro e w' ⟨rfl, hb⟩
    go_wp2
    go_ret2
    exact ⟨_, ret2 rfl (vint (by rw [stC, hok]; rfl)), by rw [stN, stL, hst]; exact ownT_nil _ _ _ _ _, hb⟩
  · rw [hok] at hv0
    have hv := Lib.hid hv0
    clear hv0
    obtain ⟨h1, h6, hth⟩ := okY_true hok
    clear hth
    have Hok := Lib.hid hok
    clear hok
    have hm : Hid (∀ W, Below w.heap.size w W → Calls Try.prog 19 #[v] W fun e w' => ∃ u, e = .returned u ∧ OwnT 35 2 w' W.heap.size w'.heap.size u n (mirT T n) ∧ Below W.heap.size W w') := fun W hB => l05Mirror_any v n T W (hp.below hB) h6
    obtain ⟨m, hmm⟩ : ∃ m : Nat, m = n + n := ⟨_, rfl⟩
    have hval : Hid (∀ u W, RdT 2 W u m (T ++ mirT T n) → Calls Try.prog 11 #[u] W fun e w' => e = .returned (.bool (validY (T ++ mirT T n) (n + n))) ∧ Below W.heap.size W w') := fun u W h => by rw [← hmm]; exact l05Ok_any u _ _ W h
    obtain ⟨hT, la, a, ca, rfl, ha⟩ := hp
    obtain ⟨ba, oa, rfl, hba, hca⟩ := ha (by omega)
    clear ha
    have hTT := Lib.hid (mirT_app T n hT)
    have hm12 : m ≤ 12 := by omega
    have Hmm := Lib.hid hmm
    have hle : n * 2 ≤ 6 ∨ 6 < n * 2 := by omega
    rcases hle with hle | hle
    rotate_left
    · have hm6 : 6 < m := by omega
      clear hmm
      have hst : stB T n = false := by rw [stB, decide_eq_false (show ¬ n * 2 ≤ 6 by omega)]; simp
      have hsc : stC T n = 5 := by rw [stC, if_pos Hok.out, if_neg (show ¬ n * 2 ≤ 6 by omega)]
      have HS := Lib.hid (And.intro hst hsc)
      clear hst hsc
      go_enter Try.func10, Try.ntmps10
      go_wp2_with fail
      refine hv.out.mono ?_
      rintro e w1 ⟨rfl, hb⟩
      go_wp2
      go_ret2
      exact ⟨_, ret2 rfl (vint HS.out.2.symm), by rw [stN, stL, HS.out.1]; exact ownT_nil _ _ _ _ _, hb⟩

    have hm6 : m ≤ 6 := by omega
    clear hmm
    cases hst : validY (T ++ mirT T n) (n + n)
    all_goals
      have hst1 : stB T n = validY (T ++ mirT T n) (n + n) := by rw [stB, Hok.out, decide_eq_true hle]; simp
      have hsc1 : stC T n = if validY (T ++ mirT T n) (n + n) then 0 else 9 := by rw [stC, if_pos Hok.out, if_pos hle]
      rw [hst] at hst1 hsc1 hval
      have HS := Lib.hid (And.intro hst1 hsc1)
      clear hst hst1 hsc1
      go_enter Try.func10, Try.ntmps10
      go_wp2_with fail
      refine hv.out.mono ?_
      rintro e w1 ⟨rfl, hb⟩
      have hs1 := hb.size
      have c1 : ∀ k, k < n * 2 → (w1.alloc (Obj.cells #[] 35)).cell? ⟨ba, oa + 2 * k, none⟩ = some (.int .i64 (gt T k).1) ∧ (w1.alloc (Obj.cells #[] 35)).cell? ⟨ba, oa + (2 * k + 1), none⟩ = some (.bool (gt T k).2) := fun k hk =>
        have hbl := below_step hb (below_sync w1) hb.size
        ⟨(hbl.cell (p := ⟨ba, _, none⟩) hba).trans (hca k hk).1, (hbl.cell (p := ⟨ba, _, none⟩) hba).trans (hca k hk).2⟩
      have C1 := Lib.hid c1
      have R1 := Lib.hid (row_mono (sync_made w1) hs1)
      have B1 := Lib.hid (below_step hb (below_sync w1) hb.size)
      clear c1
      go_wp2_with (at_builtin; refine push_syncs (S := T) rfl _ _ rfl rfl rfl R1.out hT C1.out B1.out.size (by omega) ?_; intro v2 w2 hown2 hb2)
      rw [Nat.zero_add, show ([] : List Th) ++ T = T from rfl] at hown2
      have hB2 := B1.out.trans hb2
      refine (hm.out _ hB2).mono ?_
      rintro e w3 ⟨u, rfl, hu, hb3⟩
      obtain ⟨_, _, ga, gc, hgv, hg⟩ := hu.rd
      subst hgv
      obtain ⟨bu, ou, rfl, hbu, hcu⟩ := hg (by omega)
      have hown3 := row_below hown2 hb3
      have hB3 := below_step hB2 hb3 hB2.size
      have HX := Lib.hid (And.intro hown3 (And.intro hB3 (And.intro hcu hu.1)))
      clear hown2 hb2 hB2 hb3 hu hown3 hB3 hcu hg hb
      go_wp2_with (at_builtin; refine push_syncs (S := mirT T n) rfl _ _ rfl rfl rfl HX.out.1 HX.out.2.2.2 HX.out.2.2.1 HX.out.2.1.size (by omega) ?_; intro v4 w4 hown4 hb4'; rw [← Hmm.out] at hown4; obtain ⟨g4, cap4, rfl, _, _⟩ := hown4.form (by have := Hmm.out; omega); have HOWN4 := Lib.hid hown4; have HB4' := Lib.hid hb4'; clear hown4 hb4')
      have hown4 := HOWN4.out
      have hb4' := HB4'.out
      have hb4 := HX.out.2.1.trans hb4'
      have hTT2 := hTT.out
      rw [← Hmm.out] at hTT2
      have hO := ownT_of (m := 2) hTT2 (by omega) hown4
      clear hTT2
      clear hown4 hb4'

      go_wp2_with fail
      refine (hval.out _ _ hO.rd).mono ?_
      rintro e w5 ⟨rfl, hb5⟩
      have HF := Lib.hid (And.intro hO (And.intro hb4 hb5))
      clear hO hb4 hb5
      go_wp2
      go_ret2
    · exact ⟨_, ret2 rfl (vint (by rw [HS.out.2]; rfl)), by rw [stN, stL, HS.out.1]; exact ownT_nil _ _ _ _ _, below_step HF.out.2.1 HF.out.2.2 HF.out.2.1.size⟩
    · exact ⟨_, ret2 rfl (vint (by rw [HS.out.2]; rfl)), by rw [stN, stL, HS.out.1, if_pos rfl, if_pos rfl, ← Hmm.out]; exact (HF.out.1.below HF.out.2.2).mono (Nat.le_refl _) HF.out.2.2.size, below_step HF.out.2.1 HF.out.2.2 HF.out.2.1.size⟩

set_option maxHeartbeats 4000000 in
theorem implStarSync_any (v : Value) (n : Nat) (T : List Th) (w : World) (hp : RdT 2 w v n T) :
    Calls Try.prog 13 #[v] w fun e w' => ∃ u, e = .returned (.tuple #[u, .int .i64 (stC T n)]) ∧ OwnT 35 2 w' w.heap.size w'.heap.size u (stN T n) (stL T n) ∧ Below w.heap.size w w' := by
  have hv0 := areSyncBeats_any v n T w hp
  cases hok : okY T n
  · rw [hok] at hv0
    have hv := Lib.hid hv0
    clear hv0
    have hst : stB T n = false := by rw [stB, hok]; rfl
    go_enter Try.func13, Try.ntmps13
    go_wp2_with fail
    refine hv.out.mono ?_
    rintro e w' ⟨rfl, hb⟩
    go_wp2
    go_ret2
    exact ⟨_, ret2 rfl (vint (by rw [stC, hok]; rfl)), by rw [stN, stL, hst]; exact ownT_nil _ _ _ _ _, hb⟩
  · rw [hok] at hv0
    have hv := Lib.hid hv0
    clear hv0
    obtain ⟨h1, h6, hth⟩ := okY_true hok
    clear hth
    have Hok := Lib.hid hok
    clear hok
    have hm : Hid (∀ W, Below w.heap.size w W → Calls Try.prog 24 #[v] W fun e w' => ∃ u, e = .returned u ∧ OwnT 35 2 w' W.heap.size w'.heap.size u n (mirT T n) ∧ Below W.heap.size W w') := fun W hB => mirrored_any v n T W (hp.below hB) h6
    obtain ⟨m, hmm⟩ : ∃ m : Nat, m = n + n := ⟨_, rfl⟩
    have hval : Hid (∀ u W, RdT 2 W u m (T ++ mirT T n) → Calls Try.prog 14 #[u] W fun e w' => e = .returned (.bool (validY (T ++ mirT T n) (n + n))) ∧ Below W.heap.size W w') := fun u W h => by rw [← hmm]; exact implValidSync_any u _ _ W h
    obtain ⟨hT, la, a, ca, rfl, ha⟩ := hp
    obtain ⟨ba, oa, rfl, hba, hca⟩ := ha (by omega)
    clear ha
    have hTT := Lib.hid (mirT_app T n hT)
    have hm12 : m ≤ 12 := by omega
    have Hmm := Lib.hid hmm
    have hle : n * 2 ≤ 6 ∨ 6 < n * 2 := by omega
    rcases hle with hle | hle
    rotate_left
    · have hm6 : 6 < m := by omega
      clear hmm
      have hst : stB T n = false := by rw [stB, decide_eq_false (show ¬ n * 2 ≤ 6 by omega)]; simp
      have hsc : stC T n = 5 := by rw [stC, if_pos Hok.out, if_neg (show ¬ n * 2 ≤ 6 by omega)]
      have HS := Lib.hid (And.intro hst hsc)
      clear hst hsc
      go_enter Try.func13, Try.ntmps13
      go_wp2_with fail
      refine hv.out.mono ?_
      rintro e w1 ⟨rfl, hb⟩
      have hs1 := hb.size
      have c1 : ∀ k, k < n * 2 → (w1.alloc (Obj.cells #[] 35)).cell? ⟨ba, oa + 2 * k, none⟩ = some (.int .i64 (gt T k).1) ∧ (w1.alloc (Obj.cells #[] 35)).cell? ⟨ba, oa + (2 * k + 1), none⟩ = some (.bool (gt T k).2) := fun k hk =>
        have hbl := below_step hb (below_sync w1) hb.size
        ⟨(hbl.cell (p := ⟨ba, _, none⟩) hba).trans (hca k hk).1, (hbl.cell (p := ⟨ba, _, none⟩) hba).trans (hca k hk).2⟩
      have C1 := Lib.hid c1
      have R1 := Lib.hid (row_mono (sync_made w1) hs1)
      have B1 := Lib.hid (below_step hb (below_sync w1) hb.size)
      clear c1
      go_wp2_with (at_builtin; refine push_syncs (S := T) rfl _ _ rfl rfl rfl R1.out hT C1.out B1.out.size (by omega) ?_; intro v2 w2 hown2 hb2)
      rw [Nat.zero_add, show ([] : List Th) ++ T = T from rfl] at hown2
      have hB2 := B1.out.trans hb2
      refine (hm.out _ hB2).mono ?_
      rintro e w3 ⟨u, rfl, hu, hb3⟩
      obtain ⟨_, _, ga, gc, hgv, hg⟩ := hu.rd
      subst hgv
      obtain ⟨bu, ou, rfl, hbu, hcu⟩ := hg (by omega)
      have hown3 := row_below hown2 hb3
      have hB3 := below_step hB2 hb3 hB2.size
      have HX := Lib.hid (And.intro hown3 (And.intro hB3 (And.intro hcu hu.1)))
      clear hown2 hb2 hB2 hb3 hu hown3 hB3 hcu hg hb
      go_wp2_with (at_builtin; refine push_syncs (S := mirT T n) rfl _ _ rfl rfl rfl HX.out.1 HX.out.2.2.2 HX.out.2.2.1 HX.out.2.1.size (by omega) ?_; intro v4 w4 hown4 hb4'; rw [← Hmm.out] at hown4; obtain ⟨g4, cap4, rfl, _, _⟩ := hown4.form (by have := Hmm.out; omega); have HOWN4 := Lib.hid hown4; have HB4' := Lib.hid hb4'; clear hown4 hb4')
      have hown4 := HOWN4.out
      have hb4' := HB4'.out
      have hb4 := HX.out.2.1.trans hb4'
      have hTT2 := hTT.out
      rw [← Hmm.out] at hTT2
      have hO := ownT_of (m := 2) hTT2 (by omega) hown4
      clear hTT2
      clear hown4 hb4'
      clear hO
      have HB4 := Lib.hid hb4
      clear hb4
      go_wp2
      go_ret2
      exact ⟨_, ret2 rfl (vint HS.out.2.symm), by rw [stN, stL, HS.out.1]; exact ownT_nil _ _ _ _ _, HB4.out⟩

    have hm6 : m ≤ 6 := by omega
    clear hmm
    cases hst : validY (T ++ mirT T n) (n + n)
    all_goals
      have hst1 : stB T n = validY (T ++ mirT T n) (n + n) := by rw [stB, Hok.out, decide_eq_true hle]; simp
      have hsc1 : stC T n = if validY (T ++ mirT T n) (n + n) then 0 else 9 := by rw [stC, if_pos Hok.out, if_pos hle]
      rw [hst] at hst1 hsc1 hval
      have HS := Lib.hid (And.intro hst1 hsc1)
      clear hst hst1 hsc1
      go_enter Try.func13, Try.ntmps13
      go_wp2_with fail
      refine hv.out.mono ?_
      rintro e w1 ⟨rfl, hb⟩
      have hs1 := hb.size
      have c1 : ∀ k, k < n * 2 → (w1.alloc (Obj.cells #[] 35)).cell? ⟨ba, oa + 2 * k, none⟩ = some (.int .i64 (gt T k).1) ∧ (w1.alloc (Obj.cells #[] 35)).cell? ⟨ba, oa + (2 * k + 1), none⟩ = some (.bool (gt T k).2) := fun k hk =>
        have hbl := below_step hb (below_sync w1) hb.size
        ⟨(hbl.cell (p := ⟨ba, _, none⟩) hba).trans (hca k hk).1, (hbl.cell (p := ⟨ba, _, none⟩) hba).trans (hca k hk).2⟩
      have C1 := Lib.hid c1
      have R1 := Lib.hid (row_mono (sync_made w1) hs1)
      have B1 := Lib.hid (below_step hb (below_sync w1) hb.size)
      clear c1
      go_wp2_with (at_builtin; refine push_syncs (S := T) rfl _ _ rfl rfl rfl R1.out hT C1.out B1.out.size (by omega) ?_; intro v2 w2 hown2 hb2)
      rw [Nat.zero_add, show ([] : List Th) ++ T = T from rfl] at hown2
      have hB2 := B1.out.trans hb2
      refine (hm.out _ hB2).mono ?_
      rintro e w3 ⟨u, rfl, hu, hb3⟩
      obtain ⟨_, _, ga, gc, hgv, hg⟩ := hu.rd
      subst hgv
      obtain ⟨bu, ou, rfl, hbu, hcu⟩ := hg (by omega)
      have hown3 := row_below hown2 hb3
      have hB3 := below_step hB2 hb3 hB2.size
      have HX := Lib.hid (And.intro hown3 (And.intro hB3 (And.intro hcu hu.1)))
      clear hown2 hb2 hB2 hb3 hu hown3 hB3 hcu hg hb
      go_wp2_with (at_builtin; refine push_syncs (S := mirT T n) rfl _ _ rfl rfl rfl HX.out.1 HX.out.2.2.2 HX.out.2.2.1 HX.out.2.1.size (by omega) ?_; intro v4 w4 hown4 hb4'; rw [← Hmm.out] at hown4; obtain ⟨g4, cap4, rfl, _, _⟩ := hown4.form (by have := Hmm.out; omega); have HOWN4 := Lib.hid hown4; have HB4' := Lib.hid hb4'; clear hown4 hb4')
      have hown4 := HOWN4.out
      have hb4' := HB4'.out
      have hb4 := HX.out.2.1.trans hb4'
      have hTT2 := hTT.out
      rw [← Hmm.out] at hTT2
      have hO := ownT_of (m := 2) hTT2 (by omega) hown4
      clear hTT2
      clear hown4 hb4'

      go_wp2_with fail
      refine (hval.out _ _ hO.rd).mono ?_
      rintro e w5 ⟨rfl, hb5⟩
      have HF := Lib.hid (And.intro hO (And.intro hb4 hb5))
      clear hO hb4 hb5
      go_wp2
      go_ret2
    · exact ⟨_, ret2 rfl (vint (by rw [HS.out.2]; rfl)), by rw [stN, stL, HS.out.1]; exact ownT_nil _ _ _ _ _, below_step HF.out.2.1 HF.out.2.2 HF.out.2.1.size⟩
    · exact ⟨_, ret2 rfl (vint (by rw [HS.out.2]; rfl)), by rw [stN, stL, HS.out.1, if_pos rfl, if_pos rfl, ← Hmm.out]; exact (HF.out.1.below HF.out.2.2).mono (Nat.le_refl _) HF.out.2.2.size, below_step HF.out.2.1 HF.out.2.2 HF.out.2.1.size⟩
end Go.Proofs.Ytfeihkpaigadkaa
