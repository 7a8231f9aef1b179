/-
  Contracts of the functions on synchronous patterns (chapter 5), first part: throws, lists of beats, landings. No condition beyond each contract's own.
-/
import Derived.Test.YtfeihkpaigadkaaYplain
import Derived.Test.YtfeihkpaigadkaaYhelp2
namespace Go.Proofs.Ytfeihkpaigadkaa
open Go.ChangeShapes Go.WideShapes Go.ChangeAt Go.RowKit


set_option maxHeartbeats 400000 in
theorem isSyncThrow_any (a : Int) (x : Bool) (w : World) : Calls Try.prog 32 #[.agg #[.int .i64 a, .bool x]] w fun e w' => e = .returned (.bool (thS (a, x))) ∧ Below w.heap.size w w' := by
  cases h1 : btw a 0 14
  · go_enter Try.func32, Try.ntmps32
    go_wp2_with (go_at_call 33; refine (between_any _ _ _ _).mono ?_; rintro e w' ⟨rfl, rfl⟩)
    go_ret
    exact ⟨ret_bool (by simp only [thS, h1]; rfl), (Below.refl _ _).alloc (Nat.le_refl _) _⟩
  · have ha := btw_iff.1 h1
    have e1 : a.tmod 2 = a % 2 := Int.tmod_eq_emod_of_nonneg ha.1
    cases h2 : (a % 2 == 0) <;> cases h3 : decide (0 < a) <;> cases x
    all_goals
      go_enter Try.func32, Try.ntmps32
      go_wp2_with (go_at_call 33; refine (between_any _ _ _ _).mono ?_; rintro e w' ⟨rfl, rfl⟩)
      go_ret
      exact ⟨ret_bool (by simp only [thS, h1, h2, h3]; rfl), (Below.refl _ _).alloc (Nat.le_refl _) _⟩

set_option maxHeartbeats 400000 in
theorem l05Throw_any (a : Int) (x : Bool) (w : World) : Calls Try.prog 28 #[.agg #[.int .i64 a, .bool x]] w fun e w' => e = .returned (.bool (thS (a, x))) ∧ Below w.heap.size w w' := by
  cases h1 : btw a 0 14
  · go_enter Try.func28, Try.ntmps28
    go_wp2_with (go_at_call 29; refine (l00In_any _ _ _ _).mono ?_; rintro e w' ⟨rfl, rfl⟩)
    go_ret
    exact ⟨ret_bool (by simp only [thS, h1]; rfl), (Below.refl _ _).alloc (Nat.le_refl _) _⟩
  · have ha := btw_iff.1 h1
    have e1 : a.tmod 2 = a % 2 := Int.tmod_eq_emod_of_nonneg ha.1
    cases h2 : (a % 2 == 0) <;> cases h3 : decide (0 < a) <;> cases x
    all_goals
      go_enter Try.func28, Try.ntmps28
      go_wp2_with (go_at_call 29; refine (l00In_any _ _ _ _).mono ?_; rintro e w' ⟨rfl, rfl⟩)
      go_ret
      exact ⟨ret_bool (by simp only [thS, h1, h2, h3]; rfl), (Below.refl _ _).alloc (Nat.le_refl _) _⟩

/-- The cells of throw k, told by its beat and hand. -/
theorem cells2 {w : World} {b o n : Nat} {T : List Th} (h : ∀ k, k < n * 2 → w.cell? ⟨b, o + 2 * k, none⟩ = some (.int .i64 (gt T k).1) ∧ w.cell? ⟨b, o + (2 * k + 1), none⟩ = some (.bool (gt T k).2)) {k : Nat} (hk : k < n * 2) :
    (k % 2 = 0 → w.cell? ⟨b, o + k / 2 * 4, none⟩ = some (.int .i64 (gt T k).1) ∧ w.cell? ⟨b, o + k / 2 * 4 + 1, none⟩ = some (.bool (gt T k).2)) ∧
    (¬ k % 2 = 0 → w.cell? ⟨b, o + k / 2 * 4 + 2, none⟩ = some (.int .i64 (gt T k).1) ∧ w.cell? ⟨b, o + k / 2 * 4 + 3, none⟩ = some (.bool (gt T k).2)) := by
  have h1 := h k hk
  refine ⟨fun he => ?_, fun he => ?_⟩
  · rw [show o + k / 2 * 4 = o + 2 * k by omega, show o + 2 * k + 1 = o + (2 * k + 1) by omega]; exact h1
  · rw [show o + k / 2 * 4 + 2 = o + 2 * k by omega, show o + k / 2 * 4 + 3 = o + (2 * k + 1) by omega]; exact h1
theorem nmod2 (k : Nat) : (k : Int).tmod 2 = ((k % 2 : Nat) : Int) := by rw [Int.tmod_eq_emod_of_nonneg (by omega)]; omega
theorem ndiv2 (k : Nat) : (k : Int).tdiv 2 = ((k / 2 : Nat) : Int) := by rw [Int.tdiv_eq_ediv_of_nonneg (by omega)]; omega

set_option maxHeartbeats 1000000 in
theorem numbered_any (v : Value) (n : Nat) (T : List Th) (k : Nat) (w : World) (hp : RdT 2 w v n T) (hk : k < n * 2) (hn : n ≤ 6) :
    Calls Try.prog 36 #[v, .int .i64 k] w fun e w' => e = .returned (.agg #[.int .i64 (gt T k).1, .bool (gt T k).2]) ∧ Below w.heap.size w w' := by
  obtain ⟨_, la, a, ca, rfl, ha⟩ := hp
  obtain ⟨ba, oa, rfl, hba, hca⟩ := ha (by omega)
  obtain ⟨g1, g2⟩ := cells2 hca hk
  have m1 := nmod2 k
  have m2 := ndiv2 k
  have hkn : k / 2 < n := by omega
  clear ha hca
  by_cases he : k % 2 = 0
  · obtain ⟨c1, c2⟩ := g1 he
    clear g1 g2
    go_enter Try.func36, Try.ntmps36
    go_wp2
    refine bodyPost_ret (v := .agg #[.int .i64 (gt T k).1, .bool (gt T k).2]) (by simp [results, Try.results36, go_sem]) rfl ⟨rfl, ?_⟩
    repeat' first | exact Below.refl _ _ | refine Below.setCell ?_ ?_ _ | refine Below.alloc ?_ ?_ _
    all_goals first | omega | simp <;> omega
  · obtain ⟨c1, c2⟩ := g2 he
    clear g1 g2
    go_enter Try.func36, Try.ntmps36
    go_wp2
    refine bodyPost_ret (v := .agg #[.int .i64 (gt T k).1, .bool (gt T k).2]) (by simp [results, Try.results36, go_sem]) rfl ⟨rfl, ?_⟩
    repeat' first | exact Below.refl _ _ | refine Below.setCell ?_ ?_ _ | refine Below.alloc ?_ ?_ _
    all_goals first | omega | simp <;> omega

set_option maxHeartbeats 1000000 in
theorem l05At_any (v : Value) (n : Nat) (T : List Th) (k : Nat) (w : World) (hp : RdT 2 w v n T) (hk : k < n * 2) (hn : n ≤ 6) :
    Calls Try.prog 35 #[v, .int .i64 k] w fun e w' => e = .returned (.agg #[.int .i64 (gt T k).1, .bool (gt T k).2]) ∧ Below w.heap.size w w' := by
  obtain ⟨_, la, a, ca, rfl, ha⟩ := hp
  obtain ⟨ba, oa, rfl, hba, hca⟩ := ha (by omega)
  obtain ⟨g1, g2⟩ := cells2 hca hk
  have m1 := nmod2 k
  have m2 := ndiv2 k
  have hkn : k / 2 < n := by omega
  clear ha hca
  by_cases he : k % 2 = 0
  · obtain ⟨c1, c2⟩ := g1 he
    clear g1 g2
    go_enter Try.func35, Try.ntmps35
    go_wp2
    refine bodyPost_ret (v := .agg #[.int .i64 (gt T k).1, .bool (gt T k).2]) (by simp [results, Try.results35, go_sem]) rfl ⟨rfl, ?_⟩
    repeat' first | exact Below.refl _ _ | refine Below.setCell ?_ ?_ _ | refine Below.alloc ?_ ?_ _
    all_goals first | omega | simp <;> omega
  · obtain ⟨c1, c2⟩ := g2 he
    clear g1 g2
    go_enter Try.func35, Try.ntmps35
    go_wp2
    refine bodyPost_ret (v := .agg #[.int .i64 (gt T k).1, .bool (gt T k).2]) (by simp [results, Try.results35, go_sem]) rfl ⟨rfl, ?_⟩
    repeat' first | exact Below.refl _ _ | refine Below.setCell ?_ ?_ _ | refine Below.alloc ?_ ?_ _
    all_goals first | omega | simp <;> omega

set_option maxHeartbeats 1000000 in
theorem syncLanding_any (v : Value) (n : Nat) (T : List Th) (k : Nat) (w : World) (hp : RdT 2 w v n T) (hk : k < n * 2) (hn : n ≤ 6) (h0 : 0 ≤ (gt T k).1) (h14 : (gt T k).1 ≤ 14) :
    Calls Try.prog 34 #[v, .int .i64 k] w fun e w' => e = .returned (.int .i64 (landY T n k)) ∧ Below w.heap.size w w' := by
  have hnum := Lib.hid (numbered_any v n T k w hp hk hn)
  obtain ⟨_, la, a, ca, rfl, hz⟩ := hp
  clear hz
  have m1 : (k : Int).tmod 2 = (k : Int) % 2 := Int.tmod_eq_emod_of_nonneg (by omega)
  have m2 : (k : Int).tdiv 2 = (k : Int) / 2 := Int.tdiv_eq_ediv_of_nonneg (by omega)
  have m3 : (gt T k).1.tdiv 2 = (gt T k).1 / 2 := Int.tdiv_eq_ediv_of_nonneg h0
  have m4 : ((k : Int) / 2 + (gt T k).1 / 2).tmod (n : Int) = ((k : Int) / 2 + (gt T k).1 / 2) % (n : Int) := Int.tmod_eq_emod_of_nonneg (by omega)
  have b1 : 0 ≤ ((k : Int) / 2 + (gt T k).1 / 2) % (n : Int) := Int.emod_nonneg _ (by omega)
  have b2 : ((k : Int) / 2 + (gt T k).1 / 2) % (n : Int) < n := Int.emod_lt_of_pos _ (by omega)
  have e1 : wrap64 (((k : Int) / 2 + (gt T k).1 / 2) % (n : Int) * 2) = ((k : Int) / 2 + (gt T k).1 / 2) % (n : Int) * 2 := IntWalk.wrap64_in _ (by omega)
  have e2 : wrap64 (((k : Int) / 2 + (gt T k).1 / 2) % (n : Int) * 2 + (k : Int) % 2) = ((k : Int) / 2 + (gt T k).1 / 2) % (n : Int) * 2 + (k : Int) % 2 := IntWalk.wrap64_in _ (by omega)
  have e3 : wrap64 (((k : Int) / 2 + (gt T k).1 / 2) % (n : Int) * 2 + (1 - (k : Int) % 2)) = ((k : Int) / 2 + (gt T k).1 / 2) % (n : Int) * 2 + (1 - (k : Int) % 2) := IntWalk.wrap64_in _ (by omega)
  cases hx : (gt T k).2
  all_goals
    rw [hx] at hnum
    have hl := Lib.hid hx
    clear hx
    go_enter Try.func34, Try.ntmps34
    go_wp2_with fail
    refine hnum.out.mono ?_
    rintro e w1 ⟨rfl, hb⟩
    go_wp2
    go_ret
    refine ⟨ret_int (by rw [landY, hl.out]; rfl), ?_⟩
    repeat' first | exact hb | refine Below.setCell ?_ ?_ _ | refine Below.alloc ?_ ?_ _
    all_goals first | exact hb.size | omega | simp <;> omega

set_option maxHeartbeats 1000000 in
theorem l05Land_any (v : Value) (n : Nat) (T : List Th) (k : Nat) (w : World) (hp : RdT 2 w v n T) (hk : k < n * 2) (hn : n ≤ 6) (h0 : 0 ≤ (gt T k).1) (h14 : (gt T k).1 ≤ 14) :
    Calls Try.prog 30 #[v, .int .i64 k] w fun e w' => e = .returned (.int .i64 (landY T n k)) ∧ Below w.heap.size w w' := by
  have hnum := Lib.hid (l05At_any v n T k w hp hk hn)
  obtain ⟨_, la, a, ca, rfl, hz⟩ := hp
  clear hz
  have m1 : (k : Int).tmod 2 = (k : Int) % 2 := Int.tmod_eq_emod_of_nonneg (by omega)
  have m2 : (k : Int).tdiv 2 = (k : Int) / 2 := Int.tdiv_eq_ediv_of_nonneg (by omega)
  have m3 : (gt T k).1.tdiv 2 = (gt T k).1 / 2 := Int.tdiv_eq_ediv_of_nonneg h0
  have m4 : ((k : Int) / 2 + (gt T k).1 / 2).tmod (n : Int) = ((k : Int) / 2 + (gt T k).1 / 2) % (n : Int) := Int.tmod_eq_emod_of_nonneg (by omega)
  have b1 : 0 ≤ ((k : Int) / 2 + (gt T k).1 / 2) % (n : Int) := Int.emod_nonneg _ (by omega)
  have b2 : ((k : Int) / 2 + (gt T k).1 / 2) % (n : Int) < n := Int.emod_lt_of_pos _ (by omega)
  have e1 : wrap64 (((k : Int) / 2 + (gt T k).1 / 2) % (n : Int) * 2) = ((k : Int) / 2 + (gt T k).1 / 2) % (n : Int) * 2 := IntWalk.wrap64_in _ (by omega)
  have e2 : wrap64 (((k : Int) / 2 + (gt T k).1 / 2) % (n : Int) * 2 + (k : Int) % 2) = ((k : Int) / 2 + (gt T k).1 / 2) % (n : Int) * 2 + (k : Int) % 2 := IntWalk.wrap64_in _ (by omega)
  have e3 : wrap64 (((k : Int) / 2 + (gt T k).1 / 2) % (n : Int) * 2 + (1 - (k : Int) % 2)) = ((k : Int) / 2 + (gt T k).1 / 2) % (n : Int) * 2 + (1 - (k : Int) % 2) := IntWalk.wrap64_in _ (by omega)
  cases hx : (gt T k).2
  all_goals
    rw [hx] at hnum
    have hl := Lib.hid hx
    clear hx
    go_enter Try.func30, Try.ntmps30
    go_wp2_with fail
    refine hnum.out.mono ?_
    rintro e w1 ⟨rfl, hb⟩
    go_wp2
    go_ret
    refine ⟨ret_int (by rw [landY, hl.out]; rfl), ?_⟩
    repeat' first | exact hb | refine Below.setCell ?_ ?_ _ | refine Below.alloc ?_ ?_ _
    all_goals first | exact hb.size | omega | simp <;> omega

set_option maxHeartbeats 2000000 in
theorem areSyncBeats_any (v : Value) (n : Nat) (T : List Th) (w : World) (hp : RdT 2 w v n T) :
    Calls Try.prog 23 #[v] w fun e w' => e = .returned (.bool (okY T n)) ∧ Below w.heap.size w w' := by
  obtain ⟨_, la, a, ca, rfl, ha⟩ := hp
  go_enter Try.func23, Try.ntmps23
  go_wp2
  go_loopw [7] (fun i wr => ∃ k : Nat, k ≤ n ∧ i = .int .i64 k ∧ (∀ j, j < k * 2 → thS (gt T j) = true) ∧ Below w.heap.size w wr) (fun i _ => n - (intOf i).toNat)
  case atStart => exact ⟨0, Nat.zero_le _, rfl, fun j hj => by omega, Below.refl _ _⟩
  case round =>
    obtain ⟨k, hk, rfl, heq, hB⟩ := hrel
    have Heq := Lib.hid heq
    clear heq
    by_cases hlt : k < n
    · obtain ⟨ba, oa, rfl, hba, hca⟩ := ha (by omega)
      obtain ⟨p1, p2, p3, p4⟩ := cells4 hca hlt
      have f := fun o => hB.cell (p := ⟨ba, o, none⟩) hba
      rw [← f] at p1 p2 p3 p4
      clear hca ha f
      have HB := Lib.hid hB
      have hsz := hB.size
      clear hB
      have t1 := fun W => isSyncThrow_any (gt T (k * 2)).1 (gt T (k * 2)).2 W
      have t2 := fun W => isSyncThrow_any (gt T (k * 2 + 1)).1 (gt T (k * 2 + 1)).2 W
      cases h1 : thS (gt T (k * 2))
      · rw [show thS ((gt T (k * 2)).1, (gt T (k * 2)).2) = false from h1] at t1
        have T1 := Lib.hid t1
        clear t1 t2
        have H1 := Lib.hid h1
        clear h1
        go_wp2_with fail
        refine (T1.out _).mono ?_
        rintro e w1 ⟨rfl, hb1⟩
        have HB1 := Lib.hid (below_step (HB.out.alloc HB.out.size _) hb1 (by simp; omega))
        clear hb1
        go_wp2
        go_ret
        exact ⟨ret_bool (okY_bad (by omega) H1.out).symm, HB1.out⟩
      · rw [show thS ((gt T (k * 2)).1, (gt T (k * 2)).2) = true from h1] at t1
        have T1 := Lib.hid t1
        clear t1
        have H1 := Lib.hid h1
        clear h1
        cases h2 : thS (gt T (k * 2 + 1))
        all_goals
          rw [show thS ((gt T (k * 2 + 1)).1, (gt T (k * 2 + 1)).2) = _ from h2] at t2
          have T2 := Lib.hid t2
          clear t2
          have H2 := Lib.hid h2
          clear h2
          go_wp2_with fail
          refine (T1.out _).mono ?_
          rintro e w1 ⟨rfl, hb1⟩
          obtain ⟨hc1, hz1⟩ := bcellAt (wr.heap.size + 1) hb1 (by simp)
          have HB1 := Lib.hid (below_step (HB.out.alloc HB.out.size _) hb1 (by simp; omega))
          clear hb1
          go_wp2_with fail
          refine (T2.out _).mono ?_
          rintro e w2 ⟨rfl, hb2⟩
          have HB2 := Lib.hid (below_step HB1.out hb2 HB1.out.size)
          clear hb2
          go_wp2
        · go_ret
          exact ⟨ret_bool (okY_bad (by omega) H2.out).symm, HB2.out⟩
        · go_roundw
          case rel =>
            refine ⟨k + 1, by omega, by go_num, fun j hj => ?_, HB2.out⟩
            by_cases e1 : j = k * 2
            · rw [e1]; exact H1.out
            · by_cases e2 : j = k * 2 + 1
              · rw [e2]; exact H2.out
              · exact Heq.out j (by omega)
          case measure => simp [intOf]; omega
    · go_wp2_with (go_at_call 33; refine (between_any _ _ _ _).mono ?_; rintro e w' ⟨rfl, rfl⟩)
      go_ret
      exact ⟨ret_bool (okY_end (fun j hj => Heq.out j (by omega))).symm, hB⟩

set_option maxHeartbeats 2000000 in
theorem l05List_any (v : Value) (n : Nat) (T : List Th) (w : World) (hp : RdT 2 w v n T) :
    Calls Try.prog 18 #[v] w fun e w' => e = .returned (.bool (okY T n)) ∧ Below w.heap.size w w' := by
  obtain ⟨_, la, a, ca, rfl, ha⟩ := hp
  go_enter Try.func18, Try.ntmps18
  go_wp2
  go_loopw [3] (fun i wr => ∃ k : Nat, k ≤ n ∧ i = .int .i64 k ∧ (∀ j, j < k * 2 → thS (gt T j) = true) ∧ Below w.heap.size w wr) (fun i _ => n - (intOf i).toNat)
  case atStart => exact ⟨0, Nat.zero_le _, rfl, fun j hj => by omega, Below.refl _ _⟩
  case round =>
    obtain ⟨k, hk, rfl, heq, hB⟩ := hrel
    have Heq := Lib.hid heq
    clear heq
    by_cases hlt : k < n
    · obtain ⟨ba, oa, rfl, hba, hca⟩ := ha (by omega)
      obtain ⟨p1, p2, p3, p4⟩ := cells4 hca hlt
      have f := fun o => hB.cell (p := ⟨ba, o, none⟩) hba
      rw [← f] at p1 p2 p3 p4
      clear hca ha f
      have HB := Lib.hid hB
      have hsz := hB.size
      clear hB
      have t1 := fun W => l05Throw_any (gt T (k * 2)).1 (gt T (k * 2)).2 W
      have t2 := fun W => l05Throw_any (gt T (k * 2 + 1)).1 (gt T (k * 2 + 1)).2 W
      cases h1 : thS (gt T (k * 2))
      · rw [show thS ((gt T (k * 2)).1, (gt T (k * 2)).2) = false from h1] at t1
        have T1 := Lib.hid t1
        clear t1 t2
        have H1 := Lib.hid h1
        clear h1
        go_wp2_with fail
        refine (T1.out _).mono ?_
        rintro e w1 ⟨rfl, hb1⟩
        have HB1 := Lib.hid (below_step HB.out hb1 HB.out.size)
        clear hb1
        go_wp2
        go_ret
        exact ⟨ret_bool (okY_bad (by omega) H1.out).symm, HB1.out⟩
      · rw [show thS ((gt T (k * 2)).1, (gt T (k * 2)).2) = true from h1] at t1
        have T1 := Lib.hid t1
        clear t1
        have H1 := Lib.hid h1
        clear h1
        cases h2 : thS (gt T (k * 2 + 1))
        all_goals
          rw [show thS ((gt T (k * 2 + 1)).1, (gt T (k * 2 + 1)).2) = _ from h2] at t2
          have T2 := Lib.hid t2
          clear t2
          have H2 := Lib.hid h2
          clear h2
          go_wp2_with fail
          refine (T1.out _).mono ?_
          rintro e w1 ⟨rfl, hb1⟩
          have hbw : ba < wr.heap.size := by omega
          rw [← hb1.cell (p := ⟨ba, _, none⟩) hbw] at p3 p4
          have HB1 := Lib.hid (below_step HB.out hb1 HB.out.size)
          clear hb1
          go_wp2_with fail
          refine (T2.out _).mono ?_
          rintro e w2 ⟨rfl, hb2⟩
          have HB2 := Lib.hid (below_step HB1.out hb2 HB1.out.size)
          clear hb2
          go_wp2
        · go_ret
          exact ⟨ret_bool (okY_bad (by omega) H2.out).symm, HB2.out⟩
        · go_roundw
          case rel =>
            refine ⟨k + 1, by omega, by go_num, fun j hj => ?_, HB2.out⟩
            by_cases e1 : j = k * 2
            · rw [e1]; exact H1.out
            · by_cases e2 : j = k * 2 + 1
              · rw [e2]; exact H2.out
              · exact Heq.out j (by omega)
          case measure => simp [intOf]; omega
    · go_wp2_with (go_at_call 29; refine (l00In_any _ _ _ _).mono ?_; rintro e w' ⟨rfl, rfl⟩)
      go_ret
      exact ⟨ret_bool (okY_end (fun j hj => Heq.out j (by omega))).symm, hB⟩
end Go.Proofs.Ytfeihkpaigadkaa
