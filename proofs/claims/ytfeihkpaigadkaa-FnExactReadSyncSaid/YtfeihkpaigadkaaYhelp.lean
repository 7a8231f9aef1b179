/-
  The laws' own helpers on slices of synchronous beats: toSyncBeatS, szSyncBeatS, eqSyncBeatS, markSyncBeatS, heldSyncBeatS. No condition beyond each contract's own.
-/
import Derived.Test.YtfeihkpaigadkaaYopen
import Derived.Deep.RegionWith
namespace Go.Proofs.Ytfeihkpaigadkaa
open Go.ChangeShapes Go.WideShapes Go.ChangeAt Go.RowKit


/-- Cells below K, told by their block's number alone. -/
theorem bcellAt {W w1 : World} {B : Nat} (K : Nat) (hb : Below B W w1) (h : K ≤ B) : (∀ b o, b < K → w1.cell? ⟨b, o, none⟩ = W.cell? ⟨b, o, none⟩) ∧ (∀ b o, b < K → w1.frozen? ⟨b, o, none⟩ = W.frozen? ⟨b, o, none⟩) := bcell (hb.mono h)

set_option maxHeartbeats 400000 in
theorem eqSyncThrow_same (a : Int) (x : Bool) (w : World) : Calls Try.prog 26 #[.agg #[.int .i64 a, .bool x], .agg #[.int .i64 a, .bool x]] w fun e w' => e = .returned (.bool true) ∧ Below w.heap.size w w' := by
  go_enter Try.func26, Try.ntmps26
  go_wp2
  go_ret
  refine ⟨rfl, ?_⟩
  repeat' first | exact Below.refl _ _ | refine Below.setCell ?_ ?_ _ | refine Below.alloc ?_ ?_ _
  all_goals first | omega | simp <;> omega

set_option maxHeartbeats 400000 in
theorem eqSyncBeat_same (a : Int) (x : Bool) (b : Int) (y : Bool) (w : World) : Calls Try.prog 15 #[.agg #[.int .i64 a, .bool x, .int .i64 b, .bool y], .agg #[.int .i64 a, .bool x, .int .i64 b, .bool y]] w fun e w' => e = .returned (.bool true) ∧ Below w.heap.size w w' := by
  go_enter Try.func15, Try.ntmps15
  go_wp2_with fail
  refine (eqSyncThrow_same _ _ _).mono ?_
  rintro e w1 ⟨rfl, hb1⟩
  obtain ⟨hc1, hz1⟩ := bcell hb1
  have hs1 := hb1.size
  simp at hs1
  have HB1 := Lib.hid hb1
  clear hb1
  go_wp2_with fail
  refine (eqSyncThrow_same _ _ _).mono ?_
  rintro e w2 ⟨rfl, hb2⟩
  have HB2 := Lib.hid hb2
  clear hb2
  go_wp2
  go_ret
  refine ⟨rfl, ?_⟩
  repeat' first | exact Below.refl _ _ | refine Below.setCell ?_ ?_ _ | refine Below.alloc ?_ ?_ _ | refine Below.trans ?_ (HB2.out.mono ?_) | refine Below.trans ?_ (HB1.out.mono ?_)
  all_goals first | omega | simp <;> omega

theorem Try.infoSync : (Try.prog.info? 35).map (fun i => (i.zero, i.size, i.bytes)) = some (some (.agg #[.int .i64 0, .bool false, .int .i64 0, .bool false]), 4, 32) := by kernel_rfl

/-- The four cells of beat k of a slice of beats. -/
theorem cells4 {w : World} {b o n : Nat} {T : List Th} (h : ∀ k, k < n * 2 → w.cell? ⟨b, o + 2 * k, none⟩ = some (.int .i64 (gt T k).1) ∧ w.cell? ⟨b, o + (2 * k + 1), none⟩ = some (.bool (gt T k).2)) {k : Nat} (hk : k < n) :
    w.cell? ⟨b, o + k * 4, none⟩ = some (.int .i64 (gt T (k * 2)).1) ∧ w.cell? ⟨b, o + k * 4 + 1, none⟩ = some (.bool (gt T (k * 2)).2) ∧ w.cell? ⟨b, o + k * 4 + 2, none⟩ = some (.int .i64 (gt T (k * 2 + 1)).1) ∧ w.cell? ⟨b, o + k * 4 + 3, none⟩ = some (.bool (gt T (k * 2 + 1)).2) := by
  have h1 := h (k * 2) (by omega)
  have h2 := h (k * 2 + 1) (by omega)
  rw [show o + k * 4 = o + 2 * (k * 2) by omega, show o + 2 * (k * 2) + 1 = o + (2 * (k * 2) + 1) by omega, show o + 2 * (k * 2) + 2 = o + 2 * (k * 2 + 1) by omega, show o + 2 * (k * 2) + 3 = o + (2 * (k * 2 + 1) + 1) by omega]
  exact ⟨h1.1, h1.2, h2.1, h2.2⟩

set_option maxHeartbeats 1000000 in
theorem eqSyncBeatS_same (va vb : Value) (n : Nat) (T : List Th) (w : World) (hA : RdT 2 w va n T) (hB : RdT 2 w vb n T) :
    Calls Try.prog 6 #[va, vb] w fun e w' => e = .returned (.bool true) ∧ Below w.heap.size w w' := by
  obtain ⟨_, la, a, ca, rfl, ha⟩ := hA
  obtain ⟨_, lb, b, cb, rfl, hb⟩ := hB
  go_enter Try.func6, Try.ntmps6
  go_wp2
  go_loopw [5] (fun i wr => ∃ k : Nat, k ≤ n ∧ i = .int .i64 k ∧ Below w.heap.size w wr) (fun i _ => n - (intOf i).toNat)
  case atStart => exact ⟨0, Nat.zero_le _, rfl, Below.refl _ _⟩
  case round =>
    obtain ⟨k, hk, rfl, hbl⟩ := hrel
    by_cases hlt : k < n
    · obtain ⟨ba, oa, rfl, hba, hca⟩ := ha (by omega)
      obtain ⟨bb, ob, rfl, hbb, hcb⟩ := hb (by omega)
      obtain ⟨p1, p2, p3, p4⟩ := cells4 hca hlt
      obtain ⟨q1, q2, q3, q4⟩ := cells4 hcb hlt
      have f := fun o => hbl.cell (p := ⟨ba, o, none⟩) hba
      have g := fun o => hbl.cell (p := ⟨bb, o, none⟩) hbb
      rw [← f] at p1 p2 p3 p4
      rw [← g] at q1 q2 q3 q4
      clear hca hcb ha hb f g
      go_wp2
      go_region_with (go_at_call 15; (with_reducible refine (eqSyncBeat_same _ _ _ _ _).mono ?_); rintro e w2 ⟨rfl, hb2⟩)
      all_goals
        have hb3 := below_step hbl.drew hb2 hbl.drew.size
        have HB := Lib.hid hb3
        clear hb2 hb3
        go_wp2
        go_roundw
        case rel => exact ⟨k + 1, by omega, by go_num, HB.out⟩
        case measure => simp [intOf]; omega
    · go_wp2
      go_ret
      exact ⟨rfl, hbl⟩
end Go.Proofs.Ytfeihkpaigadkaa
