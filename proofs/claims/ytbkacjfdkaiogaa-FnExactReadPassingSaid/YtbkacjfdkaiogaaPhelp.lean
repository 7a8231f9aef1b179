/-
  The laws' own helpers on patterns of two jugglers. No condition beyond each contract's own.
-/
import Derived.Test.YtbkacjfdkaiogaaPopen
import Derived.Deep.RegionWith
namespace Go.Proofs.Ytbkacjfdkaiogaa
open Go.ChangeShapes Go.WideShapes Go.ChangeAt Go.RowKit


set_option maxHeartbeats 400000 in
theorem eqPassThrow_same (a : Int) (x : Bool) (w : World) : Calls Try.prog 23 #[.agg #[.int .i64 a, .bool x], .agg #[.int .i64 a, .bool x]] w fun e w' => e = .returned (.bool true) ∧ Below w.heap.size w w' := by
  go_enter Try.func23, Try.ntmps23
  go_wp2
  go_ret
  refine ⟨rfl, ?_⟩
  repeat' first | exact Below.refl _ _ | refine Below.setCell ?_ ?_ _ | refine Below.alloc ?_ ?_ _
  all_goals first | omega | simp <;> omega

theorem Try.infoPass : (Try.prog.info? 42).map (fun i => (i.zero, i.size, i.bytes)) = some (some (.agg #[.int .i64 0, .bool false]), 2, 16) := by kernel_rfl

/-- The two cells of throw k of a list of throws. -/
theorem cellsP {w : World} {b o n : Nat} {T : List Th} (h : ∀ k, k < n * 1 → w.cell? ⟨b, o + 2 * k, none⟩ = some (.int .i64 (gt T k).1) ∧ w.cell? ⟨b, o + (2 * k + 1), none⟩ = some (.bool (gt T k).2)) {k : Nat} (hk : k < n) :
    w.cell? ⟨b, o + k * 2, none⟩ = some (.int .i64 (gt T k).1) ∧ w.cell? ⟨b, o + k * 2 + 1, none⟩ = some (.bool (gt T k).2) := by
  have h1 := h k (by omega)
  rw [show o + k * 2 = o + 2 * k by omega, show o + 2 * k + 1 = o + (2 * k + 1) by omega]
  exact h1

set_option maxHeartbeats 1000000 in
theorem eqPassThrowS_same (va vb : Value) (T : List Th) (w : World) (hA : RdT 1 w va T.length T) (hB : RdT 1 w vb T.length T) :
    Calls Try.prog 13 #[va, vb] w fun e w' => e = .returned (.bool true) ∧ Below w.heap.size w w' := by
  obtain ⟨hx1, la, a, ca, rfl, ha⟩ := hA
  obtain ⟨hx2, lb, b, cb, rfl, hb⟩ := hB
  clear hx1 hx2
  go_enter Try.func13, Try.ntmps13
  go_wp2
  go_loopw [5] (fun i wr => ∃ k : Nat, k ≤ T.length ∧ i = .int .i64 k ∧ Below w.heap.size w wr) (fun i _ => T.length - (intOf i).toNat)
  case atStart => exact ⟨0, Nat.zero_le _, rfl, Below.refl _ _⟩
  case round =>
    obtain ⟨k, hk, rfl, hbl⟩ := hrel
    by_cases hlt : k < T.length
    · obtain ⟨ba, oa, rfl, hba, hca⟩ := ha (by omega)
      obtain ⟨bb, ob, rfl, hbb, hcb⟩ := hb (by omega)
      obtain ⟨p1, p2⟩ := cellsP hca hlt
      obtain ⟨q1, q2⟩ := cellsP hcb hlt
      have f := fun o => hbl.cell (p := ⟨ba, o, none⟩) hba
      have g := fun o => hbl.cell (p := ⟨bb, o, none⟩) hbb
      rw [← f] at p1 p2
      rw [← g] at q1 q2
      clear hca hcb ha hb f g
      go_wp2
      go_region_with (go_at_call 23; (with_reducible refine (eqPassThrow_same _ _ _).mono ?_); rintro e w2 ⟨rfl, hb2⟩)
      all_goals
        have hb3 := below_step hbl.drew hb2 hbl.drew.size
        have HB := Lib.hid hb3
        clear hb2 hb3
        go_wp2
        go_roundw
        case rel => exact ⟨k + 1, by omega, by go_num, HB.out⟩
        case measure => simp [intOf]; omega
    · go_wp2
      go_ret
      exact ⟨rfl, hbl⟩

/-- The first k throws of a list, and nothing behind them. -/
def fP (T : List Th) (k : Nat) : List Th := T.take k ++ List.replicate (T.length - k) (0, false)
theorem fP_length {T : List Th} {k : Nat} (h : k ≤ T.length) : (fP T k).length = T.length := by simp [fP]; omega
theorem fP_full {T : List Th} : fP T T.length = T := by simp [fP]
theorem fP_gt {T : List Th} {k j : Nat} (h : k ≤ T.length) (hj : j < T.length) : gt (fP T k) j = if j < k then gt T j else (0, false) := by
  unfold fP
  by_cases hk : j < k
  · rw [if_pos hk, gt_append_left (by simp; omega)]
    simp [gt, hk]
  · rw [if_neg hk, gt_append_right (by simp; omega)]
    rw [gt_eq (by simp; omega)]
    simp
theorem fP_succ {T : List Th} {k : Nat} (h : k + 1 ≤ T.length) : (fP T k).set k (gt T k) = fP T (k + 1) := by
  have h0 : (fP T k).length = T.length := fP_length (by omega)
  have h1 : (fP T (k + 1)).length = T.length := fP_length h
  apply gt_ext
  · simp [h0, h1]
  · intro j hj
    have hj' : j < T.length := by simpa [h0] using hj
    rw [gt_set (by rw [h0]; omega), fP_gt (by omega) hj', fP_gt h hj']
    by_cases e2 : j = k
    · subst e2; rw [if_pos rfl, if_pos (by omega)]
    · rw [if_neg e2]
      by_cases e3 : j < k
      · rw [if_pos e3, if_pos (by omega)]
      · rw [if_neg e3, if_neg (by omega)]
theorem set_twoP {G : List Th} {i : Nat} {b : Int} {z y : Bool} (h : i < G.length) : (G.set i (b, z)).set i ((gt (G.set i (b, z)) i).1, y) = G.set i (b, y) := by
  rw [gt_set h, if_pos rfl, List.set_set]

/-- The cells of throw k of a row of the call's own. -/
theorem own2 {w : World} {lo g cap n : Nat} {F : List Th} (h : w.ownsRow lo 42 2 (.slice (some ⟨g, 0, none⟩) n cap) n (cT F)) {k : Nat} (hk : k < n) :
    (w.cell? ⟨g, k * 2, none⟩ = some (.int .i64 (gt F k).1) ∧ w.cell? ⟨g, k * 2 + 1, none⟩ = some (.bool (gt F k).2)) ∧ (w.frozen? ⟨g, k * 2, none⟩ = false ∧ w.frozen? ⟨g, k * 2 + 1, none⟩ = false) := by
  have hl : F.length * 2 = n * 2 := by have := h.1; rw [cT_length] at this; omega
  refine ⟨⟨?_, ?_⟩, h.frozenAt _, h.frozenAt _⟩
  · rw [h.cellAt _ (by omega), show k * 2 = 2 * k by omega]; exact cT_v (by omega)
  · rw [h.cellAt _ (by omega), show k * 2 + 1 = 2 * k + 1 by omega]; exact cT_x (by omega)

/-- Throw k of it written. -/
theorem put2 {w : World} {lo g cap n : Nat} {F : List Th} (h : w.ownsRow lo 42 2 (.slice (some ⟨g, 0, none⟩) n cap) n (cT F)) {k : Nat} (hk : k < n) (a : Int) (x : Bool) :
    ((w.setCell ⟨g, k * 2, none⟩ (.int .i64 a)).setCell ⟨g, k * 2 + 1, none⟩ (.bool x)).ownsRow lo 42 2 (.slice (some ⟨g, 0, none⟩) n cap) n (cT (F.set k (a, x))) := by
  have hl : F.length * 2 = n * 2 := by have := h.1; rw [cT_length] at this; omega
  have h1 := (h.stored (k * 2) (.int .i64 a)).1
  rw [show k * 2 = 2 * k by omega, cT_setv (by omega)] at h1
  have h2 := (h1.stored (k * 2 + 1) (.bool x)).1
  rw [show k * 2 + 1 = 2 * k + 1 by omega, cT_setx (by simp; omega), set_twoP (by omega)] at h2
  rw [show k * 2 = 2 * k by omega]
  exact h2

theorem tmod3P {x : Int} (h : 0 ≤ x) : x.tmod 3 = x % 3 := Int.tmod_eq_emod_of_nonneg h
set_option maxHeartbeats 1000000 in
theorem markPassThrowS_any (va : Value) (T : List Th) (q : Int) (lo hi : Nat) (w : World) (hA : OwnT 42 1 w lo hi va T.length T) (h0 : 0 ≤ q) (h1 : q ≤ 1000000000000000) :
    Calls Try.prog 14 #[va, .int .i64 q] w fun e w' => e = .returned (.int .i64 (q + 2 * T.length)) ∧ OwnT 42 1 w' lo hi va T.length (mkT q T.length) ∧ Chg w w' lo hi := by
  obtain ⟨hT, la, hA, hhi⟩ := hA
  have hA2 := hA
  obtain ⟨hlen, hcase⟩ := hA2
  have HT := Lib.hid hT
  clear hT hlen
  rcases hcase with ⟨rfl, hn⟩ | ⟨g, cap, cur, rfl, hb, hg, hnc, hm, hs, ht⟩
  · obtain rfl : T = [] := List.length_eq_zero_iff.1 hn
    go_enter Try.func14, Try.ntmps14
    go_wp2
    refine wp_loop_rounds 1 ?_
    rw [rounds_succ]
    go_wp2
    go_ret
    exact ⟨by simp, ownT_nil _ _ _ _ _, Chg.refl _ _ _⟩
  · have hgh := hhi g rfl
    clear hg hs ht
    go_enter Try.func14, Try.ntmps14
    go_wp2
    go_loopw [1, 5] (fun q' i wr => ∃ k : Nat, k ≤ T.length ∧ i = .int .i64 k ∧ q' = .int .i64 (q + 2 * k) ∧ wr.ownsRow lo 42 2 (.slice (some ⟨g, 0, none⟩) T.length cap) T.length (cT (mkP q T k)) ∧ Chg w wr lo hi) (fun _ i _ => T.length - (intOf i).toNat)
    case atStart => exact ⟨0, Nat.zero_le _, rfl, by simp, by rw [mkP_zero]; exact hA, Chg.refl _ _ _⟩
    case round =>
      obtain ⟨k, hk, rfl, rfl, hown, hgr⟩ := hrel
      by_cases hlt : k < T.length
      · obtain ⟨⟨c1, c2⟩, z1, z2⟩ := own2 hown hlt
        have H := Lib.hid (And.intro hown hgr)
        clear hown hgr
        have e1 := tmod3P (x := q + 2 * k + 1) (by omega)
        go_wp2
        go_roundw
        case rel =>
          have hp := put2 H.out.1 hlt (q + 2 * (k : Int)) ((q + 2 * (k : Int) + 1) % 3 == 0)
          rw [mkP_succ q T k (by omega)] at hp
          exact ⟨k + 1, by omega, by go_num, vint (by omega), hp, (H.out.2.setCell _ _ hb hgh).setCell _ _ hb hgh⟩
        case measure => simp [intOf]; omega
      · go_wp2
        go_ret
        obtain rfl : k = T.length := by omega
        refine ⟨rfl, ⟨by rw [mkT_length]; omega, la, ?_, hhi⟩, hgr⟩
        rw [mkP_full] at hown
        exact hown

set_option maxHeartbeats 1000000 in
theorem heldPassThrowS_same (va : Value) (q : Int) (n lo hi : Nat) (w : World) (hA : OwnT 42 1 w lo hi va n (mkT q n)) (h0 : 0 ≤ q) (h1 : q ≤ 1000000000000000) :
    Calls Try.prog 15 #[va, .int .i64 q] w fun e w' => e = .returned (.int .i64 (q + 2 * n)) ∧ Below w.heap.size w w' := by
  obtain ⟨hx1, la, a, ca, rfl, ha⟩ := hA.rd
  clear hA hx1
  go_enter Try.func15, Try.ntmps15
  go_wp2
  go_loop [1, 5] (fun q' i => ∃ k : Nat, k ≤ n ∧ i = .int .i64 k ∧ q' = .int .i64 (q + 2 * k)) (fun _ i => n - (intOf i).toNat)
  case atStart => exact ⟨0, Nat.zero_le _, rfl, by simp⟩
  case round =>
    obtain ⟨k, hk, rfl, rfl⟩ := hrel
    by_cases hlt : k < n
    · obtain ⟨ba, oa, rfl, hba, hca⟩ := ha (by omega)
      obtain ⟨p1, p2⟩ := cellsP hca hlt
      rw [mkT_gt _ _ _ (by omega)] at p1 p2
      clear hca ha
      have e1 := tmod3P (x := q + 2 * k + 1) (by omega)
      go_wp2
      go_round
      case rel => exact ⟨k + 1, by omega, by go_num, vint (by omega)⟩
      case measure => simp [intOf]; omega
    · go_wp2
      go_ret
      obtain rfl : k = n := by omega
      exact ⟨rfl, Below.refl _ _⟩
end Go.Proofs.Ytbkacjfdkaiogaa
