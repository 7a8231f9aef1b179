/-
  The laws' own helpers on slices of synchronous beats, second part: toSyncBeatS, markSyncBeatS, heldSyncBeatS. No condition beyond each contract's own.
-/
import Derived.Test.YtfeihkpaigadkaaYhelp
namespace Go.Proofs.Ytfeihkpaigadkaa
open Go.ChangeShapes Go.WideShapes Go.ChangeAt Go.RowKit


/-- The first k beats of a list, and nothing behind them. -/
def fT (T : List Th) (k : Nat) : List Th := T.take (k * 2) ++ List.replicate (T.length - k * 2) (0, false)
theorem fT_length {T : List Th} {k : Nat} (h : k * 2 ≤ T.length) : (fT T k).length = T.length := by simp [fT]; omega
theorem fT_full {T : List Th} {k : Nat} (h : k * 2 = T.length) : fT T k = T := by
  rw [fT, h, List.take_length, Nat.sub_self]; simp
theorem fT_gt {T : List Th} {k j : Nat} (h : k * 2 ≤ T.length) (hj : j < T.length) : gt (fT T k) j = if j < k * 2 then gt T j else (0, false) := by
  unfold fT
  by_cases hk : j < k * 2
  · rw [if_pos hk, gt_append_left (by simp; omega)]
    simp [gt, hk]
  · rw [if_neg hk, gt_append_right (by simp; omega)]
    rw [gt_eq (by simp; omega)]
    simp
theorem fT_succ {T : List Th} {k : Nat} (h : (k + 1) * 2 ≤ T.length) : ((fT T k).set (k * 2) (gt T (k * 2))).set (k * 2 + 1) (gt T (k * 2 + 1)) = fT T (k + 1) := by
  have h0 : (fT T k).length = T.length := fT_length (by omega)
  have h1 : (fT T (k + 1)).length = T.length := fT_length h
  apply gt_ext
  · simp [h0, h1]
  · intro j hj
    have hj' : j < T.length := by simpa [h0] using hj
    rw [gt_set (by simp [h0]; omega), gt_set (by rw [h0]; omega), fT_gt (by omega) hj', fT_gt h hj']
    by_cases e1 : j = k * 2 + 1
    · subst e1; rw [if_pos rfl, if_pos (by omega)]
    · rw [if_neg e1]
      by_cases e2 : j = k * 2
      · subst e2; rw [if_pos rfl, if_pos (by omega)]
      · rw [if_neg e2]
        by_cases e3 : j < k * 2
        · rw [if_pos e3, if_pos (by omega)]
        · rw [if_neg e3, if_neg (by omega)]

theorem set_two {G : List Th} {i : Nat} {b : Int} {z y : Bool} (h : i < G.length) : (G.set i (b, z)).set i ((gt (G.set i (b, z)) i).1, y) = G.set i (b, y) := by
  rw [gt_set h, if_pos rfl, List.set_set]

/-- The cells of beat k of a row of the call's own. -/
theorem own4 {w : World} {lo g cap n : Nat} {F : List Th} (h : w.ownsRow lo 35 4 (.slice (some ⟨g, 0, none⟩) n cap) n (cT F)) {k : Nat} (hk : k < n) :
    (w.cell? ⟨g, k * 4, none⟩ = some (.int .i64 (gt F (k * 2)).1) ∧ w.cell? ⟨g, k * 4 + 1, none⟩ = some (.bool (gt F (k * 2)).2) ∧ w.cell? ⟨g, k * 4 + 2, none⟩ = some (.int .i64 (gt F (k * 2 + 1)).1) ∧ w.cell? ⟨g, k * 4 + 3, none⟩ = some (.bool (gt F (k * 2 + 1)).2)) ∧
    (w.frozen? ⟨g, k * 4, none⟩ = false ∧ w.frozen? ⟨g, k * 4 + 1, none⟩ = false ∧ w.frozen? ⟨g, k * 4 + 2, none⟩ = false ∧ w.frozen? ⟨g, k * 4 + 3, none⟩ = false) := by
  have hl : F.length * 2 = n * 4 := by have := h.1; rw [cT_length] at this; omega
  refine ⟨⟨?_, ?_, ?_, ?_⟩, h.frozenAt _, h.frozenAt _, h.frozenAt _, h.frozenAt _⟩
  · rw [h.cellAt _ (by omega), show k * 4 = 2 * (k * 2) by omega]; exact cT_v (by omega)
  · rw [h.cellAt _ (by omega), show k * 4 + 1 = 2 * (k * 2) + 1 by omega]; exact cT_x (by omega)
  · rw [h.cellAt _ (by omega), show k * 4 + 2 = 2 * (k * 2 + 1) by omega]; exact cT_v (by omega)
  · rw [h.cellAt _ (by omega), show k * 4 + 3 = 2 * (k * 2 + 1) + 1 by omega]; exact cT_x (by omega)

/-- Beat k of it written. -/
theorem put4 {w : World} {lo g cap n : Nat} {F : List Th} (h : w.ownsRow lo 35 4 (.slice (some ⟨g, 0, none⟩) n cap) n (cT F)) {k : Nat} (hk : k < n) (a : Int) (x : Bool) (b : Int) (y : Bool) :
    ((((w.setCell ⟨g, k * 4, none⟩ (.int .i64 a)).setCell ⟨g, k * 4 + 1, none⟩ (.bool x)).setCell ⟨g, k * 4 + 2, none⟩ (.int .i64 b)).setCell ⟨g, k * 4 + 3, none⟩ (.bool y)).ownsRow lo 35 4 (.slice (some ⟨g, 0, none⟩) n cap) n (cT ((F.set (k * 2) (a, x)).set (k * 2 + 1) (b, y))) := by
  have hl : F.length * 2 = n * 4 := by have := h.1; rw [cT_length] at this; omega
  have h1 := (h.stored (k * 4) (.int .i64 a)).1
  rw [show k * 4 = 2 * (k * 2) by omega, cT_setv (by omega)] at h1
  have h2 := (h1.stored (k * 4 + 1) (.bool x)).1
  rw [show k * 4 + 1 = 2 * (k * 2) + 1 by omega, cT_setx (by simp; omega), set_two (by omega)] at h2
  have h3 := (h2.stored (k * 4 + 2) (.int .i64 b)).1
  rw [show k * 4 + 2 = 2 * (k * 2 + 1) by omega, cT_setv (by simp; omega)] at h3
  have h4 := (h3.stored (k * 4 + 3) (.bool y)).1
  rw [show k * 4 + 3 = 2 * (k * 2 + 1) + 1 by omega, cT_setx (by simp; omega), set_two (by simp; omega)] at h4
  rw [show k * 4 = 2 * (k * 2) by omega, show 2 * (k * 2) + 2 = 2 * (k * 2 + 1) by omega, show 2 * (k * 2) + 3 = 2 * (k * 2 + 1) + 1 by omega]
  exact h4

theorem tmod3 {x : Int} (h : 0 ≤ x) : x.tmod 3 = x % 3 := Int.tmod_eq_emod_of_nonneg h
set_option maxHeartbeats 1000000 in
theorem markSyncBeatS_any (va : Value) (n : Nat) (T : List Th) (q : Int) (lo hi : Nat) (w : World) (hA : OwnT 35 2 w lo hi va n T) (h0 : 0 ≤ q) (h1 : q ≤ 1000000000000000) :
    Calls Try.prog 7 #[va, .int .i64 q] w fun e w' => e = .returned (.int .i64 (q + 4 * n)) ∧ OwnT 35 2 w' lo hi va n (mkT q (n * 2)) ∧ Chg w w' lo hi := by
  obtain ⟨hT, la, hA, hhi⟩ := hA
  have hA2 := hA
  obtain ⟨hlen, hcase⟩ := hA2
  rcases hcase with ⟨rfl, hn⟩ | ⟨g, cap, cur, rfl, hb, hg, hnc, hm, hs, ht⟩
  · subst hn
    go_enter Try.func7, Try.ntmps7
    go_wp2
    refine wp_loop_rounds 1 ?_
    rw [rounds_succ]
    go_wp2
    go_ret
    exact ⟨by simp, ownT_nil _ _ _ _ _, Chg.refl _ _ _⟩
  · have hgh := hhi g rfl
    clear hg hs ht
    go_enter Try.func7, Try.ntmps7
    go_wp2
    go_loopw [1, 5] (fun q' i wr => ∃ k : Nat, k ≤ n ∧ i = .int .i64 k ∧ q' = .int .i64 (q + 4 * k) ∧ wr.ownsRow lo 35 4 (.slice (some ⟨g, 0, none⟩) n cap) n (cT (mkP q T (k * 2))) ∧ Chg w wr lo hi) (fun _ i _ => n - (intOf i).toNat)
    case atStart => exact ⟨0, Nat.zero_le _, rfl, by simp, by rw [Nat.zero_mul, mkP_zero]; exact hA, Chg.refl _ _ _⟩
    case round =>
      obtain ⟨k, hk, rfl, rfl, hown, hgr⟩ := hrel
      by_cases hlt : k < n
      · obtain ⟨⟨c1, c2, c3, c4⟩, z1, z2, z3, z4⟩ := own4 hown hlt
        have H := Lib.hid (And.intro hown hgr)
        clear hown hgr
        have e1 := tmod3 (x := q + 4 * k + 1) (by omega)
        have e2 := tmod3 (x := q + 4 * k + 1 + 1 + 1) (by omega)
        go_wp2
        go_roundw
        case rel =>
          have hp := put4 H.out.1 hlt (q + 4 * (k : Int)) ((q + 4 * (k : Int) + 1) % 3 == 0) (q + 4 * (k : Int) + 1 + 1) ((q + 4 * (k : Int) + 1 + 1 + 1) % 3 == 0)
          have s1 := mkP_succ q T (k * 2) (by omega)
          have s2 := mkP_succ q T (k * 2 + 1) (by omega)
          rw [show q + 2 * ((k * 2 : Nat) : Int) = q + 4 * (k : Int) by omega] at s1
          rw [show q + 2 * ((k * 2 + 1 : Nat) : Int) = q + 4 * (k : Int) + 1 + 1 by omega] at s2
          have hp2 : (cT (((mkP q T (k * 2)).set (k * 2) (q + 4 * (k : Int), (q + 4 * (k : Int) + 1) % 3 == 0)).set (k * 2 + 1) (q + 4 * (k : Int) + 1 + 1, (q + 4 * (k : Int) + 1 + 1 + 1) % 3 == 0))) = cT (mkP q T ((k + 1) * 2)) := by
            rw [show (k + 1) * 2 = k * 2 + 1 + 1 by omega, ← s2, ← s1]
          rw [hp2] at hp
          exact ⟨k + 1, by omega, by go_num, vint (by omega), hp, (((H.out.2.setCell _ _ hb hgh).setCell _ _ hb hgh).setCell _ _ hb hgh).setCell _ _ hb hgh⟩
        case measure => simp [intOf]; omega
      · go_wp2
        go_ret
        obtain rfl : k = n := by omega
        refine ⟨rfl, ⟨by rw [mkT_length], la, ?_, hhi⟩, hgr⟩
        rw [show k * 2 = T.length from hT.symm, mkP_full] at hown
        rw [← hT]
        exact hown

set_option maxHeartbeats 1000000 in
theorem heldSyncBeatS_same (va : Value) (q : Int) (n lo hi : Nat) (w : World) (hA : OwnT 35 2 w lo hi va n (mkT q (n * 2))) (h0 : 0 ≤ q) (h1 : q ≤ 1000000000000000) :
    Calls Try.prog 8 #[va, .int .i64 q] w fun e w' => e = .returned (.int .i64 (q + 4 * n)) ∧ Below w.heap.size w w' := by
  obtain ⟨_, la, a, ca, rfl, ha⟩ := hA.rd
  clear hA
  go_enter Try.func8, Try.ntmps8
  go_wp2
  go_loop [1, 5] (fun q' i => ∃ k : Nat, k ≤ n ∧ i = .int .i64 k ∧ q' = .int .i64 (q + 4 * k)) (fun _ i => n - (intOf i).toNat)
  case atStart => exact ⟨0, Nat.zero_le _, rfl, by simp⟩
  case round =>
    obtain ⟨k, hk, rfl, rfl⟩ := hrel
    by_cases hlt : k < n
    · obtain ⟨ba, oa, rfl, hba, hca⟩ := ha (by omega)
      obtain ⟨p1, p2, p3, p4⟩ := cells4 hca hlt
      rw [mkT_gt _ _ _ (by omega), show q + 2 * ((k * 2 : Nat) : Int) = q + 4 * (k : Int) by omega] at p1 p2
      rw [mkT_gt _ _ _ (by omega), show q + 2 * ((k * 2 + 1 : Nat) : Int) = q + 4 * (k : Int) + 1 + 1 by omega] at p3 p4
      clear hca ha
      have e1 := tmod3 (x := q + 4 * k + 1) (by omega)
      have e2 := tmod3 (x := q + 4 * k + 1 + 1 + 1) (by omega)
      go_wp2
      go_round
      case rel => exact ⟨k + 1, by omega, by go_num, vint (by omega)⟩
      case measure => simp [intOf]; omega
    · go_wp2
      go_ret
      obtain rfl : k = n := by omega
      exact ⟨rfl, Below.refl _ _⟩
end Go.Proofs.Ytfeihkpaigadkaa
