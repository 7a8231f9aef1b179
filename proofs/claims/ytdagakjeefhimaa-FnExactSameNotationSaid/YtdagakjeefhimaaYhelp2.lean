/-
  The laws' own helpers on slices of synchronous beats, second part: toSyncBeatS, markSyncBeatS, heldSyncBeatS. No condition beyond each contract's own.
-/
import Derived.Test.YtdagakjeefhimaaYhelp
namespace Go.Proofs.Ytdagakjeefhimaa
open Go.ChangeShapes Go.WideShapes Go.ChangeAt Go.RowKit


/-- The first k beats of a list, and nothing behind them. -/
def fT (T : List Th) (k : Nat) : List Th := T.take (k * 2) ++ List.replicate (T.length - k * 2) (0, false)
theorem fT_length {T : List Th} {k : Nat} (h : k * 2 ≤ T.length) : (fT T k).length = T.length := by simp [fT]; omega
theorem fT_full {T : List Th} {k : Nat} (h : k * 2 = T.length) : fT T k = T := by
  rw [fT, h, List.take_length, Nat.sub_self]; simp
theorem fT_gt {T : List Th} {k j : Nat} (h : k * 2 ≤ T.length) (hj : j < T.length) : gt (fT T k) j = if j < k * 2 then gt T j else (0, false) := by
  unfold fT
  by_cases hk : j < k * 2
  · rw [if_pos hk, gt_append_left (by simp; omega)]
    simp [gt, hk]
  · rw [if_neg hk, gt_append_right (by simp; omega)]
    rw [gt_eq (by simp; omega)]
    simp
theorem fT_succ {T : List Th} {k : Nat} (h : (k + 1) * 2 ≤ T.length) : ((fT T k).set (k * 2) (gt T (k * 2))).set (k * 2 + 1) (gt T (k * 2 + 1)) = fT T (k + 1) := by
  have h0 : (fT T k).length = T.length := fT_length (by omega)
  have h1 : (fT T (k + 1)).length = T.length := fT_length h
  apply gt_ext
  · simp [h0, h1]
  · intro j hj
    have hj' : j < T.length := by simpa [h0] using hj
    rw [gt_set (by simp [h0]; omega), gt_set (by rw [h0]; omega), fT_gt (by omega) hj', fT_gt h hj']
    by_cases e1 : j = k * 2 + 1
    · subst e1; rw [if_pos rfl, if_pos (by omega)]
    · rw [if_neg e1]
      by_cases e2 : j = k * 2
      · subst e2; rw [if_pos rfl, if_pos (by omega)]
      · rw [if_neg e2]
        by_cases e3 : j < k * 2
        · rw [if_pos e3, if_pos (by omega)]
        · rw [if_neg e3, if_neg (by omega)]

theorem set_two {G : List Th} {i : Nat} {b : Int} {z y : Bool} (h : i < G.length) : (G.set i (b, z)).set i ((gt (G.set i (b, z)) i).1, y) = G.set i (b, y) := by
  rw [gt_set h, if_pos rfl, List.set_set]

/-- The cells of beat k of a row of the call's own. -/
theorem own4 {w : World} {lo g cap n : Nat} {F : List Th} (h : w.ownsRow lo 60 4 (.slice (some ⟨g, 0, none⟩) n cap) n (cT F)) {k : Nat} (hk : k < n) :
    (w.cell? ⟨g, k * 4, none⟩ = some (.int .i64 (gt F (k * 2)).1) ∧ w.cell? ⟨g, k * 4 + 1, none⟩ = some (.bool (gt F (k * 2)).2) ∧ w.cell? ⟨g, k * 4 + 2, none⟩ = some (.int .i64 (gt F (k * 2 + 1)).1) ∧ w.cell? ⟨g, k * 4 + 3, none⟩ = some (.bool (gt F (k * 2 + 1)).2)) ∧
    (w.frozen? ⟨g, k * 4, none⟩ = false ∧ w.frozen? ⟨g, k * 4 + 1, none⟩ = false ∧ w.frozen? ⟨g, k * 4 + 2, none⟩ = false ∧ w.frozen? ⟨g, k * 4 + 3, none⟩ = false) := by
  have hl : F.length * 2 = n * 4 := by have := h.1; rw [cT_length] at this; omega
  refine ⟨⟨?_, ?_, ?_, ?_⟩, h.frozenAt _, h.frozenAt _, h.frozenAt _, h.frozenAt _⟩
  · rw [h.cellAt _ (by omega), show k * 4 = 2 * (k * 2) by omega]; exact cT_v (by omega)
  · rw [h.cellAt _ (by omega), show k * 4 + 1 = 2 * (k * 2) + 1 by omega]; exact cT_x (by omega)
  · rw [h.cellAt _ (by omega), show k * 4 + 2 = 2 * (k * 2 + 1) by omega]; exact cT_v (by omega)
  · rw [h.cellAt _ (by omega), show k * 4 + 3 = 2 * (k * 2 + 1) + 1 by omega]; exact cT_x (by omega)

/-- Beat k of it written. -/
theorem put4 {w : World} {lo g cap n : Nat} {F : List Th} (h : w.ownsRow lo 60 4 (.slice (some ⟨g, 0, none⟩) n cap) n (cT F)) {k : Nat} (hk : k < n) (a : Int) (x : Bool) (b : Int) (y : Bool) :
    ((((w.setCell ⟨g, k * 4, none⟩ (.int .i64 a)).setCell ⟨g, k * 4 + 1, none⟩ (.bool x)).setCell ⟨g, k * 4 + 2, none⟩ (.int .i64 b)).setCell ⟨g, k * 4 + 3, none⟩ (.bool y)).ownsRow lo 60 4 (.slice (some ⟨g, 0, none⟩) n cap) n (cT ((F.set (k * 2) (a, x)).set (k * 2 + 1) (b, y))) := by
  have hl : F.length * 2 = n * 4 := by have := h.1; rw [cT_length] at this; omega
  have h1 := (h.stored (k * 4) (.int .i64 a)).1
  rw [show k * 4 = 2 * (k * 2) by omega, cT_setv (by omega)] at h1
  have h2 := (h1.stored (k * 4 + 1) (.bool x)).1
  rw [show k * 4 + 1 = 2 * (k * 2) + 1 by omega, cT_setx (by simp; omega), set_two (by omega)] at h2
  have h3 := (h2.stored (k * 4 + 2) (.int .i64 b)).1
  rw [show k * 4 + 2 = 2 * (k * 2 + 1) by omega, cT_setv (by simp; omega)] at h3
  have h4 := (h3.stored (k * 4 + 3) (.bool y)).1
  rw [show k * 4 + 3 = 2 * (k * 2 + 1) + 1 by omega, cT_setx (by simp; omega), set_two (by simp; omega)] at h4
  rw [show k * 4 = 2 * (k * 2) by omega, show 2 * (k * 2) + 2 = 2 * (k * 2 + 1) by omega, show 2 * (k * 2) + 3 = 2 * (k * 2 + 1) + 1 by omega]
  exact h4

set_option maxHeartbeats 1000000 in
theorem toSyncBeatS_any (va : Value) (n : Nat) (T : List Th) (w : World) (hA : RdT 2 w va n T) :
    Calls Try.prog 19 #[va] w fun e w' => ∃ v, e = .returned v ∧ OwnT 60 2 w' w.heap.size w'.heap.size v n T ∧ Below w.heap.size w w' := by
  obtain ⟨i0, hi, hz0, hz1, hz2⟩ := info_parts Try.infoSync
  obtain ⟨hT, la, a, ca, rfl, ha⟩ := hA
  go_enter Try.func19, Try.ntmps19
  go_wp2_with (at_make; refine wpList_make_full _ rfl _ _ 35 rfl w.heap.size 60 i0 (.agg #[.int .i64 0, .bool false, .int .i64 0, .bool false]) 4 Try.underlying35 hi hz0 hz1 _ _ _ _ n rfl rfl rfl rfl ?c1 ?c2 ?c3 ?_)
  case c1 => rw [hz2]; omega
  case c2 => unfold maxLen; omega
  case c3 => exact Nat.le_refl _
  intro w1 hown1 hgrow1
  have hB1 : Below w.heap.size w w1 := (Below.refl _ _).grown hgrow1 (Nat.le_refl _) (by intro k hk; cases hk)
  have hs1 : w.heap.size < w1.heap.size := (hown1.lt _ rfl).2
  have hown2 : w1.ownsRow w.heap.size 60 4 (.slice (some ⟨w.heap.size, 0, none⟩) n n) n (cT (fT T 0)) := by
    have e : (madeCells #[.int .i64 0, .bool false, .int .i64 0, .bool false] (n * 4)).toList = cT (fT T 0) := by
      apply List.ext_getElem?
      intro j
      by_cases hj : j < n * 4
      · have e0 : (madeCells #[.int .i64 0, .bool false, .int .i64 0, .bool false] (n * 4)).toList[j]? = some (if j % 2 = 0 then .int .i64 0 else .bool false) := by
          simp only [madeCells, Array.toList_map, Array.toList_range, List.getElem?_map, List.getElem?_range hj, Option.map_some]
          have : j % 4 = 0 ∨ j % 4 = 1 ∨ j % 4 = 2 ∨ j % 4 = 3 := by omega
          rcases this with h | h | h | h
          · rw [if_pos (show j % 2 = 0 by omega)]; simp [h]
          · rw [if_neg (show ¬ j % 2 = 0 by omega)]; simp [h]
          · rw [if_pos (show j % 2 = 0 by omega)]; simp [h]
          · rw [if_neg (show ¬ j % 2 = 0 by omega)]; simp [h]
        rw [e0]
        by_cases hp : j % 2 = 0
        · rw [if_pos hp, show j = 2 * (j / 2) by omega, cT_v (by rw [fT_length (by omega)]; omega), fT_gt (by omega) (by omega), if_neg (by omega)]
        · rw [if_neg hp, show j = 2 * (j / 2) + 1 by omega, cT_x (by rw [fT_length (by omega)]; omega), fT_gt (by omega) (by omega), if_neg (by omega)]
      · rw [List.getElem?_eq_none (by simp [madeCells]; omega), List.getElem?_eq_none (by rw [cT_length, fT_length (by omega)]; omega)]
    rw [← e]; exact hown1
  clear hown1 hgrow1
  go_wp2
  go_loopw [4] (fun i wr => ∃ k : Nat, k ≤ n ∧ i = .int .i64 k ∧ wr.ownsRow w.heap.size 60 4 (.slice (some ⟨w.heap.size, 0, none⟩) n n) n (cT (fT T k)) ∧ Below w.heap.size w wr ∧ w1.heap.size ≤ wr.heap.size) (fun i _ => n - (intOf i).toNat)
  case atStart => exact ⟨0, Nat.zero_le _, rfl, hown2, hB1, Nat.le_refl _⟩
  case round =>
    obtain ⟨k, hk, rfl, hown, hB, hsz⟩ := hrel
    by_cases hlt : k < n
    · obtain ⟨ba, oa, rfl, hba, hca⟩ := ha (by omega)
      obtain ⟨p1, p2, p3, p4⟩ := cells4 hca hlt
      have f := fun o => hB.cell (p := ⟨ba, o, none⟩) hba
      rw [← f] at p1 p2 p3 p4
      clear hca ha f
      go_wp2_with fail
      refine (toSyncBeat_any _ _ _ _ _).mono ?_
      rintro e w2 ⟨rfl, hb2⟩
      have hs2 := hb2.size
      have hown3 := row_below hown hb2
      obtain ⟨⟨c1, c2, c3, c4⟩, z1, z2, z3, z4⟩ := own4 hown3 hlt
      have H := Lib.hid (And.intro (put4 hown3 hlt (gt T (k * 2)).1 (gt T (k * 2)).2 (gt T (k * 2 + 1)).1 (gt T (k * 2 + 1)).2) (below_step hB hb2 hB.size))
      clear hown3 hown hb2 p1 p2 p3 p4
      go_wp2
      go_roundw
      case rel =>
        have hst := H.out.1
        rw [show ((gt T (k * 2)).1, (gt T (k * 2)).2) = gt T (k * 2) from rfl, show ((gt T (k * 2 + 1)).1, (gt T (k * 2 + 1)).2) = gt T (k * 2 + 1) from rfl, fT_succ (by omega)] at hst
        exact ⟨k + 1, by omega, by go_num, hst, (((H.out.2.setCell (Nat.le_refl _) _).setCell (Nat.le_refl _) _).setCell (Nat.le_refl _) _).setCell (Nat.le_refl _) _, by simp; omega⟩
      case measure => simp [intOf]; omega
    · go_wp2
      go_ret
      obtain rfl : k = n := by omega
      rw [fT_full (by omega)] at hown
      exact ⟨_, rfl, ownT_of hT la hown, hB⟩
end Go.Proofs.Ytdagakjeefhimaa
