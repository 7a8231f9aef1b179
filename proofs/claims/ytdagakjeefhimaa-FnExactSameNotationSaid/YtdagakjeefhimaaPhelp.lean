/-
  The laws' own helpers on patterns of two jugglers. No condition beyond each contract's own.
-/
import Derived.Test.YtdagakjeefhimaaPopen
import Derived.Deep.RegionWith
namespace Go.Proofs.Ytdagakjeefhimaa
open Go.ChangeShapes Go.WideShapes Go.ChangeAt Go.RowKit


theorem bcellAt {W w1 : World} {B : Nat} (K : Nat) (hb : Below B W w1) (h : K ≤ B) : (∀ b o, b < K → w1.cell? ⟨b, o, none⟩ = W.cell? ⟨b, o, none⟩) ∧ (∀ b o, b < K → w1.frozen? ⟨b, o, none⟩ = W.frozen? ⟨b, o, none⟩) := bcell (hb.mono h)
set_option maxHeartbeats 400000 in
theorem toPassThrow_any (a : Int) (x : Bool) (w : World) : Calls Try.prog 40 #[.agg #[.int .i64 a, .bool x]] w fun e w' => e = .returned (.agg #[.int .i64 a, .bool x]) ∧ Below w.heap.size w w' := by
  go_enter Try.func40, Try.ntmps40
  go_wp2
  refine bodyPost_ret (v := .agg #[.int .i64 a, .bool x]) (by simp [results, Try.results40, go_sem]) rfl ⟨rfl, ?_⟩
  repeat' first | exact Below.refl _ _ | refine Below.setCell ?_ ?_ _ | refine Below.alloc ?_ ?_ _
  all_goals first | omega | simp <;> omega

set_option maxHeartbeats 400000 in
theorem eqPassThrow_same (a : Int) (x : Bool) (w : World) : Calls Try.prog 42 #[.agg #[.int .i64 a, .bool x], .agg #[.int .i64 a, .bool x]] w fun e w' => e = .returned (.bool true) ∧ Below w.heap.size w w' := by
  go_enter Try.func42, Try.ntmps42
  go_wp2
  go_ret
  refine ⟨rfl, ?_⟩
  repeat' first | exact Below.refl _ _ | refine Below.setCell ?_ ?_ _ | refine Below.alloc ?_ ?_ _
  all_goals first | omega | simp <;> omega

theorem Try.infoPass : (Try.prog.info? 71).map (fun i => (i.zero, i.size, i.bytes)) = some (some (.agg #[.int .i64 0, .bool false]), 2, 16) := by kernel_rfl

/-- The two cells of throw k of a list of throws. -/
theorem cellsP {w : World} {b o n : Nat} {T : List Th} (h : ∀ k, k < n * 1 → w.cell? ⟨b, o + 2 * k, none⟩ = some (.int .i64 (gt T k).1) ∧ w.cell? ⟨b, o + (2 * k + 1), none⟩ = some (.bool (gt T k).2)) {k : Nat} (hk : k < n) :
    w.cell? ⟨b, o + k * 2, none⟩ = some (.int .i64 (gt T k).1) ∧ w.cell? ⟨b, o + k * 2 + 1, none⟩ = some (.bool (gt T k).2) := by
  have h1 := h k (by omega)
  rw [show o + k * 2 = o + 2 * k by omega, show o + 2 * k + 1 = o + (2 * k + 1) by omega]
  exact h1

set_option maxHeartbeats 400000 in
theorem szPassThrowS_any (va : Value) (T : List Th) (q : Int) (w : World) (hA : RdT 1 w va T.length T) (h0 : -1 ≤ q) (h1 : q ≤ 1048576) :
    Calls Try.prog 30 #[va, .int .i64 q] w fun e w' => e = .returned (.int .i64 (if (T.length : Int) ≤ q then q - T.length else -1)) ∧ w = w' := by
  obtain ⟨ht, la, a, ca, rfl, ha⟩ := hA
  clear ha ht
  by_cases hle : (T.length : Int) ≤ q
  · rw [if_pos hle]
    go_enter Try.func30, Try.ntmps30
    go_wp2
    go_ret
    exact ⟨rfl, rfl⟩
  · rw [if_neg hle]
    go_enter Try.func30, Try.ntmps30
    go_wp2
    go_ret
    exact ⟨rfl, rfl⟩

set_option maxHeartbeats 1000000 in
theorem eqPassThrowS_same (va vb : Value) (T : List Th) (w : World) (hA : RdT 1 w va T.length T) (hB : RdT 1 w vb T.length T) :
    Calls Try.prog 38 #[va, vb] w fun e w' => e = .returned (.bool true) ∧ Below w.heap.size w w' := by
  obtain ⟨hx1, la, a, ca, rfl, ha⟩ := hA
  obtain ⟨hx2, lb, b, cb, rfl, hb⟩ := hB
  clear hx1 hx2
  go_enter Try.func38, Try.ntmps38
  go_wp2
  go_loopw [5] (fun i wr => ∃ k : Nat, k ≤ T.length ∧ i = .int .i64 k ∧ Below w.heap.size w wr) (fun i _ => T.length - (intOf i).toNat)
  case atStart => exact ⟨0, Nat.zero_le _, rfl, Below.refl _ _⟩
  case round =>
    obtain ⟨k, hk, rfl, hbl⟩ := hrel
    by_cases hlt : k < T.length
    · obtain ⟨ba, oa, rfl, hba, hca⟩ := ha (by omega)
      obtain ⟨bb, ob, rfl, hbb, hcb⟩ := hb (by omega)
      obtain ⟨p1, p2⟩ := cellsP hca hlt
      obtain ⟨q1, q2⟩ := cellsP hcb hlt
      have f := fun o => hbl.cell (p := ⟨ba, o, none⟩) hba
      have g := fun o => hbl.cell (p := ⟨bb, o, none⟩) hbb
      rw [← f] at p1 p2
      rw [← g] at q1 q2
      clear hca hcb ha hb f g
      go_wp2
      go_region_with (go_at_call 42; (with_reducible refine (eqPassThrow_same _ _ _).mono ?_); rintro e w2 ⟨rfl, hb2⟩)
      all_goals
        have hb3 := below_step hbl.drew hb2 hbl.drew.size
        have HB := Lib.hid hb3
        clear hb2 hb3
        go_wp2
        go_roundw
        case rel => exact ⟨k + 1, by omega, by go_num, HB.out⟩
        case measure => simp [intOf]; omega
    · go_wp2
      go_ret
      exact ⟨rfl, hbl⟩

/-- The first k throws of a list, and nothing behind them. -/
def fP (T : List Th) (k : Nat) : List Th := T.take k ++ List.replicate (T.length - k) (0, false)
theorem fP_length {T : List Th} {k : Nat} (h : k ≤ T.length) : (fP T k).length = T.length := by simp [fP]; omega
theorem fP_full {T : List Th} : fP T T.length = T := by simp [fP]
theorem fP_gt {T : List Th} {k j : Nat} (h : k ≤ T.length) (hj : j < T.length) : gt (fP T k) j = if j < k then gt T j else (0, false) := by
  unfold fP
  by_cases hk : j < k
  · rw [if_pos hk, gt_append_left (by simp; omega)]
    simp [gt, hk]
  · rw [if_neg hk, gt_append_right (by simp; omega)]
    rw [gt_eq (by simp; omega)]
    simp
theorem fP_succ {T : List Th} {k : Nat} (h : k + 1 ≤ T.length) : (fP T k).set k (gt T k) = fP T (k + 1) := by
  have h0 : (fP T k).length = T.length := fP_length (by omega)
  have h1 : (fP T (k + 1)).length = T.length := fP_length h
  apply gt_ext
  · simp [h0, h1]
  · intro j hj
    have hj' : j < T.length := by simpa [h0] using hj
    rw [gt_set (by rw [h0]; omega), fP_gt (by omega) hj', fP_gt h hj']
    by_cases e2 : j = k
    · subst e2; rw [if_pos rfl, if_pos (by omega)]
    · rw [if_neg e2]
      by_cases e3 : j < k
      · rw [if_pos e3, if_pos (by omega)]
      · rw [if_neg e3, if_neg (by omega)]
theorem set_twoP {G : List Th} {i : Nat} {b : Int} {z y : Bool} (h : i < G.length) : (G.set i (b, z)).set i ((gt (G.set i (b, z)) i).1, y) = G.set i (b, y) := by
  rw [gt_set h, if_pos rfl, List.set_set]

/-- The cells of throw k of a row of the call's own. -/
theorem own2 {w : World} {lo g cap n : Nat} {F : List Th} (h : w.ownsRow lo 71 2 (.slice (some ⟨g, 0, none⟩) n cap) n (cT F)) {k : Nat} (hk : k < n) :
    (w.cell? ⟨g, k * 2, none⟩ = some (.int .i64 (gt F k).1) ∧ w.cell? ⟨g, k * 2 + 1, none⟩ = some (.bool (gt F k).2)) ∧ (w.frozen? ⟨g, k * 2, none⟩ = false ∧ w.frozen? ⟨g, k * 2 + 1, none⟩ = false) := by
  have hl : F.length * 2 = n * 2 := by have := h.1; rw [cT_length] at this; omega
  refine ⟨⟨?_, ?_⟩, h.frozenAt _, h.frozenAt _⟩
  · rw [h.cellAt _ (by omega), show k * 2 = 2 * k by omega]; exact cT_v (by omega)
  · rw [h.cellAt _ (by omega), show k * 2 + 1 = 2 * k + 1 by omega]; exact cT_x (by omega)

/-- Throw k of it written. -/
theorem put2 {w : World} {lo g cap n : Nat} {F : List Th} (h : w.ownsRow lo 71 2 (.slice (some ⟨g, 0, none⟩) n cap) n (cT F)) {k : Nat} (hk : k < n) (a : Int) (x : Bool) :
    ((w.setCell ⟨g, k * 2, none⟩ (.int .i64 a)).setCell ⟨g, k * 2 + 1, none⟩ (.bool x)).ownsRow lo 71 2 (.slice (some ⟨g, 0, none⟩) n cap) n (cT (F.set k (a, x))) := by
  have hl : F.length * 2 = n * 2 := by have := h.1; rw [cT_length] at this; omega
  have h1 := (h.stored (k * 2) (.int .i64 a)).1
  rw [show k * 2 = 2 * k by omega, cT_setv (by omega)] at h1
  have h2 := (h1.stored (k * 2 + 1) (.bool x)).1
  rw [show k * 2 + 1 = 2 * k + 1 by omega, cT_setx (by simp; omega), set_twoP (by omega)] at h2
  rw [show k * 2 = 2 * k by omega]
  exact h2

set_option maxHeartbeats 1000000 in
theorem toPassThrowS_any (va : Value) (T : List Th) (w : World) (hA : RdT 1 w va T.length T) :
    Calls Try.prog 34 #[va] w fun e w' => ∃ v, e = .returned v ∧ OwnT 71 1 w' w.heap.size w'.heap.size v T.length T ∧ Below w.heap.size w w' := by
  obtain ⟨i0, hi, hz0, hz1, hz2⟩ := info_parts Try.infoPass
  obtain ⟨hT, la, a, ca, rfl, ha⟩ := hA
  have HT := Lib.hid hT
  clear hT
  go_enter Try.func34, Try.ntmps34
  go_wp2_with (at_make; refine wpList_make_full _ rfl _ _ 36 rfl w.heap.size 71 i0 (.agg #[.int .i64 0, .bool false]) 2 Try.underlying36 hi hz0 hz1 _ _ _ _ T.length rfl rfl rfl rfl ?c1 ?c2 ?c3 ?_)
  case c1 => rw [hz2]; omega
  case c2 => unfold maxLen; omega
  case c3 => exact Nat.le_refl _
  intro w1 hown1 hgrow1
  have hB1 : Below w.heap.size w w1 := (Below.refl _ _).grown hgrow1 (Nat.le_refl _) (by intro k hk; cases hk)
  have hs1 : w.heap.size < w1.heap.size := (hown1.lt _ rfl).2
  have hown2 : w1.ownsRow w.heap.size 71 2 (.slice (some ⟨w.heap.size, 0, none⟩) T.length T.length) T.length (cT (fP T 0)) := by
    have e : (madeCells #[.int .i64 0, .bool false] (T.length * 2)).toList = cT (fP T 0) := by
      apply List.ext_getElem?
      intro j
      by_cases hj : j < T.length * 2
      · have e0 : (madeCells #[.int .i64 0, .bool false] (T.length * 2)).toList[j]? = some (if j % 2 = 0 then .int .i64 0 else .bool false) := by
          simp only [madeCells, Array.toList_map, Array.toList_range, List.getElem?_map, List.getElem?_range hj, Option.map_some]
          have : j % 2 = 0 ∨ j % 2 = 1 := by omega
          rcases this with h | h
          · rw [if_pos h]; simp [h]
          · rw [if_neg (show ¬ j % 2 = 0 by omega)]; simp [h]
        rw [e0]
        by_cases hp : j % 2 = 0
        · rw [if_pos hp, show j = 2 * (j / 2) by omega, cT_v (by rw [fP_length (by omega)]; omega), fP_gt (by omega) (by omega), if_neg (by omega)]
        · rw [if_neg hp, show j = 2 * (j / 2) + 1 by omega, cT_x (by rw [fP_length (by omega)]; omega), fP_gt (by omega) (by omega), if_neg (by omega)]
      · rw [List.getElem?_eq_none (by simp [madeCells]; omega), List.getElem?_eq_none (by rw [cT_length, fP_length (by omega)]; omega)]
    rw [← e]; exact hown1
  clear hown1 hgrow1
  go_wp2
  go_loopw [4] (fun i wr => ∃ k : Nat, k ≤ T.length ∧ i = .int .i64 k ∧ wr.ownsRow w.heap.size 71 2 (.slice (some ⟨w.heap.size, 0, none⟩) T.length T.length) T.length (cT (fP T k)) ∧ Below w.heap.size w wr ∧ w1.heap.size ≤ wr.heap.size) (fun i _ => T.length - (intOf i).toNat)
  case atStart => exact ⟨0, Nat.zero_le _, rfl, hown2, hB1, Nat.le_refl _⟩
  case round =>
    obtain ⟨k, hk, rfl, hown, hB, hsz⟩ := hrel
    by_cases hlt : k < T.length
    · obtain ⟨ba, oa, rfl, hba, hca⟩ := ha (by omega)
      obtain ⟨p1, p2⟩ := cellsP hca hlt
      have f := fun o => hB.cell (p := ⟨ba, o, none⟩) hba
      rw [← f] at p1 p2
      clear hca ha f
      go_wp2_with fail
      refine (toPassThrow_any _ _ _).mono ?_
      rintro e w2 ⟨rfl, hb2⟩
      have hs2 := hb2.size
      have hown3 := row_below hown hb2
      obtain ⟨⟨c1, c2⟩, z1, z2⟩ := own2 hown3 hlt
      have H := Lib.hid (And.intro (put2 hown3 hlt (gt T k).1 (gt T k).2) (below_step hB hb2 hB.size))
      clear hown3 hown hb2 p1 p2
      go_wp2
      go_roundw
      case rel =>
        have hst := H.out.1
        rw [show ((gt T k).1, (gt T k).2) = gt T k from rfl, fP_succ (by omega)] at hst
        exact ⟨k + 1, by omega, by go_num, hst, (H.out.2.setCell (Nat.le_refl _) _).setCell (Nat.le_refl _) _, by simp; omega⟩
      case measure => simp [intOf]; omega
    · go_wp2
      go_ret
      obtain rfl : k = T.length := by omega
      rw [fP_full] at hown
      exact ⟨_, rfl, ownT_of HT.out la hown, hB⟩
end Go.Proofs.Ytdagakjeefhimaa
