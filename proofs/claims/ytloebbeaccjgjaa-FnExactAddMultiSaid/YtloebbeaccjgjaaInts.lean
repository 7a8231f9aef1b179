/-
  Contracts of the laws' own helpers on slices of numbers: toInt64S, eqInt64S, markInt64S, heldInt64S. No condition.
-/
import Derived.Test.YtloebbeaccjgjaaBase
namespace Go.Proofs.Ytloebbeaccjgjaa
open Go.ChangeShapes Go.WideShapes Go.ChangeAt Go.RowKit



set_option maxHeartbeats 400000 in
theorem eqInt64S_any (va vb : Value) (A B : List Int) (w : World) (hA : Rd w va A) (hB : Rd w vb B) :
    Calls Try.prog 9 #[va, vb] w fun e w' => e = .returned (.bool (decide (A = B))) ∧ ∃ n, w' = w.drewN n := by
  obtain ⟨la, a, ca, rfl, ha⟩ := hA
  obtain ⟨lb, b, cb, rfl, hb⟩ := hB
  by_cases hl : A.length = B.length
  · go_enter Try.func9, Try.ntmps9
    go_wp2
    have HL := Lib.hid hl
    clear hl
    go_loopw [5] (fun i wr => ∃ k n : Nat, k ≤ A.length ∧ i = .int .i64 k ∧ (∀ j, j < k → gi A j = gi B j) ∧ wr = w.drewN n) (fun i _ => A.length - (intOf i).toNat)
    case atStart => exact ⟨0, 0, Nat.zero_le _, rfl, fun j hj => absurd hj (Nat.not_lt_zero j), rfl⟩
    case round =>
      obtain ⟨k, n, hk, rfl, heq, rfl⟩ := hrel
      have Heq := Lib.hid heq
      clear heq
      by_cases hlt : k < A.length
      · have hltB : k < B.length := by have := HL.out; omega
        obtain ⟨ba, oa, rfl, hba, hca⟩ := ha (by omega)
        obtain ⟨bb, ob, rfl, hbb, hcb⟩ := hb (by omega)
        have h1 := hca k hlt
        have h2 := hcb k hltB
        clear hca hcb
        go_wp2
        go_quiet (fail)
        go_wp2
        · go_ret
          have hne : (gi A k != gi B k) = true := by assumption
          have : A ≠ B := fun h => by rw [h] at hne; simp at hne
          exact ⟨by simp [this], n + nq, World.drewN_drewN _ _ _⟩
        · go_roundw
          case rel =>
            have he : (gi A k != gi B k) = false := by assumption
            have he' : gi A k = gi B k := by simpa using he
            refine ⟨k + 1, _, by omega, by go_num, fun j hj => ?_, rfl⟩
            by_cases hjk : j = k
            · rw [hjk]; exact he'
            · exact Heq.out j (by omega)
          case measure => simp [intOf]; omega
      · go_wp2
        go_ret
        have : A = B := gi_ext HL.out (fun j hj => Heq.out j (by omega))
        exact ⟨by simp [this], _, rfl⟩
  · go_enter Try.func9, Try.ntmps9
    go_wp2
    go_ret
    have : A ≠ B := fun h => hl (by rw [h])
    exact ⟨by simp [this], 0, rfl⟩

/-- What the law's own function held.. answers over the numbers A, begun at q. -/
def heldRes (A : List Int) (q : Int) : Int := if ∀ j, j < A.length → gi A j = q + j then q + A.length else -1

set_option maxHeartbeats 400000 in
theorem heldInt64S_any (va : Value) (A : List Int) (q : Int) (w : World) (hA : Rd w va A) (h0 : 0 ≤ q) (h1 : q ≤ 1000000000000000) :
    Calls Try.prog 11 #[va, .int .i64 q] w fun e w' => e = .returned (.int .i64 (heldRes A q)) ∧ w = w' := by
  obtain ⟨la, a, ca, rfl, ha⟩ := hA
  go_enter Try.func11, Try.ntmps11
  go_wp2
  go_loop [1, 5] (fun q' i => ∃ k : Nat, k ≤ A.length ∧ i = .int .i64 k ∧ q' = .int .i64 (q + k) ∧ (∀ j, j < k → gi A j = q + j)) (fun _ i => A.length - (intOf i).toNat)
  case atStart => exact ⟨0, Nat.zero_le _, rfl, by go_num, fun j hj => absurd hj (Nat.not_lt_zero j)⟩
  case round =>
    obtain ⟨k, hk, rfl, rfl, heq⟩ := hrel
    have Heq := Lib.hid heq
    clear heq
    by_cases hlt : k < A.length
    · obtain ⟨ba, oa, rfl, hba, hca⟩ := ha (by omega)
      have hc1 := hca k hlt
      clear hca ha
      go_wp2
      · go_ret
        have hne : (gi A k != q + ↑k) = true := by assumption
        rw [heldRes, if_neg (fun h => by rw [h k hlt] at hne; simp at hne)]
        exact ⟨rfl, rfl⟩
      · go_round
        case rel =>
          have he : (gi A k != q + ↑k) = false := by assumption
          have he' : gi A k = q + ↑k := by simpa using he
          refine ⟨k + 1, by omega, by go_num, by go_num, fun j hj => ?_⟩
          by_cases hjk : j = k
          · rw [hjk]; exact he'
          · exact Heq.out j (by omega)
        case measure => simp [intOf]; omega
    · go_wp2
      go_ret
      have hk' : k = A.length := by omega
      rw [heldRes, if_pos (fun j hj => Heq.out j (by omega)), hk']
      exact ⟨rfl, rfl⟩

set_option maxHeartbeats 400000 in
theorem toInt64S_any (va : Value) (A : List Int) (w : World) (hA : Rd w va A) :
    Calls Try.prog 7 #[va] w fun e w' => ∃ v, e = .returned v ∧ Own w' w.heap.size w'.heap.size v A ∧ Below w.heap.size w w' := by
  obtain ⟨i0, hi, hz0, hz1, hz2⟩ := info_parts Try.infoInt64
  obtain ⟨la, a, ca, rfl, ha⟩ := hA
  go_enter Try.func7, Try.ntmps7
  go_wp2_with (at_make; refine wpList_make_full _ rfl _ _ 22 rfl w.heap.size 2 i0 (.int .i64 0) 1 Try.underlying22 hi hz0 hz1 _ _ _ _ A.length rfl rfl rfl rfl ?c1 ?c2 ?c3 ?_)
  case c1 => rw [hz2]; omega
  case c2 => unfold maxLen; omega
  case c3 => exact Nat.le_refl _
  intro w1 hown1 hgrow1
  have hB1 : Below w.heap.size w w1 := (Below.refl _ _).grown hgrow1 (Nat.le_refl _) (by intro k hk; cases hk)
  have hs1 : w.heap.size < w1.heap.size := (hown1.lt _ rfl).2
  have hown2 : w1.ownsRow w.heap.size 2 1 (.slice (some ⟨w.heap.size, 0, none⟩) A.length A.length) A.length ((A.take 0 ++ List.replicate (A.length - 0) 0).map (Value.int .i64)) := by
    have e : (madeCells #[Value.int .i64 0] A.length).toList = (A.take 0 ++ List.replicate (A.length - 0) 0).map (Value.int .i64) := by
      apply List.ext_getElem
      · simp [madeCells]
      · intro j h1 h2
        simp [madeCells, Nat.mod_one]
    rw [← e]; exact hown1
  clear hown1 hgrow1
  go_wp2
  go_loopw [4] (fun i wr => ∃ k : Nat, k ≤ A.length ∧ i = .int .i64 k ∧ wr.ownsRow w.heap.size 2 1 (.slice (some ⟨w.heap.size, 0, none⟩) A.length A.length) A.length ((A.take k ++ List.replicate (A.length - k) 0).map (Value.int .i64)) ∧ Below w.heap.size w wr ∧ w1.heap.size ≤ wr.heap.size) (fun i _ => A.length - (intOf i).toNat)
  case atStart => exact ⟨0, Nat.zero_le _, rfl, hown2, hB1, Nat.le_refl _⟩
  case round =>
    obtain ⟨k, hk, rfl, hown, hB, hsz⟩ := hrel
    by_cases hlt : k < A.length
    · obtain ⟨ba, oa, rfl, hba, hca⟩ := ha (by omega)
      have h1 : wr.cell? ⟨ba, oa + k, none⟩ = some (.int .i64 (gi A k)) := (hB.cell (p := ⟨ba, oa + k, none⟩) hba).trans (hca k hlt)
      have hfz := hown.frozenAt k
      have hc0 : wr.cell? ⟨w.heap.size, k, none⟩ = some (.int .i64 0) := by
        rw [hown.cellAt k (by omega)]
        exact fill_at _ A k hlt
      clear hca
      go_wp2
      go_roundw
      case rel =>
        have hst := (hown.stored k (.int .i64 (gi A k))).1
        rw [fill_set _ A k hlt] at hst
        exact ⟨k + 1, by omega, by go_num, hst, hB.setCell (Nat.le_refl _) _, by simp; omega⟩
      case measure => simp [intOf]; omega
    · go_wp2
      go_ret
      have hk' : k = A.length := by omega
      subst hk'
      refine ⟨_, rfl, own_of la ?_, hB⟩
      simpa using hown

theorem eqInt64S_same (va vb : Value) (A : List Int) (w : World) (hA : Rd w va A) (hB : Rd w vb A) :
    Calls Try.prog 9 #[va, vb] w fun e w' => e = .returned (.bool true) ∧ Below w.heap.size w w' :=
  (eqInt64S_any va vb A A w hA hB).mono fun e w' ⟨he, n, hw⟩ => ⟨by rw [he]; simp, by rw [hw]; exact below_dn w n⟩

/-- The numbers q, q + 1, .. : what a marked slice of n places holds. -/
def marks (q : Int) (n : Nat) : List Int := (List.range n).map (fun (j : Nat) => q + (j : Int))
theorem marks_length (q : Int) (n : Nat) : (marks q n).length = n := by simp [marks]
theorem marks_gi (q : Int) (n j : Nat) (h : j < n) : gi (marks q n) j = q + j := by
  rw [gi_eq (by simpa [marks] using h)]
  simp [marks]
theorem marks_snoc (q : Int) (n : Nat) : marks q (n + 1) = marks q n ++ [q + (n : Int)] := by simp [marks, List.range_succ]
theorem held_marks (q : Int) (A : List Int) (n : Nat) (h : A = marks q n) : heldRes A q = q + n := by
  subst h
  rw [heldRes, if_pos (fun j hj => marks_gi q n j (by simpa [marks] using hj)), marks_length]
theorem mark_set (q : Int) (A : List Int) (k : Nat) (h : k < A.length) :
    ((marks q k ++ A.drop k).map (Value.int .i64)).set k (.int .i64 (q + k)) = (marks q (k + 1) ++ A.drop (k + 1)).map (Value.int .i64) := by
  rw [marks_snoc, List.drop_eq_getElem_cons h, List.append_assoc, ← List.map_set, List.set_append, if_neg (by simp [marks])]
  rw [marks_length, Nat.sub_self, List.set_cons_zero, List.singleton_append]
theorem mark_at (q : Int) (A : List Int) (k : Nat) (h : k < A.length) : ((marks q k ++ A.drop k).map (Value.int .i64))[k]? = some (.int .i64 (gi A k)) := by
  rw [List.getElem?_map, List.getElem?_append_right (by simp [marks]), marks_length, List.getElem?_drop, Nat.sub_self, Nat.add_zero, List.getElem?_eq_getElem h, gi_eq h]
  rfl
set_option maxHeartbeats 400000 in
theorem markInt64S_any (va : Value) (A : List Int) (q : Int) (lo hi : Nat) (w : World) (hA : Own w lo hi va A) (h0 : 0 ≤ q) (h1 : q ≤ 1000000000000000) :
    Calls Try.prog 10 #[va, .int .i64 q] w fun e w' => e = .returned (.int .i64 (q + A.length)) ∧ Own w' lo hi va (marks q A.length) ∧ Chg w w' lo hi := by
  obtain ⟨la, hA, hhi⟩ := hA
  have hA2 := hA
  obtain ⟨hlen, hcase⟩ := hA2
  rcases hcase with ⟨rfl, hn⟩ | ⟨g, cap, cur, rfl, hb, hg, hnc, hm, hs, ht⟩
  · obtain rfl : A = [] := List.length_eq_zero_iff.1 hn
    go_enter Try.func10, Try.ntmps10
    go_wp2
    refine wp_loop_rounds 1 ?_
    rw [rounds_succ]
    go_wp2
    go_ret
    exact ⟨by simp, own_nil _ _ _, Chg.refl _ _ _⟩
  · have hgh := hhi g rfl
    clear hg hs ht
    go_enter Try.func10, Try.ntmps10
    go_wp2
    go_loopw [1, 5] (fun q' i wr => ∃ k : Nat, k ≤ A.length ∧ i = .int .i64 k ∧ q' = .int .i64 (q + k) ∧ wr.ownsRow lo 2 1 (.slice (some ⟨g, 0, none⟩) A.length cap) A.length ((marks q k ++ A.drop k).map (Value.int .i64)) ∧ Chg w wr lo hi) (fun _ i _ => A.length - (intOf i).toNat)
    case atStart => exact ⟨0, Nat.zero_le _, rfl, by go_num, by simpa [marks] using hA, Chg.refl _ _ _⟩
    case round =>
      obtain ⟨k, hk, rfl, rfl, hown, hgr⟩ := hrel
      by_cases hlt : k < A.length
      · have hfz := hown.frozenAt k
        have hc0 : wr.cell? ⟨g, k, none⟩ = some (.int .i64 (gi A k)) := by
          rw [hown.cellAt k (by omega)]
          exact mark_at q A k hlt
        go_wp2
        go_roundw
        case rel =>
          have hst := hown.stored k (.int .i64 (q + k))
          rw [mark_set q A k hlt] at hst
          exact ⟨k + 1, by omega, by go_num, by go_num, hst.1, hgr.setCell _ _ hb hgh⟩
        case measure => simp [intOf]; omega
      · go_wp2
        go_ret
        have hk' : k = A.length := by omega
        subst hk'
        refine ⟨rfl, ⟨by rw [marks_length]; exact la, ?_, hhi⟩, hgr⟩
        rw [marks_length]
        simpa using hown

theorem heldInt64S_same (va : Value) (q : Int) (n lo hi : Nat) (w : World) (hA : Own w lo hi va (marks q n)) (h0 : 0 ≤ q) (h1 : q ≤ 1000000000000000) :
    Calls Try.prog 11 #[va, .int .i64 q] w fun e w' => e = .returned (.int .i64 (q + n)) ∧ Below w.heap.size w w' :=
  (heldInt64S_any va _ q w hA.rd h0 h1).mono fun e w' ⟨he, hw⟩ => ⟨by rw [he, held_marks q _ n rfl], by rw [← hw]; exact Below.refl _ _⟩
end Go.Proofs.Ytloebbeaccjgjaa
