/-
  Contracts of the functions on patterns with several throws at a beat (chapter 4), third part: how many props land. No condition beyond each contract's own.
-/
import Derived.Test.YtloebbeaccjgjaaM2
namespace Go.Proofs.Ytloebbeaccjgjaa
open Go.ChangeShapes Go.WideShapes Go.ChangeAt Go.RowKit


def bump (C : List Int) (x : Nat) : List Int := C.set x (gi C x + 1)
/-- What the first k throws of beat i add to the counts C. -/
def rowC (n i : Nat) (L C : List Int) : Nat → List Int
  | 0 => C
  | k + 1 => if 0 < gi L k then bump (rowC n i L C k) (((i : Int) + gi L k) % (n : Int)).toNat else rowC n i L C k
/-- How many props of the first i beats land at each beat. -/
def allC (R : List (List Int)) (n : Nat) : Nat → List Int
  | 0 => List.replicate n 0
  | i + 1 => rowC n i (gr R i) (allC R n i) (gr R i).length
theorem bump_length (C : List Int) (x : Nat) : (bump C x).length = C.length := by simp [bump]
theorem rowC_length (n i : Nat) (L C : List Int) : ∀ k, (rowC n i L C k).length = C.length
  | 0 => rfl
  | k + 1 => by
    simp only [rowC]
    split
    · rw [bump_length, rowC_length n i L C k]
    · exact rowC_length n i L C k
theorem allC_length (R : List (List Int)) (n : Nat) : ∀ i, (allC R n i).length = n
  | 0 => by simp [allC]
  | i + 1 => by simp only [allC]; rw [rowC_length, allC_length R n i]
theorem bump_bd {C : List Int} {B : Int} {x : Nat} (h : ∀ y, 0 ≤ gi C y ∧ gi C y ≤ B) : ∀ y, 0 ≤ gi (bump C x) y ∧ gi (bump C x) y ≤ B + 1 := by
  intro y
  by_cases hx : x < C.length
  · rw [bump, gi_set hx]
    have := h x
    have := h y
    split <;> omega
  · have e : bump C x = C := by rw [bump, List.set_eq_of_length_le (by omega)]
    rw [e]
    have := h y
    omega
theorem rowC_bd {n i : Nat} {L C : List Int} {B : Int} (h : ∀ y, 0 ≤ gi C y ∧ gi C y ≤ B) : ∀ k y, 0 ≤ gi (rowC n i L C k) y ∧ gi (rowC n i L C k) y ≤ B + k
  | 0, y => by have := h y; simpa [rowC] using this
  | k + 1, y => by
    have ih := rowC_bd (n := n) (i := i) (L := L) h k
    simp only [rowC]
    split
    · have := bump_bd (x := (((i : Int) + gi L k) % (n : Int)).toNat) ih y
      omega
    · have := ih y
      omega
theorem allC_bd {R : List (List Int)} {n : Nat} (h4 : ∀ j, j < R.length → (gr R j).length ≤ 4) : ∀ i, i ≤ R.length → ∀ y, 0 ≤ gi (allC R n i) y ∧ gi (allC R n i) y ≤ 4 * i
  | 0, _, y => by
    unfold allC gi
    by_cases hy : y < n
    · simp [hy]
    · simp [hy]
  | i + 1, hi, y => by
    have ih := allC_bd (n := n) h4 i (by omega)
    have := rowC_bd (n := n) (i := i) (L := gr R i) ih (gr R i).length y
    have := h4 i (by omega)
    simp only [allC]
    omega

set_option maxHeartbeats 4000000 in
theorem landingCounts_any (v : Value) (R : List (List Int)) (w : World) (hp : RdR w v R) (hok : okM R = true) :
    Calls Try.prog 43 #[v] w fun e w' => ∃ u, e = .returned u ∧ Own w' w.heap.size w'.heap.size u (allC R R.length R.length) ∧ Below w.heap.size w w' := by
  obtain ⟨i0, hi, hz0, hz1, hz2⟩ := info_parts Try.infoInt64
  obtain ⟨h1, h12, hst⟩ := okM_true hok
  have HST := Lib.hid (fun j hj => stB_true (hst j hj))
  clear hst hok
  obtain ⟨la, a, ca, rfl, ha⟩ := hp
  go_enter Try.func43, Try.ntmps43
  go_wp2_with (at_make; refine wpList_make_full _ rfl _ _ 22 rfl w.heap.size 2 i0 (.int .i64 0) 1 Try.underlying22 hi hz0 hz1 _ _ _ _ R.length rfl rfl rfl rfl ?c1 ?c2 ?c3 ?_)
  case c1 => rw [hz2]; omega
  case c2 => unfold maxLen; omega
  case c3 => exact Nat.le_refl _
  intro w1 hown1 hgrow1
  have hB1 : Below w.heap.size w w1 := (Below.refl _ _).grown hgrow1 (Nat.le_refl _) (by intro k hk; cases hk)
  have hown2 : w1.ownsRow w.heap.size 2 1 (.slice (some ⟨w.heap.size, 0, none⟩) R.length R.length) R.length ((allC R R.length 0).map (Value.int .i64)) := by
    have e : (madeCells #[Value.int .i64 0] R.length).toList = (allC R R.length 0).map (Value.int .i64) := by
      apply List.ext_getElem
      · simp [madeCells, allC]
      · intro j h1 h2
        simp [madeCells, Nat.mod_one, allC]
    rw [← e]; exact hown1
  clear hown1 hgrow1
  obtain ⟨g, hg⟩ : ∃ g : Nat, g = w.heap.size := ⟨_, rfl⟩
  rw [← hg] at hown2 ⊢
  have hsg : w.heap.size ≤ g := by omega
  have HG := Lib.hid hg
  clear hg
  go_wp2
  go_loopw [15] (fun i wr => ∃ r : Nat, r ≤ R.length ∧ i = .int .i64 r ∧ wr.ownsRow w.heap.size 2 1 (.slice (some ⟨g, 0, none⟩) R.length R.length) R.length ((allC R R.length r).map (Value.int .i64)) ∧ Below w.heap.size w wr) (fun i _ => R.length - (intOf i).toNat)
  case atStart => exact ⟨0, Nat.zero_le _, rfl, by first | exact hown2 | (rw [HG.out]; exact hown2) | (rw [← HG.out]; exact hown2), hB1⟩
  case round =>
    obtain ⟨r, hr, rfl, hown, hB⟩ := hrel
    by_cases hltr : r < R.length
    · obtain ⟨ba, oa, cs, rfl, hba, hca⟩ := ha (by omega)
      have p0 := (hca r hltr).1
      obtain ⟨lL, aL, cL, hvL, hcL⟩ := (hca r hltr).2
      rw [hvL] at p0
      have bst := HST.out r hltr
      have bC := allC_bd (n := R.length) (fun j hj => (HST.out j hj).2.1) r hr
      have HN := Lib.hid (show allC R R.length (r + 1) = rowC R.length r (gr R r) (allC R R.length r) (gr R r).length from rfl)
      obtain ⟨L, hL⟩ : ∃ L, L = gr R r := ⟨_, rfl⟩
      obtain ⟨C, hC⟩ : ∃ C, C = allC R R.length r := ⟨_, rfl⟩
      have hCl : C.length = R.length := by rw [hC]; exact allC_length _ _ _
      rw [← hL, ← hC] at HN
      rw [← hL] at p0 hcL lL bst
      rw [← hC] at bC hown
      have HLL := Lib.hid (And.intro hL hC)
      have HBC := Lib.hid (And.intro bC (And.intro hCl bst.2.2.1))
      have hL4 := bst.2.1
      have hL1 := bst.1
      clear hL hC hvL hca ha bC hCl bst
      have p1 := (hB.cell (p := ⟨ba, _, none⟩) hba).trans p0
      go_wp2
      clear p1
      go_loopw [22] (fun i wr => ∃ k : Nat, k ≤ L.length ∧ i = .int .i64 k ∧ wr.ownsRow w.heap.size 2 1 (.slice (some ⟨g, 0, none⟩) R.length R.length) R.length ((rowC R.length r L C k).map (Value.int .i64)) ∧ Below w.heap.size w wr) (fun i _ => L.length - (intOf i).toNat)
      case atStart => exact ⟨0, Nat.zero_le _, rfl, hown, hB⟩
      case round =>
        obtain ⟨k, hk, rfl, hown, hB⟩ := hrel
        have p1 := (hB.cell (p := ⟨ba, _, none⟩) hba).trans p0
        by_cases hlt : k < L.length
        · obtain ⟨bb, ob, rfl, hbb, hcb⟩ := hcL (by omega)
          have y1 := (hB.cell (p := ⟨bb, ob + k, none⟩) hbb).trans (hcb k hlt)
          have bt := HBC.out.2.2 k hlt
          have HS := Lib.hid (show rowC R.length r L C (k + 1) = if 0 < gi L k then bump (rowC R.length r L C k) (((r : Int) + gi L k) % (R.length : Int)).toNat else rowC R.length r L C k from rfl)
          clear hcb hcL
          by_cases hpos : 0 < gi L k
          · have b1 : 0 ≤ ((r : Int) + gi L k) % (R.length : Int) := Int.emod_nonneg _ (by omega)
            have b2 : ((r : Int) + gi L k) % (R.length : Int) < R.length := Int.emod_lt_of_pos _ (by omega)
            have m4 : ((r : Int) + gi L k).tmod (R.length : Int) = ((r : Int) + gi L k) % (R.length : Int) := Int.tmod_eq_emod_of_nonneg (by omega)
            obtain ⟨x, hx⟩ : ∃ x : Nat, x = (((r : Int) + gi L k) % (R.length : Int)).toNat := ⟨_, rfl⟩
            have hxe : ((r : Int) + gi L k) % (R.length : Int) = (x : Int) := by omega
            have hxl : x < R.length := by omega
            rw [← hx] at HS
            rw [hxe] at m4
            have bV := rowC_bd (n := R.length) (i := r) (L := L) HBC.out.1 k x
            have hlen : (rowC R.length r L C k).length = R.length := by rw [rowC_length]; exact HBC.out.2.1
            have c0 := hown.cellAt x (by omega)
            have c1 : (List.map (Value.int .i64) (rowC R.length r L C k))[x]? = some (.int .i64 (gi (rowC R.length r L C k) x)) := by
              rw [List.getElem?_map, List.getElem?_eq_getElem (by omega), gi_eq (by omega)]; rfl
            rw [c1] at c0
            have fz := hown.frozenAt x
            have hrow : Hid ((wr.setCell ⟨g, x, none⟩ (.int .i64 (gi (rowC R.length r L C k) x + 1))).ownsRow w.heap.size 2 1 (.slice (some ⟨g, 0, none⟩) R.length R.length) R.length ((rowC R.length r L C (k + 1)).map (Value.int .i64))) := by
              have s1 := (hown.stored x (.int .i64 (gi (rowC R.length r L C k) x + 1))).1
              rw [HS.out, if_pos hpos, bump, List.map_set]
              exact Lib.hid s1
            obtain ⟨V, hV⟩ : ∃ V, V = gi (rowC R.length r L C k) x := ⟨_, rfl⟩
            rw [← hV] at c0 hrow bV
            have hn0 : ¬ (R.length : Int) = 0 := by omega
            have hr0 : ¬ R.length = 0 := by omega
            clear hx hV c1 hlen b1 b2 hown hxe
            go_wp2
            go_roundw
            case rel => exact ⟨k + 1, by omega, by go_num, hrow.out, hB.setCell hsg _⟩
            case measure => simp [intOf]; omega
          · have hpd : decide ((0 : Int) < gi L k) = false := decide_eq_false hpos
            go_wp2
            go_roundw
            case rel => exact ⟨k + 1, by omega, by go_num, by rw [HS.out, if_neg hpos]; exact hown, hB⟩
            case measure => simp [intOf]; omega
        · obtain rfl : k = L.length := by omega
          go_wp2
          go_roundw
          case rel => exact ⟨r + 1, by omega, by go_num, by rw [HN.out]; exact hown, hB⟩
          case measure => simp [intOf]; omega
    · go_wp2
      go_ret
      obtain rfl : r = R.length := by omega
      exact ⟨_, rfl, own_of (by rw [allC_length]; omega) (by rw [allC_length]; exact hown), hB⟩

set_option maxHeartbeats 4000000 in
theorem l04Landings_any (v : Value) (R : List (List Int)) (w : World) (hp : RdQM w v R) (hok : okM R = true) :
    Calls Try.prog 40 #[v] w fun e w' => ∃ u, e = .returned u ∧ Own w' w.heap.size w'.heap.size u (allC R R.length R.length) ∧ Below w.heap.size w w' := by
  obtain ⟨i0, hi, hz0, hz1, hz2⟩ := info_parts Try.infoInt64
  obtain ⟨h1, h12, hst⟩ := okM_true hok
  have HST := Lib.hid (fun j hj => stB_true (hst j hj))
  clear hst hok
  obtain ⟨bq, s, c, rfl, hltq, d1, la, a, ca, hv, ha⟩ := hp
  cases hv
  go_enter Try.func40, Try.ntmps40
  go_wp2_with (at_make; refine wpList_make_full _ rfl _ _ 22 rfl w.heap.size 2 i0 (.int .i64 0) 1 Try.underlying22 hi hz0 hz1 _ _ _ _ R.length rfl rfl rfl rfl ?c1 ?c2 ?c3 ?_)
  case c1 => rw [hz2]; omega
  case c2 => unfold maxLen; omega
  case c3 => exact Nat.le_refl _
  intro w1 hown1 hgrow1
  have hB1 : Below w.heap.size w w1 := (Below.refl _ _).grown hgrow1 (Nat.le_refl _) (by intro k hk; cases hk)
  have hown2 : w1.ownsRow w.heap.size 2 1 (.slice (some ⟨w.heap.size, 0, none⟩) R.length R.length) R.length ((allC R R.length 0).map (Value.int .i64)) := by
    have e : (madeCells #[Value.int .i64 0] R.length).toList = (allC R R.length 0).map (Value.int .i64) := by
      apply List.ext_getElem
      · simp [madeCells, allC]
      · intro j h1 h2
        simp [madeCells, Nat.mod_one, allC]
    rw [← e]; exact hown1
  clear hown1 hgrow1
  obtain ⟨g, hg⟩ : ∃ g : Nat, g = w.heap.size := ⟨_, rfl⟩
  rw [← hg] at hown2 ⊢
  have hsg : w.heap.size ≤ g := by omega
  have HG := Lib.hid hg
  clear hg
  go_wp2
  go_loopw [5] (fun i wr => ∃ r : Nat, r ≤ R.length ∧ i = .int .i64 r ∧ wr.ownsRow w.heap.size 2 1 (.slice (some ⟨g, 0, none⟩) R.length R.length) R.length ((allC R R.length r).map (Value.int .i64)) ∧ Below w.heap.size w wr) (fun i _ => R.length - (intOf i).toNat)
  case atStart => exact ⟨0, Nat.zero_le _, rfl, by first | exact hown2 | (rw [HG.out]; exact hown2) | (rw [← HG.out]; exact hown2), hB1⟩
  case round =>
    obtain ⟨r, hr, rfl, hown, hB⟩ := hrel
    by_cases hltr : r < R.length
    · obtain ⟨ba, oa, cs, rfl, hba, hca⟩ := ha (by omega)
      have p0 := (hca r hltr).1
      obtain ⟨lL, aL, cL, hvL, hcL⟩ := (hca r hltr).2
      rw [hvL] at p0
      have bst := HST.out r hltr
      have bC := allC_bd (n := R.length) (fun j hj => (HST.out j hj).2.1) r hr
      have HN := Lib.hid (show allC R R.length (r + 1) = rowC R.length r (gr R r) (allC R R.length r) (gr R r).length from rfl)
      obtain ⟨L, hL⟩ : ∃ L, L = gr R r := ⟨_, rfl⟩
      obtain ⟨C, hC⟩ : ∃ C, C = allC R R.length r := ⟨_, rfl⟩
      have hCl : C.length = R.length := by rw [hC]; exact allC_length _ _ _
      rw [← hL, ← hC] at HN
      rw [← hL] at p0 hcL lL bst
      rw [← hC] at bC hown
      have HLL := Lib.hid (And.intro hL hC)
      have HBC := Lib.hid (And.intro bC (And.intro hCl bst.2.2.1))
      have hL4 := bst.2.1
      have hL1 := bst.1
      clear hL hC hvL hca ha bC hCl bst
      have p1 := (hB.cell (p := ⟨ba, _, none⟩) hba).trans p0
      have z1 := (hB.cell (p := ⟨bq, 0, none⟩) hltq).trans d1
      go_wp2
      clear p1
      go_loopw [6] (fun i wr => ∃ k : Nat, k ≤ L.length ∧ i = .int .i64 k ∧ wr.ownsRow w.heap.size 2 1 (.slice (some ⟨g, 0, none⟩) R.length R.length) R.length ((rowC R.length r L C k).map (Value.int .i64)) ∧ Below w.heap.size w wr) (fun i _ => L.length - (intOf i).toNat)
      case atStart => exact ⟨0, Nat.zero_le _, rfl, hown, hB⟩
      case round =>
        obtain ⟨k, hk, rfl, hown, hB⟩ := hrel
        have p1 := (hB.cell (p := ⟨ba, _, none⟩) hba).trans p0
        have z1 := (hB.cell (p := ⟨bq, 0, none⟩) hltq).trans d1
        by_cases hlt : k < L.length
        · obtain ⟨bb, ob, rfl, hbb, hcb⟩ := hcL (by omega)
          have y1 := (hB.cell (p := ⟨bb, ob + k, none⟩) hbb).trans (hcb k hlt)
          have bt := HBC.out.2.2 k hlt
          have HS := Lib.hid (show rowC R.length r L C (k + 1) = if 0 < gi L k then bump (rowC R.length r L C k) (((r : Int) + gi L k) % (R.length : Int)).toNat else rowC R.length r L C k from rfl)
          clear hcb hcL
          by_cases hpos : 0 < gi L k
          · have b1 : 0 ≤ ((r : Int) + gi L k) % (R.length : Int) := Int.emod_nonneg _ (by omega)
            have b2 : ((r : Int) + gi L k) % (R.length : Int) < R.length := Int.emod_lt_of_pos _ (by omega)
            have m4 : ((r : Int) + gi L k).tmod (R.length : Int) = ((r : Int) + gi L k) % (R.length : Int) := Int.tmod_eq_emod_of_nonneg (by omega)
            obtain ⟨x, hx⟩ : ∃ x : Nat, x = (((r : Int) + gi L k) % (R.length : Int)).toNat := ⟨_, rfl⟩
            have hxe : ((r : Int) + gi L k) % (R.length : Int) = (x : Int) := by omega
            have hxl : x < R.length := by omega
            rw [← hx] at HS
            rw [hxe] at m4
            have bV := rowC_bd (n := R.length) (i := r) (L := L) HBC.out.1 k x
            have hlen : (rowC R.length r L C k).length = R.length := by rw [rowC_length]; exact HBC.out.2.1
            have c0 := hown.cellAt x (by omega)
            have c1 : (List.map (Value.int .i64) (rowC R.length r L C k))[x]? = some (.int .i64 (gi (rowC R.length r L C k) x)) := by
              rw [List.getElem?_map, List.getElem?_eq_getElem (by omega), gi_eq (by omega)]; rfl
            rw [c1] at c0
            have fz := hown.frozenAt x
            have hrow : Hid ((wr.setCell ⟨g, x, none⟩ (.int .i64 (gi (rowC R.length r L C k) x + 1))).ownsRow w.heap.size 2 1 (.slice (some ⟨g, 0, none⟩) R.length R.length) R.length ((rowC R.length r L C (k + 1)).map (Value.int .i64))) := by
              have s1 := (hown.stored x (.int .i64 (gi (rowC R.length r L C k) x + 1))).1
              rw [HS.out, if_pos hpos, bump, List.map_set]
              exact Lib.hid s1
            obtain ⟨V, hV⟩ : ∃ V, V = gi (rowC R.length r L C k) x := ⟨_, rfl⟩
            rw [← hV] at c0 hrow bV
            have hn0 : ¬ (R.length : Int) = 0 := by omega
            have hr0 : ¬ R.length = 0 := by omega
            clear hx hV c1 hlen b1 b2 hown hxe
            go_wp2
            go_roundw
            case rel => exact ⟨k + 1, by omega, by go_num, hrow.out, hB.setCell hsg _⟩
            case measure => simp [intOf]; omega
          · have hpd : decide ((0 : Int) < gi L k) = false := decide_eq_false hpos
            go_wp2
            go_roundw
            case rel => exact ⟨k + 1, by omega, by go_num, by rw [HS.out, if_neg hpos]; exact hown, hB⟩
            case measure => simp [intOf]; omega
        · obtain rfl : k = L.length := by omega
          go_wp2
          go_roundw
          case rel => exact ⟨r + 1, by omega, by go_num, by rw [HN.out]; exact hown, hB⟩
          case measure => simp [intOf]; omega
    · go_wp2
      go_ret
      obtain rfl : r = R.length := by omega
      exact ⟨_, rfl, own_of (by rw [allC_length]; omega) (by rw [allC_length]; exact hown), hB⟩
end Go.Proofs.Ytloebbeaccjgjaa
