/-
  Contracts of the functions on patterns with several throws at a beat (chapter 4), ninth part: patterns of one throw at each beat. No condition beyond each contract's own.
-/
import Derived.Test.YtloebbeaccjgjaaM8
import Derived.Test.YtloebbeaccjgjaaL02b
import Derived.Deep.RegionLaw
namespace Go.Proofs.Ytloebbeaccjgjaa
open Go.ChangeShapes Go.WideShapes Go.ChangeAt Go.RowKit


def sgR (p : List Int) (k : Nat) : List (List Int) := (List.range k).map fun j => [gi p j]
theorem sgR_length (p : List Int) (k : Nat) : (sgR p k).length = k := by simp [sgR]
theorem sgR_succ (p : List Int) (k : Nat) : sgR p (k + 1) = sgR p k ++ [[gi p k]] := by simp [sgR, List.range_succ]
theorem sgR_sum (p : List Int) : ∀ k, sumLen (sgR p k) (sgR p k).length = k
  | 0 => rfl
  | k + 1 => by rw [sgR_succ, sumLen_app, sgR_sum p k]; rfl
def moL (p : List Int) : List (List Int) := if validB p then sgR p p.length else []
def moC (p : List Int) : Int := if validB p then 0 else 1

/-- What stands when a row of one number has been made for the appending. -/
theorem one_row {w : World} {lo : Nat} {v : Value} {T : List (List Int)} (hT : OwnR w lo w.heap.size v T) (x : Int) (o2 : Obj) :
    OwnR ((w.alloc (.cells #[.int .i64 x] 2)).alloc o2) lo w.heap.size v T ∧ Own ((w.alloc (.cells #[.int .i64 x] 2)).alloc o2) w.heap.size ((w.alloc (.cells #[.int .i64 x] 2)).alloc o2).heap.size (.slice (some ⟨w.heap.size, 0, none⟩) 1 1) [x] ∧ Below w.heap.size w ((w.alloc (.cells #[.int .i64 x] 2)).alloc o2) ∧ ((w.alloc (.cells #[.int .i64 x] 2)).alloc o2).heap[w.heap.size + 1]? = some o2 := by
  have hb1 := (Below.refl w.heap.size w).alloc (Nat.le_refl _) (.cells #[.int .i64 x] 2)
  have hb2 := hb1.alloc (by simp) o2
  have hb3 := (Below.refl (w.alloc (.cells #[.int .i64 x] 2)).heap.size (w.alloc (.cells #[.int .i64 x] 2))).alloc (Nat.le_refl _) o2
  exact ⟨hT.below hb2, ((own_one w x).below hb3).mono (Nat.le_refl _) (by simp), hb2, by rw [show w.heap.size + 1 = (w.alloc (.cells #[.int .i64 x] 2)).heap.size by simp]; exact heap_alloc_new _ _⟩

/-- The variable 'out' of a pattern that is being made: its cell is the first above H. -/
def OutM (W wr : World) (H : Nat) (v : Value) (T : List (List Int)) : Prop :=
  wr.cell? ⟨H + 1, 0, none⟩ = some v ∧ wr.frozen? ⟨H + 1, 0, none⟩ = false ∧ wr.cell? ⟨H, 0, none⟩ = some (.slice none 0 0) ∧ wr.frozen? ⟨H, 0, none⟩ = false ∧ OwnR wr (H + 2) wr.heap.size v T ∧ Below H W wr ∧ H + 2 ≤ wr.heap.size
theorem OutM.below {W wr w2 : World} {H : Nat} {v : Value} {T : List (List Int)} (h : OutM W wr H v T) (hb : Below wr.heap.size wr w2) : wr.heap.size ≤ w2.heap.size ∧ w2.cell? ⟨H + 1, 0, none⟩ = some v ∧ w2.frozen? ⟨H + 1, 0, none⟩ = false ∧ w2.cell? ⟨H, 0, none⟩ = some (.slice none 0 0) ∧ w2.frozen? ⟨H, 0, none⟩ = false ∧ OwnR w2 (H + 2) wr.heap.size v T ∧ Below H W w2 := by
  obtain ⟨a1, a2, a3, a4, a5, a6, a7⟩ := h
  exact ⟨hb.size, (hb.cell (p := ⟨H + 1, 0, none⟩) (by show H + 1 < _; omega)).trans a1, (hb.frozen (p := ⟨H + 1, 0, none⟩) (by show H + 1 < _; omega)).trans a2, (hb.cell (p := ⟨H, 0, none⟩) (by show H < _; omega)).trans a3, (hb.frozen (p := ⟨H, 0, none⟩) (by show H < _; omega)).trans a4, a5.below hb, below_step a6 hb (by omega)⟩
/-- A row is appended and stored. -/
theorem outM_next {W w2 w3 : World} {H : Nat} {v' : Value} {T : List (List Int)} (hB : Below H W w2) (hs : H + 2 ≤ w2.heap.size) (hz1 : w2.frozen? ⟨H + 1, 0, none⟩ = false) (hc0 : w2.cell? ⟨H, 0, none⟩ = some (.slice none 0 0)) (hz0 : w2.frozen? ⟨H, 0, none⟩ = false) {v : Value} (hc1 : w2.cell? ⟨H + 1, 0, none⟩ = some v)
    (hb : Below (H + 2) w2 w3) (hT : OwnR w3 (H + 2) w3.heap.size v' T) : OutM W (w3.setCell ⟨H + 1, 0, none⟩ v') H v' T := by
  have f1 := (hb.cell (p := ⟨H + 1, 0, none⟩) (by show H + 1 < _; omega)).trans hc1
  have f2 := (hb.frozen (p := ⟨H + 1, 0, none⟩) (by show H + 1 < _; omega)).trans hz1
  have f3 := (hb.cell (p := ⟨H, 0, none⟩) (by show H < _; omega)).trans hc0
  have f4 := (hb.frozen (p := ⟨H, 0, none⟩) (by show H < _; omega)).trans hz0
  have hch : Chg w3 (w3.setCell ⟨H + 1, 0, none⟩ v') (H + 1) (H + 2) := (Chg.refl _ _ _).setCell _ _ (Nat.le_refl _) (Nat.lt_succ_self _)
  refine ⟨World.cell?_setCell_same _ _ _ f1, ?_, (World.cell?_setCell_other _ _ _ _ (by simp)).trans f3, ?_, (hT.kept hch (.inr (Nat.le_refl _))).mono (Nat.le_refl _) (by simp), (hB.trans (hb.mono (by omega))).setCell (p := ⟨H + 1, 0, none⟩) (Nat.le_succ _) _, by simp; have := hb.size; omega⟩
  · simpa using f2
  · simpa using f4

theorem outM_start (w : World) (t1 t2 : TypeId) : OutM w ((w.alloc (.cells #[.slice none 0 0] t1)).alloc (.cells #[.slice none 0 0] t2)) w.heap.size (.slice none 0 0) [] :=
  ⟨by simp, by simp, by simp, by simp, ownR_nil _ _ _, (box_below w _).alloc (by simp) _, by simp⟩
end Go.Proofs.Ytloebbeaccjgjaa
