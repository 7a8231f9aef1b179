/-
  Contracts of the functions on patterns with several throws at a beat (chapter 4), tenth part: rotations. No condition beyond each contract's own.
-/
import Derived.Test.YtloebbeaccjgjaaM5
import Derived.Test.YtloebbeaccjgjaaM9
import Derived.Test.YtloebbeaccjgjaaL03
import Derived.Deep.RegionLaw
namespace Go.Proofs.Ytloebbeaccjgjaa
open Go.ChangeShapes Go.WideShapes Go.ChangeAt Go.RowKit


/-- The beat that comes k beats behind the beginning of the turned pattern. -/
def rtI (R : List (List Int)) (b : Int) (k : Nat) : Nat := (((k : Int) + b % (R.length : Int)) % (R.length : Int)).toNat
def rtM (R : List (List Int)) (b : Int) (k : Nat) : List (List Int) := (List.range k).map fun j => gr R (rtI R b j)
theorem rtM_length (R : List (List Int)) (b : Int) (k : Nat) : (rtM R b k).length = k := by simp [rtM]
theorem rtM_succ (R : List (List Int)) (b : Int) (k : Nat) : rtM R b (k + 1) = rtM R b k ++ [gr R (rtI R b k)] := by simp [rtM, List.range_succ]
theorem rtI_lt {R : List (List Int)} (h : 1 ≤ R.length) (b : Int) (k : Nat) : rtI R b k < R.length := by
  have := emod_bd (a := (k : Int) + b % (R.length : Int)) (n := (R.length : Int)) (by omega)
  unfold rtI
  omega
theorem rtI_int {R : List (List Int)} (h : 1 ≤ R.length) (b : Int) (k : Nat) : ((k : Int) + b % (R.length : Int)) % (R.length : Int) = (rtI R b k : Int) := by
  have := emod_bd (a := (k : Int) + b % (R.length : Int)) (n := (R.length : Int)) (by omega)
  unfold rtI
  omega
theorem rtM_sum {R : List (List Int)} (h : 1 ≤ R.length) (b : Int) (h4 : ∀ j, j < R.length → (gr R j).length ≤ 4) : ∀ k, sumLen (rtM R b k) (rtM R b k).length ≤ 4 * k
  | 0 => by simp [rtM, sumLen]
  | k + 1 => by
    have h1 := rtM_sum h b h4 k
    have h2 := h4 _ (rtI_lt h b k)
    rw [rtM_succ, sumLen_app]
    omega
def roL (R : List (List Int)) (b : Int) : List (List Int) := if vmB R then rtM R b R.length else []

/-- The variable 'out' of a pattern that is being made: its cell is the first above wb. -/
def OutN (wb wr : World) (v : Value) (T : List (List Int)) : Prop :=
  wr.cell? ⟨wb.heap.size, 0, none⟩ = some v ∧ wr.frozen? ⟨wb.heap.size, 0, none⟩ = false ∧ OwnR wr (wb.heap.size + 1) wr.heap.size v T ∧ Below wb.heap.size wb wr ∧ wb.heap.size + 1 ≤ wr.heap.size
theorem outN_start (wb : World) (t : TypeId) : OutN wb (wb.alloc (.cells #[.slice none 0 0] t)) (.slice none 0 0) [] :=
  ⟨by simp, by simp, ownR_nil _ _ _, box_below _ _, by simp⟩
/-- What stands when a row u has been made by a call and laid into a cell for the appending. -/
theorem outN_row {wb wr w2 : World} {v u : Value} {T : List (List Int)} {L : List Int} (h : OutN wb wr v T) (hb : Below wr.heap.size wr w2) (hu : Own w2 wr.heap.size w2.heap.size u L) (o2 : Obj) :
    OwnR (w2.alloc o2) (wb.heap.size + 1) wr.heap.size v T ∧ Own (w2.alloc o2) wr.heap.size (w2.alloc o2).heap.size u L ∧ (w2.alloc o2).heap[w2.heap.size]? = some o2 ∧ (w2.alloc o2).cell? ⟨wb.heap.size, 0, none⟩ = some v ∧ (w2.alloc o2).frozen? ⟨wb.heap.size, 0, none⟩ = false ∧ Below wb.heap.size wb (w2.alloc o2) ∧ wr.heap.size ≤ (w2.alloc o2).heap.size ∧ w2.cell? ⟨wb.heap.size, 0, none⟩ = some v := by
  obtain ⟨a1, a2, a5, a6, a7⟩ := h
  have hb2 := hb.alloc hb.size o2
  have hb3 := (Below.refl w2.heap.size w2).alloc (Nat.le_refl _) o2
  exact ⟨a5.below hb2, (hu.below hb3).mono (Nat.le_refl _) (by simp), heap_alloc_new _ _, (hb2.cell (p := ⟨wb.heap.size, 0, none⟩) (by show wb.heap.size < _; omega)).trans a1, (hb2.frozen (p := ⟨wb.heap.size, 0, none⟩) (by show wb.heap.size < _; omega)).trans a2, below_step a6 hb2 (by omega), hb2.size, (hb.cell (p := ⟨wb.heap.size, 0, none⟩) (by show wb.heap.size < _; omega)).trans a1⟩
theorem outN_next {wb w2 w3 : World} {v v' : Value} {T : List (List Int)} (hB : Below wb.heap.size wb w2) (hs : wb.heap.size + 1 ≤ w2.heap.size) (hc1 : w2.cell? ⟨wb.heap.size, 0, none⟩ = some v) (hz1 : w2.frozen? ⟨wb.heap.size, 0, none⟩ = false)
    (hb : Below (wb.heap.size + 1) w2 w3) (hT : OwnR w3 (wb.heap.size + 1) w3.heap.size v' T) : OutN wb (w3.setCell ⟨wb.heap.size, 0, none⟩ v') v' T := by
  have f1 := (hb.cell (p := ⟨wb.heap.size, 0, none⟩) (Nat.lt_succ_self _)).trans hc1
  have f2 := (hb.frozen (p := ⟨wb.heap.size, 0, none⟩) (Nat.lt_succ_self _)).trans hz1
  have hch : Chg w3 (w3.setCell ⟨wb.heap.size, 0, none⟩ v') wb.heap.size (wb.heap.size + 1) := (Chg.refl _ _ _).setCell _ _ (Nat.le_refl _) (Nat.lt_succ_self _)
  refine ⟨World.cell?_setCell_same _ _ _ f1, ?_, (hT.kept hch (.inr (Nat.le_refl _))).mono (Nat.le_refl _) (by simp), (hB.trans (hb.mono (Nat.le_succ _))).setCell (p := ⟨wb.heap.size, 0, none⟩) (Nat.le_refl _) _, by simp; have := hb.size; omega⟩
  simpa using f2
end Go.Proofs.Ytloebbeaccjgjaa
