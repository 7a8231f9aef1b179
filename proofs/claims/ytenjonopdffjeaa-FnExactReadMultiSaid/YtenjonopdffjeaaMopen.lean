/-
  Patterns with several throws at a beat in memory: an argument opened; the laws' own helpers on them. No condition beyond each contract's own.
-/
import Derived.Test.YtenjonopdffjeaaMrows
import Derived.SizedLaws
import Derived.Deep.Matrix
import Derived.ChangeSame
namespace Go.Proofs.Ytenjonopdffjeaa
open Go.ChangeShapes Go.WideShapes Go.ChangeAt Go.RowKit


theorem RdR.form' {w : World} {v : Value} {R : List (List Int)} (h : RdR w v R) : ∃ s n c, v = .slice s n c := by
  obtain ⟨_, s, c, hv, _⟩ := h
  exact ⟨s, _, c, hv⟩
theorem chg_cell {w w' : World} {lo hi b : Nat} (hc : Chg w w' lo hi) (hlt : b < w.heap.size) (hne : b < lo ∨ hi ≤ b) (o : Nat) : w'.cell? ⟨b, o, none⟩ = w.cell? ⟨b, o, none⟩ := by
  have h := hc.block b hlt hne
  unfold World.cell?
  simp only [h]
theorem box_below (w : World) (o : Obj) : Below w.heap.size w (w.alloc o) := (Below.refl _ _).alloc (Nat.le_refl _) _
theorem bcellAt {W w1 : World} {B : Nat} (K : Nat) (hb : Below B W w1) (h : K ≤ B) : (∀ b o, b < K → w1.cell? ⟨b, o, none⟩ = W.cell? ⟨b, o, none⟩) ∧ (∀ b o, b < K → w1.frozen? ⟨b, o, none⟩ = W.frozen? ⟨b, o, none⟩) := bcell (hb.mono h)
end Go.Proofs.Ytenjonopdffjeaa
