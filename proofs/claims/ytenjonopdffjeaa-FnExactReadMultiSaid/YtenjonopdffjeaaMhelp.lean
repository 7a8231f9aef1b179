/-
  The laws' own helpers on patterns with several throws at a beat. No condition beyond each contract's own.
-/
import Derived.Test.YtenjonopdffjeaaMopen
namespace Go.Proofs.Ytenjonopdffjeaa
open Go.ChangeShapes Go.WideShapes Go.ChangeAt Go.RowKit


set_option maxHeartbeats 1000000 in
theorem eqMulti_same (a a' : Value) (R : List (List Int)) (w : World) (h : RdR w a R) (h' : RdR w a' R) :
    Calls Try.prog 6 #[.agg #[a], .agg #[a']] w fun e w' => e = .returned (.bool true) ∧ Below w.heap.size w w' := by
  obtain ⟨sa, na, ca, rfl⟩ := h.form'
  obtain ⟨sa', na', ca', rfl⟩ := h'.form'
  have hb0 : ∀ o1 o2 : Obj, Below w.heap.size w ((w.alloc o1).alloc o2) := fun o1 o2 => ((Below.refl _ _).alloc (Nat.le_refl _) _).alloc (by simp) _
  have HR := Lib.hid (And.intro h (And.intro h' hb0))
  clear h h' hb0
  go_enter Try.func6, Try.ntmps6
  go_wp2_with fail
  with_reducible refine (eqInt64SS_same _ _ R _ (HR.out.1.below (HR.out.2.2 _ _)) (HR.out.2.1.below (HR.out.2.2 _ _))).mono ?_
  rintro e w1 ⟨rfl, hb1⟩
  have HX := Lib.hid ((HR.out.2.2 _ _).trans (hb1.mono (by simp; omega)))
  clear hb1
  go_wp2
  go_ret
  exact ⟨rfl, HX.out⟩

set_option maxHeartbeats 1000000 in
theorem markMulti_any (a : Value) (R : List (List Int)) (q : Int) (lo hi : Nat) (w : World) (h : OwnR w lo hi a R) (h0 : 0 ≤ q) (h1 : q ≤ 1000000000000) :
    Calls Try.prog 7 #[.agg #[a], .int .i64 q] w fun e w' => e = .returned (.int .i64 (q + (sumLen R R.length : Int))) ∧ OwnR w' lo hi a (markR q R R.length) ∧ Chg w w' lo hi := by
  obtain ⟨sa, na, ca, rfl⟩ := h.rd.form'
  have HR := Lib.hid h
  clear h
  go_enter Try.func7, Try.ntmps7
  go_wp2_with fail
  with_reducible refine (markInt64SS_any _ R _ lo hi _ (HR.out.below (box_below _ _)) h0 h1).mono ?_
  rintro e w1 ⟨rfl, hm, hc⟩
  have HX := Lib.hid (And.intro hm ((below_chg (box_below w _) lo hi).trans hc))
  clear hm hc
  go_wp2
  go_ret
  exact ⟨rfl, HX.out.1, HX.out.2⟩

set_option maxHeartbeats 1000000 in
theorem heldMulti_same (a : Value) (R : List (List Int)) (q : Int) (lo hi : Nat) (w : World) (h : OwnR w lo hi a (markR q R R.length)) (h0 : 0 ≤ q) (h1 : q ≤ 1000000000000) :
    Calls Try.prog 8 #[.agg #[a], .int .i64 q] w fun e w' => e = .returned (.int .i64 (q + (sumLen R R.length : Int))) ∧ Below w.heap.size w w' := by
  obtain ⟨sa, na, ca, rfl⟩ := h.rd.form'
  have hsum : sumLen R R.length ≤ 17592186044416 := by have := h.1.2; rwa [markR_length, markR_lens] at this
  have HR := Lib.hid h
  clear h
  go_enter Try.func8, Try.ntmps8
  go_wp2_with fail
  with_reducible refine (heldInt64SS_same _ R _ lo hi _ (HR.out.below (box_below _ _)) h0 h1).mono ?_
  rintro e w1 ⟨rfl, hb⟩
  have HX := Lib.hid (below_step (box_below w _) hb (by simp))
  clear hb
  go_wp2
  go_ret
  exact ⟨rfl, HX.out⟩
end Go.Proofs.Ytenjonopdffjeaa
