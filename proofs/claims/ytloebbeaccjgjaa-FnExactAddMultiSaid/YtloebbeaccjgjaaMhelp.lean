/-
  The laws' own helpers on patterns with several throws at a beat. No condition beyond each contract's own.
-/
import Derived.Test.YtloebbeaccjgjaaMopen
namespace Go.Proofs.Ytloebbeaccjgjaa
open Go.ChangeShapes Go.WideShapes Go.ChangeAt Go.RowKit


set_option maxHeartbeats 2000000 in
theorem toMulti_any (a : Value) (R : List (List Int)) (w : World) (h : RdR w a R) (hsm : R.length + sumLen R R.length ≤ 1048576) :
    Calls Try.prog 14 #[.agg #[a]] w fun e w' => ∃ a', e = .returned (.agg #[a']) ∧ OwnR w' w.heap.size w'.heap.size a' R ∧ Below w.heap.size w w' := by
  obtain ⟨sa, na, ca, rfl⟩ := h.form'
  have hb0 : ∀ o1 o2 o3 : Obj, Below w.heap.size w (((w.alloc o1).alloc o2).alloc o3) := fun o1 o2 o3 => (((Below.refl _ _).alloc (Nat.le_refl _) _).alloc (by simp) _).alloc (by simp; omega) _
  have HR := Lib.hid (And.intro h hb0)
  clear h hb0
  go_enter Try.func14, Try.ntmps14
  go_wp2_with fail
  with_reducible refine (toInt64SS_any _ R _ (HR.out.1.below (HR.out.2 _ _ _)) hsm).mono ?_
  rintro e w1 ⟨u1, rfl, h1, hb1⟩
  obtain ⟨s1, n1, c1, rfl⟩ := h1.rd.form'
  obtain ⟨hc1, hz1⟩ := bcell hb1
  have hs1 := hb1.size
  simp at hs1
  have H1 := Lib.hid (And.intro h1 hb1)
  clear h1 hb1
  go_wp2
  have hF : Chg w1 ((w1.setCell ⟨w.heap.size + 1 + 1, 0, none⟩ (.slice s1 n1 c1)).setCell ⟨w.heap.size + 1, 0, none⟩ (.slice s1 n1 c1)) (w.heap.size + 1) (w.heap.size + 1 + 1 + 1) :=
    ((Chg.refl _ _ _).setCell _ _ (by show w.heap.size + 1 ≤ w.heap.size + 1 + 1; omega) (by show w.heap.size + 1 + 1 < w.heap.size + 1 + 1 + 1; omega)).setCell _ _ (by show w.heap.size + 1 ≤ w.heap.size + 1; omega) (by show w.heap.size + 1 < w.heap.size + 1 + 1 + 1; omega)
  refine bodyPost_ret (v := .agg #[.slice s1 n1 c1]) (by simp [results, Try.results14, go_sem, hc1]) rfl ⟨_, rfl, ?_, ?_⟩
  · exact ((H1.out.1.mono (lo' := w.heap.size + 1 + 1 + 1) (by simp) (Nat.le_refl _)).kept hF (.inr (Nat.le_refl _))).mono (by omega) (by simp)
  · repeat' first | exact (HR.out.2 _ _ _).trans (H1.out.2.mono (by simp; omega)) | refine Below.setCell ?_ ?_ _
    all_goals first | omega | (simp; omega) | simp

set_option maxHeartbeats 1000000 in
theorem eqMulti_same (a a' : Value) (R : List (List Int)) (w : World) (h : RdR w a R) (h' : RdR w a' R) :
    Calls Try.prog 16 #[.agg #[a], .agg #[a']] w fun e w' => e = .returned (.bool true) ∧ Below w.heap.size w w' := by
  obtain ⟨sa, na, ca, rfl⟩ := h.form'
  obtain ⟨sa', na', ca', rfl⟩ := h'.form'
  have hb0 : ∀ o1 o2 : Obj, Below w.heap.size w ((w.alloc o1).alloc o2) := fun o1 o2 => ((Below.refl _ _).alloc (Nat.le_refl _) _).alloc (by simp) _
  have HR := Lib.hid (And.intro h (And.intro h' hb0))
  clear h h' hb0
  go_enter Try.func16, Try.ntmps16
  go_wp2_with fail
  with_reducible refine (eqInt64SS_same _ _ R _ (HR.out.1.below (HR.out.2.2 _ _)) (HR.out.2.1.below (HR.out.2.2 _ _))).mono ?_
  rintro e w1 ⟨rfl, hb1⟩
  have HX := Lib.hid ((HR.out.2.2 _ _).trans (hb1.mono (by simp; omega)))
  clear hb1
  go_wp2
  go_ret
  exact ⟨rfl, HX.out⟩

set_option maxHeartbeats 1000000 in
theorem szMulti_any (a : Value) (R : List (List Int)) (q : Int) (w : World) (h : RdR w a R) (h0 : -1 ≤ q) (h1 : q ≤ 1048576) :
    Calls Try.prog 12 #[.agg #[a], .int .i64 q] w fun e w' => e = .returned (.int .i64 (szV R q)) ∧ Below w.heap.size w w' := by
  obtain ⟨sa, na, ca, rfl⟩ := h.form'
  have hz := fun W (hW : Below w.heap.size w W) => szInt64SS_any _ R q W (h.below hW) h0 h1
  by_cases hle : (R.length : Int) + sumLen R R.length ≤ q
  · have e1 : szV R q = q - (R.length + sumLen R R.length) := by rw [szV, if_pos hle]
    rw [e1] at hz ⊢
    have HZ := Lib.hid hz
    clear hz h e1
    go_enter Try.func12, Try.ntmps12
    go_wp2_with fail
    refine (HZ.out _ (box_below _ _)).mono ?_
    rintro e w1 ⟨rfl, rfl⟩
    go_wp2
    go_ret
    exact ⟨rfl, box_below _ _⟩
  · have e1 : szV R q = -1 := by rw [szV, if_neg hle]
    rw [e1] at hz ⊢
    have HZ := Lib.hid hz
    clear hz h e1
    go_enter Try.func12, Try.ntmps12
    go_wp2_with fail
    refine (HZ.out _ (box_below _ _)).mono ?_
    rintro e w1 ⟨rfl, rfl⟩
    go_wp2
    go_ret
    exact ⟨rfl, box_below _ _⟩
theorem szMulti_yes (a : Value) (R : List (List Int)) (q : Int) (w : World) (h : RdR w a R) (h0 : -1 ≤ q) (h1 : q ≤ 1048576) (hle : (R.length : Int) + (sumLen R R.length : Int) ≤ q) :
    Calls Try.prog 12 #[.agg #[a], .int .i64 q] w fun e w' => e = .returned (.int .i64 (q - ((R.length : Int) + (sumLen R R.length : Int)))) ∧ Below w.heap.size w w' :=
  (szMulti_any a R q w h h0 h1).mono fun e w' ⟨he, hb⟩ => ⟨by rw [he, szV, if_pos hle], hb⟩
theorem szMulti_no (a : Value) (R : List (List Int)) (q : Int) (w : World) (h : RdR w a R) (h0 : -1 ≤ q) (h1 : q ≤ 1048576) (hle : ¬ (R.length : Int) + (sumLen R R.length : Int) ≤ q) :
    Calls Try.prog 12 #[.agg #[a], .int .i64 q] w fun e w' => e = .returned (.int .i64 (-1)) ∧ Below w.heap.size w w' :=
  (szMulti_any a R q w h h0 h1).mono fun e w' ⟨he, hb⟩ => ⟨by rw [he, szV, if_neg hle], hb⟩

set_option maxHeartbeats 1000000 in
theorem markMulti_any (a : Value) (R : List (List Int)) (q : Int) (lo hi : Nat) (w : World) (h : OwnR w lo hi a R) (h0 : 0 ≤ q) (h1 : q ≤ 1000000000000) :
    Calls Try.prog 17 #[.agg #[a], .int .i64 q] w fun e w' => e = .returned (.int .i64 (q + (sumLen R R.length : Int))) ∧ OwnR w' lo hi a (markR q R R.length) ∧ Chg w w' lo hi := by
  obtain ⟨sa, na, ca, rfl⟩ := h.rd.form'
  have HR := Lib.hid h
  clear h
  go_enter Try.func17, Try.ntmps17
  go_wp2_with fail
  with_reducible refine (markInt64SS_any _ R _ lo hi _ (HR.out.below (box_below _ _)) h0 h1).mono ?_
  rintro e w1 ⟨rfl, hm, hc⟩
  have HX := Lib.hid (And.intro hm ((below_chg (box_below w _) lo hi).trans hc))
  clear hm hc
  go_wp2
  go_ret
  exact ⟨rfl, HX.out.1, HX.out.2⟩

set_option maxHeartbeats 1000000 in
theorem heldMulti_same (a : Value) (R : List (List Int)) (q : Int) (lo hi : Nat) (w : World) (h : OwnR w lo hi a (markR q R R.length)) (h0 : 0 ≤ q) (h1 : q ≤ 1000000000000) :
    Calls Try.prog 18 #[.agg #[a], .int .i64 q] w fun e w' => e = .returned (.int .i64 (q + (sumLen R R.length : Int))) ∧ Below w.heap.size w w' := by
  obtain ⟨sa, na, ca, rfl⟩ := h.rd.form'
  have hsum : sumLen R R.length ≤ 17592186044416 := by have := h.1.2; rwa [markR_length, markR_lens] at this
  have HR := Lib.hid h
  clear h
  go_enter Try.func18, Try.ntmps18
  go_wp2_with fail
  with_reducible refine (heldInt64SS_same _ R _ lo hi _ (HR.out.below (box_below _ _)) h0 h1).mono ?_
  rintro e w1 ⟨rfl, hb⟩
  have HX := Lib.hid (below_step (box_below w _) hb (by simp))
  clear hb
  go_wp2
  go_ret
  exact ⟨rfl, HX.out⟩
end Go.Proofs.Ytloebbeaccjgjaa
