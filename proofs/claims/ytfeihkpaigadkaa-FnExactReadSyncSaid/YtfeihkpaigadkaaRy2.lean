/-
  Contracts of ReadSync (chapter 5), of the reference. No condition beyond each contract's own.
-/
import Derived.Test.YtfeihkpaigadkaaRy1
import Derived.Test.YtfeihkpaigadkaaVal
import Derived.Test.YtfeihkpaigadkaaY6
import Derived.Deep.RegionHeld3
import Derived.Deep.Cut
namespace Go.Proofs.Ytfeihkpaigadkaa
open Go.ChangeShapes Go.WideShapes Go.ChangeAt Go.RowKit

open Go.PlainAid

theorem cell_two {w : World} {B b : Nat} (h : ¬ B = b) {u v x : Value} {o : Nat} (k : w.cell? ⟨b, o, none⟩ = some x) : ((w.setCell ⟨B, 0, none⟩ u).setCell ⟨B, 1, none⟩ v).cell? ⟨b, o, none⟩ = some x :=
  (World.cell?_setCell_other _ _ _ _ (by intro e; first | exact h (congrArg Addr.block e) | exact h (congrArg Addr.block e).symm)).trans ((World.cell?_setCell_other _ _ _ _ (by intro e; first | exact h (congrArg Addr.block e) | exact h (congrArg Addr.block e).symm)).trans k)
theorem RdT.form {m n : Nat} {w : World} {v : Value} {T : List Th} (h : RdT m w v n T) : ∃ s c, v = .slice s n c := by
  obtain ⟨_, _, s, c, hv, _⟩ := h
  exact ⟨s, c, hv⟩
theorem box_below (w : World) (o : Obj) : Below w.heap.size w (w.alloc o) := (Below.refl _ _).alloc (Nat.le_refl _) _
/-- What the reading of a throw answers. -/
def rtPost (t : ByteArray) (w : World) (e : Ending) (w' : World) : Prop :=
  ∃ a x, e = .returned (.tuple #[.agg #[.int .i64 a, .bool x], .bool (sqB t)]) ∧ Below w.heap.size w w' ∧ (sqB t = true → sqT t = (a, x))

set_option maxRecDepth 20000 in
set_option maxHeartbeats 8000000 in
theorem l05Read_any (t : ByteArray) (w : World) :
    Calls Try.prog 17 #[.string t] w (rtPost t w) := by
  have hbt := get_bt t
  have hv := Lib.hid (fun W => l04Value_any (bt t 0) W (bt_nonneg _ _) (bt_le _ _))
  obtain ⟨hx, hhx⟩ : ∃ hx, hx = hexV (bt t 0) := ⟨_, rfl⟩
  rw [← hhx] at hv
  have hcase : t.size = 0 ∨ t.size = 1 ∨ (t.size = 2 ∧ bt t 1 = 120) ∨ (t.size = 2 ∧ bt t 1 ≠ 120) ∨ 2 < t.size := by omega
  rcases hcase with h | h | ⟨h, h'⟩ | ⟨h, h'⟩ | h
  · have hne := str_nil h
    have HB := Lib.hid (sqB_no (t := t) (by omega))
    go_enter Try.func17, Try.ntmps17
    go_wp2
    refine bodyPost_ret (v := .tuple #[.agg #[.int .i64 0, .bool false], .bool false]) (by simp [results, Try.results17, go_sem]) rfl ⟨0, false, by rw [HB.out], box_below _ _, fun h => by rw [HB.out] at h; cases h⟩
  · have hne := str_ne (s := t) (by omega)
    have HE := Lib.hid (sqB_one h)
    rw [← hhx] at HE
    clear hhx
    go_enter Try.func17, Try.ntmps17
    go_wp2_with (go_at_call 27; refine (hv.out _).mono ?_; rintro e w' ⟨rfl, rfl⟩)
    generalize hW : (World.alloc (World.alloc w _) _) = w4
    have r0 : w4.cell? ⟨w.heap.size, 0, none⟩ = some (.int .i64 0) := by rw [← hW]; simp
    have r1 : w4.cell? ⟨w.heap.size, 1, none⟩ = some (.bool false) := by rw [← hW]; simp
    have z0 : w4.frozen? ⟨w.heap.size, 0, none⟩ = false := by rw [← hW]; simp
    have z1 : w4.frozen? ⟨w.heap.size, 1, none⟩ = false := by rw [← hW]; simp
    have k0 : w4.cell? ⟨w.heap.size + 1, 0, none⟩ = some (.int .i64 hx) := by rw [← hW]; simp
    have k1 : w4.cell? ⟨w.heap.size + 1, 1, none⟩ = some (.bool false) := by rw [← hW]; simp
    have hlt : w.heap.size + 1 < w4.heap.size := by rw [← hW]; simp
    have hlt0 : w.heap.size < w4.heap.size := by omega
    have HHB : Hid (Below w.heap.size w w4) := by show Below _ _ _; rw [← hW]; exact (box_below _ _).alloc (by simp) _
    have hne2 : ¬ w.heap.size = w.heap.size + 1 := by omega
    clear hW
    go_region_held3 (fun w' => w'.cell? ⟨w.heap.size + 1, 0, none⟩ = some (.int .i64 hx) ∧ w'.cell? ⟨w.heap.size + 1, 1, none⟩ = some (.bool false))
      (first | exact ⟨k0, k1⟩ | exact ⟨k05, k15⟩ | exact ⟨cell_two hne2 k05, cell_two hne2 k15⟩ | go_keep)
      (first | (go_at_call 28; refine (l05Throw_any hx false _).mono ?_; rintro e w5 ⟨rfl, hb5⟩; have r05 := (hb5.cell (p := ⟨w.heap.size, 0, none⟩) hlt0).trans r0; have r15 := (hb5.cell (p := ⟨w.heap.size, 1, none⟩) hlt0).trans r1; have z05 := (hb5.frozen (p := ⟨w.heap.size, 0, none⟩) hlt0).trans z0; have z15 := (hb5.frozen (p := ⟨w.heap.size, 1, none⟩) hlt0).trans z1; have k05 := (hb5.cell (p := ⟨w.heap.size + 1, 0, none⟩) hlt).trans k0; have k15 := (hb5.cell (p := ⟨w.heap.size + 1, 1, none⟩) hlt).trans k1; have hb6 := below_step (Below.refl w4.heap.size w4).drew hb5 (Nat.le_refl _); have HB6 := Lib.hid hb6) | fail)
    go_wp2
    refine bodyPost_ret (v := .tuple #[.agg #[.int .i64 hx, .bool false], .bool (thS (hx, false))]) (by simp [results, Try.results17, go_sem, r05, r15]) rfl ⟨hx, false, by rw [HE.out.1], ((below_step HHB.out HB6.out HHB.out.size).setCell (p := ⟨w.heap.size, 0, none⟩) (Nat.le_refl _) _).setCell (p := ⟨w.heap.size, 1, none⟩) (Nat.le_refl _) _, fun _ => HE.out.2⟩
  · have hne := str_ne (s := t) (by omega)
    have hq : (bt t 1 != 120) = false := by simpa using h'
    have HE := Lib.hid (sqB_two h h')
    rw [← hhx] at HE
    clear hhx
    go_enter Try.func17, Try.ntmps17
    go_wp2_with (go_at_call 27; refine (hv.out _).mono ?_; rintro e w' ⟨rfl, rfl⟩)
    generalize hW : (World.alloc (World.alloc w _) _) = w4
    have r0 : w4.cell? ⟨w.heap.size, 0, none⟩ = some (.int .i64 0) := by rw [← hW]; simp
    have r1 : w4.cell? ⟨w.heap.size, 1, none⟩ = some (.bool false) := by rw [← hW]; simp
    have z0 : w4.frozen? ⟨w.heap.size, 0, none⟩ = false := by rw [← hW]; simp
    have z1 : w4.frozen? ⟨w.heap.size, 1, none⟩ = false := by rw [← hW]; simp
    have k0 : w4.cell? ⟨w.heap.size + 1, 0, none⟩ = some (.int .i64 hx) := by rw [← hW]; simp
    have k1 : w4.cell? ⟨w.heap.size + 1, 1, none⟩ = some (.bool true) := by rw [← hW]; simp
    have hlt : w.heap.size + 1 < w4.heap.size := by rw [← hW]; simp
    have hlt0 : w.heap.size < w4.heap.size := by omega
    have HHB : Hid (Below w.heap.size w w4) := by show Below _ _ _; rw [← hW]; exact (box_below _ _).alloc (by simp) _
    have hne2 : ¬ w.heap.size = w.heap.size + 1 := by omega
    clear hW
    go_region_held3 (fun w' => w'.cell? ⟨w.heap.size + 1, 0, none⟩ = some (.int .i64 hx) ∧ w'.cell? ⟨w.heap.size + 1, 1, none⟩ = some (.bool true))
      (first | exact ⟨k0, k1⟩ | exact ⟨k05, k15⟩ | exact ⟨cell_two hne2 k05, cell_two hne2 k15⟩ | go_keep)
      (first | (go_at_call 28; refine (l05Throw_any hx true _).mono ?_; rintro e w5 ⟨rfl, hb5⟩; have r05 := (hb5.cell (p := ⟨w.heap.size, 0, none⟩) hlt0).trans r0; have r15 := (hb5.cell (p := ⟨w.heap.size, 1, none⟩) hlt0).trans r1; have z05 := (hb5.frozen (p := ⟨w.heap.size, 0, none⟩) hlt0).trans z0; have z15 := (hb5.frozen (p := ⟨w.heap.size, 1, none⟩) hlt0).trans z1; have k05 := (hb5.cell (p := ⟨w.heap.size + 1, 0, none⟩) hlt).trans k0; have k15 := (hb5.cell (p := ⟨w.heap.size + 1, 1, none⟩) hlt).trans k1; have hb6 := below_step (Below.refl w4.heap.size w4).drew hb5 (Nat.le_refl _); have HB6 := Lib.hid hb6) | fail)
    go_wp2
    refine bodyPost_ret (v := .tuple #[.agg #[.int .i64 hx, .bool true], .bool (thS (hx, true))]) (by simp [results, Try.results17, go_sem, r05, r15]) rfl ⟨hx, true, by rw [HE.out.1], ((below_step HHB.out HB6.out HHB.out.size).setCell (p := ⟨w.heap.size, 0, none⟩) (Nat.le_refl _) _).setCell (p := ⟨w.heap.size, 1, none⟩) (Nat.le_refl _) _, fun _ => HE.out.2⟩
  · have hne := str_ne (s := t) (by omega)
    have hq : (bt t 1 != 120) = true := by simpa using h'
    have HB := Lib.hid (sqB_no (t := t) (by omega))
    go_enter Try.func17, Try.ntmps17
    go_wp2
    refine bodyPost_ret (v := .tuple #[.agg #[.int .i64 0, .bool false], .bool false]) (by simp [results, Try.results17, go_sem]) rfl ⟨0, false, by rw [HB.out], box_below _ _, fun h => by rw [HB.out] at h; cases h⟩
  · have hne := str_ne (s := t) (by omega)
    have HB := Lib.hid (sqB_no (t := t) (by omega))
    go_enter Try.func17, Try.ntmps17
    go_wp2
    refine bodyPost_ret (v := .tuple #[.agg #[.int .i64 0, .bool false], .bool false]) (by simp [results, Try.results17, go_sem]) rfl ⟨0, false, by rw [HB.out], box_below _ _, fun h => by rw [HB.out] at h; cases h⟩
end Go.Proofs.Ytfeihkpaigadkaa
