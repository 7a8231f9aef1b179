/-
  Contracts of ReadSync (chapter 5), of the program. No condition beyond each contract's own.
-/
import Derived.Test.YtfeihkpaigadkaaRy3
import Derived.Deep.RegionHeld3
namespace Go.Proofs.Ytfeihkpaigadkaa
open Go.ChangeShapes Go.WideShapes Go.ChangeAt Go.RowKit

open Go.PlainAid

set_option maxRecDepth 20000 in
set_option maxHeartbeats 8000000 in
theorem readSyncThrow_any (t : ByteArray) (w : World) :
    Calls Try.prog 22 #[.string t] w (rtPost t w) := by
  have hbt := get_bt t
  have hv := Lib.hid (fun W => hexOf_any (bt t 0) W)
  obtain ⟨hx, hhx⟩ : ∃ hx, hx = hexV (bt t 0) := ⟨_, rfl⟩
  rw [← hhx] at hv
  have hcase : t.size = 1 ∨ (t.size = 2 ∧ bt t 1 = 120) ∨ (t.size = 2 ∧ bt t 1 ≠ 120) ∨ (t.size ≠ 1 ∧ t.size ≠ 2) := by omega
  rcases hcase with h | ⟨h, h'⟩ | ⟨h, h'⟩ | ⟨h, h'⟩
  · have HE := Lib.hid (sqB_one h)
    rw [← hhx] at HE
    clear hhx
    go_enter Try.func22, Try.ntmps22
    go_wp2_with (go_at_call 31; refine (hv.out _).mono ?_; rintro e w' ⟨rfl, rfl⟩)
    generalize hW : (World.alloc (World.alloc w _) _) = w4
    have r0 : w4.cell? ⟨w.heap.size, 0, none⟩ = some (.int .i64 0) := by rw [← hW]; simp
    have r1 : w4.cell? ⟨w.heap.size, 1, none⟩ = some (.bool false) := by rw [← hW]; simp
    have z0 : w4.frozen? ⟨w.heap.size, 0, none⟩ = false := by rw [← hW]; simp
    have z1 : w4.frozen? ⟨w.heap.size, 1, none⟩ = false := by rw [← hW]; simp
    have k0 : w4.cell? ⟨w.heap.size + 1, 0, none⟩ = some (.int .i64 hx) := by rw [← hW]; simp
    have k1 : w4.cell? ⟨w.heap.size + 1, 1, none⟩ = some (.bool false) := by rw [← hW]; simp
    have hlt : w.heap.size + 1 < w4.heap.size := by rw [← hW]; simp
    have hlt0 : w.heap.size < w4.heap.size := by omega
    have HHB : Hid (Below w.heap.size w w4) := by show Below _ _ _; rw [← hW]; exact (box_below _ _).alloc (by simp) _
    have hne2 : ¬ w.heap.size = w.heap.size + 1 := by omega
    clear hW
    go_region_held3 (fun w' => w'.cell? ⟨w.heap.size + 1, 0, none⟩ = some (.int .i64 hx) ∧ w'.cell? ⟨w.heap.size + 1, 1, none⟩ = some (.bool false))
      (first | exact ⟨k0, k1⟩ | exact ⟨k05, k15⟩ | exact ⟨cell_two hne2 k05, cell_two hne2 k15⟩ | go_keep)
      (first | (go_at_call 32; refine (isSyncThrow_any hx false _).mono ?_; rintro e w5 ⟨rfl, hb5⟩; have r05 := (hb5.cell (p := ⟨w.heap.size, 0, none⟩) hlt0).trans r0; have r15 := (hb5.cell (p := ⟨w.heap.size, 1, none⟩) hlt0).trans r1; have z05 := (hb5.frozen (p := ⟨w.heap.size, 0, none⟩) hlt0).trans z0; have z15 := (hb5.frozen (p := ⟨w.heap.size, 1, none⟩) hlt0).trans z1; have k05 := (hb5.cell (p := ⟨w.heap.size + 1, 0, none⟩) hlt).trans k0; have k15 := (hb5.cell (p := ⟨w.heap.size + 1, 1, none⟩) hlt).trans k1; have hb6 := below_step (Below.refl w4.heap.size w4).drew hb5 (Nat.le_refl _); have HB6 := Lib.hid hb6) | fail)
    go_wp2
    refine bodyPost_ret (v := .tuple #[.agg #[.int .i64 hx, .bool false], .bool (thS (hx, false))]) (by simp [results, Try.results22, go_sem, r05, r15]) rfl ⟨hx, false, by rw [HE.out.1], ((below_step HHB.out HB6.out HHB.out.size).setCell (p := ⟨w.heap.size, 0, none⟩) (Nat.le_refl _) _).setCell (p := ⟨w.heap.size, 1, none⟩) (Nat.le_refl _) _, fun _ => HE.out.2⟩
  · have hq : (bt t 1 == 120) = true := by simpa using h'
    obtain ⟨p, hp⟩ : ∃ p, t.extract 0 1 = p := ⟨_, rfl⟩
    have hps : p.size = 1 := by rw [← hp, ByteArray.size_extract]; omega
    have hbp : ∀ n (h : n < p.size), ((p[n]'h).toNat : Int) = bt t n := fun n hn => by
      subst hp
      rw [get_bt]
      have := sub_bt (s := t) (i := 0) (k := 1) (j := n) (by omega) (by omega)
      rw [Nat.zero_add] at this
      exact this
    have HE := Lib.hid (sqB_two h h')
    rw [← hhx] at HE
    clear hhx
    go_enter Try.func22, Try.ntmps22
    go_wp2_with (go_at_call 31; refine (hv.out _).mono ?_; rintro e w' ⟨rfl, rfl⟩)
    generalize hW : (World.alloc (World.alloc w _) _) = w4
    have r0 : w4.cell? ⟨w.heap.size, 0, none⟩ = some (.int .i64 0) := by rw [← hW]; simp
    have r1 : w4.cell? ⟨w.heap.size, 1, none⟩ = some (.bool false) := by rw [← hW]; simp
    have z0 : w4.frozen? ⟨w.heap.size, 0, none⟩ = false := by rw [← hW]; simp
    have z1 : w4.frozen? ⟨w.heap.size, 1, none⟩ = false := by rw [← hW]; simp
    have k0 : w4.cell? ⟨w.heap.size + 1, 0, none⟩ = some (.int .i64 hx) := by rw [← hW]; simp
    have k1 : w4.cell? ⟨w.heap.size + 1, 1, none⟩ = some (.bool true) := by rw [← hW]; simp
    have hlt : w.heap.size + 1 < w4.heap.size := by rw [← hW]; simp
    have hlt0 : w.heap.size < w4.heap.size := by omega
    have HHB : Hid (Below w.heap.size w w4) := by show Below _ _ _; rw [← hW]; exact (box_below _ _).alloc (by simp) _
    have hne2 : ¬ w.heap.size = w.heap.size + 1 := by omega
    clear hW
    go_region_held3 (fun w' => w'.cell? ⟨w.heap.size + 1, 0, none⟩ = some (.int .i64 hx) ∧ w'.cell? ⟨w.heap.size + 1, 1, none⟩ = some (.bool true))
      (first | exact ⟨k0, k1⟩ | exact ⟨k05, k15⟩ | exact ⟨cell_two hne2 k05, cell_two hne2 k15⟩ | go_keep)
      (first | (go_at_call 32; refine (isSyncThrow_any hx true _).mono ?_; rintro e w5 ⟨rfl, hb5⟩; have r05 := (hb5.cell (p := ⟨w.heap.size, 0, none⟩) hlt0).trans r0; have r15 := (hb5.cell (p := ⟨w.heap.size, 1, none⟩) hlt0).trans r1; have z05 := (hb5.frozen (p := ⟨w.heap.size, 0, none⟩) hlt0).trans z0; have z15 := (hb5.frozen (p := ⟨w.heap.size, 1, none⟩) hlt0).trans z1; have k05 := (hb5.cell (p := ⟨w.heap.size + 1, 0, none⟩) hlt).trans k0; have k15 := (hb5.cell (p := ⟨w.heap.size + 1, 1, none⟩) hlt).trans k1; have hb6 := below_step (Below.refl w4.heap.size w4).drew hb5 (Nat.le_refl _); have HB6 := Lib.hid hb6) | fail)
    go_wp2
    refine bodyPost_ret (v := .tuple #[.agg #[.int .i64 hx, .bool true], .bool (thS (hx, true))]) (by simp [results, Try.results22, go_sem, r05, r15]) rfl ⟨hx, true, by rw [HE.out.1], ((below_step HHB.out HB6.out HHB.out.size).setCell (p := ⟨w.heap.size, 0, none⟩) (Nat.le_refl _) _).setCell (p := ⟨w.heap.size, 1, none⟩) (Nat.le_refl _) _, fun _ => HE.out.2⟩
  · have hq : (bt t 1 == 120) = false := by simpa using h'
    have HB := Lib.hid (sqB_no (t := t) (by omega))
    go_enter Try.func22, Try.ntmps22
    go_wp2
    refine bodyPost_ret (v := .tuple #[.agg #[.int .i64 0, .bool false], .bool false]) (by simp [results, Try.results22, go_sem]) rfl ⟨0, false, by rw [HB.out], (box_below _ _).alloc (by simp) _, fun h => by rw [HB.out] at h; cases h⟩
  · have hn1 : ¬ (t.size : Int) = 1 := by omega
    have hn2 : ¬ (t.size : Int) = 2 := by omega
    have hb1 : ((t.size : Int) == 2) = false := by simp; omega
    have hb3 : ((t.size : Int) != 1) = true := by simp; omega
    have HB := Lib.hid (sqB_no (t := t) (by omega))
    go_enter Try.func22, Try.ntmps22
    go_wp2
    refine bodyPost_ret (v := .tuple #[.agg #[.int .i64 0, .bool false], .bool false]) (by simp [results, Try.results22, go_sem]) rfl ⟨0, false, by rw [HB.out], (box_below _ _).alloc (by simp) _, fun h => by rw [HB.out] at h; cases h⟩

theorem drop_head {S : List ByteArray} {k : Nat} {x : ByteArray} {L : List ByteArray} (h : S.drop k = x :: L) : k < S.length ∧ gs S k = x ∧ S.drop (k + 1) = L := by
  have hk : k < S.length := by
    by_cases hk : k < S.length
    · exact hk
    · rw [List.drop_eq_nil_of_le (by omega)] at h; cases h
  rw [List.drop_eq_getElem_cons hk] at h
  injection h with h1 h2
  exact ⟨hk, by rw [gs_eq hk]; exact h1, h2⟩
theorem drop_last {S : List ByteArray} {k : Nat} {r : ByteArray} (h : S.drop k = spL r 41) (hf : cuF r 41 = false) : S.length = k + 1 ∧ gs S k = r := by
  rw [(spL_not hf).1] at h
  obtain ⟨h1, h2, h3⟩ := drop_head h
  have := List.drop_eq_nil_iff.1 h3
  exact ⟨by omega, h2⟩
theorem drop_more {S : List ByteArray} {k : Nat} {r : ByteArray} (h : S.drop k = spL r 41) (hf : cuF r 41 = true) : k + 1 < S.length ∧ gs S k = cuA r 41 ∧ S.drop (k + 1) = spL (cuB r 41) 41 ∧ (cuB r 41).size < r.size := by
  obtain ⟨e1, e2⟩ := spL_yes hf
  rw [e1] at h
  obtain ⟨h1, h2, h3⟩ := drop_head h
  have hl := congrArg List.length h3
  have := (spL_length (cuB r 41) 41).1
  rw [List.length_drop] at hl
  exact ⟨by omega, h2, h3, e2⟩
theorem ry_first {S : List ByteArray} {k : Nat} {r : ByteArray} (h : S.drop k = spL r 41) (h1 : 1 ≤ r.size) (h0 : bt r 0 ≠ 40) : ryG S = false := by
  cases hf : cuF r 41 with
  | false =>
    obtain ⟨e1, e2⟩ := drop_last h hf
    exact ryG_last (by rw [e1, show k + 1 - 1 = k by omega, e2]; omega)
  | true =>
    obtain ⟨e1, e2, e3, e4⟩ := drop_more h hf
    refine ryG_bad e1 (bb_br (fun hh => h0 ?_))
    rw [e2] at hh
    obtain ⟨i, hi⟩ : ∃ i, fx r 41 = some i := by
      unfold cuF at hf
      exact Option.isSome_iff_exists.1 hf
    rw [cuA, hi] at hh
    have hz := sub_size (s := r) (i := 0) (k := i) (by have := (fx_spec hi).1; omega)
    have h2 := hh.2
    have h3 := hh.1
    simp only at h2 h3
    rw [hz] at h3
    rw [sub_bt (by have := (fx_spec hi).1; omega) (by omega)] at h2
    exact h2
theorem cut41_any (t : ByteArray) (w : World) (hs : t.size ≤ 1048576) :
    Calls Try.prog 21 #[.string t, .string { data := #[41] }] w fun e w' => e = .returned (.tuple #[.string (cuA t 41), .string (cuB t 41), .bool (cuF t 41)]) ∧ Below w.heap.size w w' :=
  (cut_any t 41 w hs).mono fun e w' ⟨h, n, hn⟩ => ⟨h, by rw [hn]; exact below_dn _ _⟩
theorem cut44_any (t : ByteArray) (w : World) (hs : t.size ≤ 1048576) :
    Calls Try.prog 21 #[.string t, .string { data := #[44] }] w fun e w' => e = .returned (.tuple #[.string (cuA t 44), .string (cuB t 44), .bool (cuF t 44)]) ∧ Below w.heap.size w w' :=
  (cut_any t 44 w hs).mono fun e w' ⟨h, n, hn⟩ => ⟨h, by rw [hn]; exact below_dn _ _⟩
end Go.Proofs.Ytfeihkpaigadkaa
