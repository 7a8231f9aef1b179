/-
  The laws' own helpers on notations. No condition beyond each contract's own.
-/
import Derived.Test.YtdagakjeefhimaaN1
import Derived.Lib.SmallJoins
namespace Go.Proofs.Ytdagakjeefhimaa
open Go.ChangeShapes Go.WideShapes Go.ChangeAt Go.RowKit


/-- The five values of a notation, read; the name under which the laws' walks carry them. -/
def OwnN (w : World) (_lo _hi : Nat) (vp vm vs va vb : Value) (P : List Int) (R : List (List Int)) (n : Nat) (T A B : List Th) : Prop := RdN w vp vm vs va vb P R n T A B
theorem OwnN.rd {w : World} {lo hi : Nat} {vp vm vs va vb : Value} {P : List Int} {R : List (List Int)} {n : Nat} {T A B : List Th} (h : OwnN w lo hi vp vm vs va vb P R n T A B) : RdN w vp vm vs va vb P R n T A B := h
theorem OwnN.below {w w' : World} {lo hi : Nat} {vp vm vs va vb : Value} {P : List Int} {R : List (List Int)} {n : Nat} {T A B : List Th} (h : OwnN w lo hi vp vm vs va vb P R n T A B) (hb : Below w.heap.size w w') : OwnN w' lo hi vp vm vs va vb P R n T A B := RdN.below h hb

theorem szI_r (va : Value) (A : List Int) (q : Int) (w : World) (hA : Rd w va A) (h0 : 0 ≤ q) (h1 : q ≤ 1048576) :
    Calls Try.prog 9 #[va, .int .i64 q] w fun e w' => ∃ r, e = .returned (.int .i64 r) ∧ -1 ≤ r ∧ r ≤ q ∧ Below w.heap.size w w' :=
  (szInt64S_any va A q w hA (by omega) h1).mono fun e w' ⟨he, hw⟩ => ⟨_, he, by split <;> omega, by split <;> omega, hw ▸ Below.refl _ _⟩
theorem szM_r (a : Value) (R : List (List Int)) (q : Int) (w : World) (h : RdR w a R) (h0 : 0 ≤ q) (h1 : q ≤ 1048576) :
    Calls Try.prog 10 #[.agg #[a], .int .i64 q] w fun e w' => ∃ r, e = .returned (.int .i64 r) ∧ -1 ≤ r ∧ r ≤ q ∧ (0 ≤ r → (R.length : Int) + (sumLen R R.length : Int) ≤ q) ∧ Below w.heap.size w w' := by
  by_cases hle : (R.length : Int) + (sumLen R R.length : Int) ≤ q
  · exact (szMulti_yes a R q w h (by omega) h1 hle).mono fun e w' ⟨he, hb⟩ => ⟨_, he, by omega, by omega, fun _ => hle, hb⟩
  · exact (szMulti_no a R q w h (by omega) h1 hle).mono fun e w' ⟨he, hb⟩ => ⟨_, he, by omega, by omega, fun h => by omega, hb⟩
theorem szY_r (va : Value) (n : Nat) (T : List Th) (q : Int) (w : World) (hA : RdT 2 w va n T) (h0 : 0 ≤ q) (h1 : q ≤ 1048576) :
    Calls Try.prog 11 #[va, .int .i64 q] w fun e w' => ∃ r, e = .returned (.int .i64 r) ∧ -1 ≤ r ∧ r ≤ q ∧ Below w.heap.size w w' :=
  (szSyncBeatS_any va n T q w hA (by omega) h1).mono fun e w' ⟨he, hw⟩ => ⟨_, he, by split <;> omega, by split <;> omega, hw ▸ Below.refl _ _⟩
theorem szP_r (a b : Value) (A B : List Th) (q : Int) (w : World) (h : RdP w a b A B) (h0 : 0 ≤ q) (h1 : q ≤ 1048576) :
    Calls Try.prog 12 #[.agg #[a, b], .int .i64 q] w fun e w' => ∃ r, e = .returned (.int .i64 r) ∧ -1 ≤ r ∧ r ≤ q ∧ Below w.heap.size w w' := by
  by_cases hle : (A.length : Int) + (B.length : Int) ≤ q
  · exact (szPassing_yes a b A B q w h (by omega) h1 hle).mono fun e w' ⟨he, hb⟩ => ⟨_, he, by omega, by omega, hb⟩
  · exact (szPassing_no a b A B q w h (by omega) h1 hle).mono fun e w' ⟨he, hb⟩ => ⟨_, he, by omega, by omega, hb⟩

set_option maxHeartbeats 2000000 in
theorem szNotation_r (vp vm vs va vb : Value) (x : Int) (P : List Int) (R : List (List Int)) (n : Nat) (T A B : List Th) (q : Int) (w : World) (h : RdN w vp vm vs va vb P R n T A B) (h0 : 0 ≤ q) (h1 : q ≤ 1048576) :
    Calls Try.prog 4 #[.agg #[.int .i64 x, vp, vm, vs, va, vb], .int .i64 q] w fun e w' => ∃ r, e = .returned (.int .i64 r) ∧ -1 ≤ r ∧ r ≤ q ∧ (0 ≤ r → (R.length : Int) + (sumLen R R.length : Int) ≤ q) ∧ Below w.heap.size w w' := by
  obtain ⟨sp, np, cp, sm, nm, cm, ss, ns, cs, sa, na, ca, sb, nb, cb, rfl, rfl, rfl, rfl, rfl⟩ := h.form'
  have H := Lib.hid h
  clear h
  go_enter Try.func4, Try.ntmps4
  go_wp2_with fail
  generalize hW : World.alloc w _ = w0
  have k1 : w0.cell? ⟨w.heap.size, 1, none⟩ = some (.slice sp np cp) := by rw [← hW]; simp
  have k2 : w0.cell? ⟨w.heap.size, 2, none⟩ = some (.slice sm nm cm) := by rw [← hW]; simp
  have k3 : w0.cell? ⟨w.heap.size, 3, none⟩ = some (.slice ss ns cs) := by rw [← hW]; simp
  have k4 : w0.cell? ⟨w.heap.size, 4, none⟩ = some (.slice sa na ca) := by rw [← hW]; simp
  have k5 : w0.cell? ⟨w.heap.size, 5, none⟩ = some (.slice sb nb cb) := by rw [← hW]; simp
  have hlt : w.heap.size < w0.heap.size := by rw [← hW]; simp
  have hB : Below w.heap.size w w0 := by rw [← hW]; exact box_below _ _
  clear hW
  refine (szI_r _ P q _ (H.out.below hB).parts.1 (by omega) (by omega)).mono ?_
  rintro e w1 ⟨r1, rfl, a0, b0, hb⟩
  replace k1 := (hb.cell (p := ⟨w.heap.size, 1, none⟩) hlt).trans k1
  replace k2 := (hb.cell (p := ⟨w.heap.size, 2, none⟩) hlt).trans k2
  replace k3 := (hb.cell (p := ⟨w.heap.size, 3, none⟩) hlt).trans k3
  replace k4 := (hb.cell (p := ⟨w.heap.size, 4, none⟩) hlt).trans k4
  replace k5 := (hb.cell (p := ⟨w.heap.size, 5, none⟩) hlt).trans k5
  replace hlt := Nat.lt_of_lt_of_le hlt hb.size
  replace hB := below_step hB hb hB.size
  clear hb
  by_cases n0 : r1 < 0
  · go_wp2
    go_ret
    exact ⟨_, rfl, by omega, by omega, fun h => by omega, hB⟩
  go_wp2_with fail
  refine (szM_r _ R r1 _ (H.out.below hB).parts.2.1 (by omega) (by omega)).mono ?_
  rintro e w2 ⟨r2, rfl, a1, b1, hm, hb⟩
  replace k1 := (hb.cell (p := ⟨w.heap.size, 1, none⟩) hlt).trans k1
  replace k2 := (hb.cell (p := ⟨w.heap.size, 2, none⟩) hlt).trans k2
  replace k3 := (hb.cell (p := ⟨w.heap.size, 3, none⟩) hlt).trans k3
  replace k4 := (hb.cell (p := ⟨w.heap.size, 4, none⟩) hlt).trans k4
  replace k5 := (hb.cell (p := ⟨w.heap.size, 5, none⟩) hlt).trans k5
  replace hlt := Nat.lt_of_lt_of_le hlt hb.size
  replace hB := below_step hB hb hB.size
  clear hb
  by_cases n1 : r2 < 0
  · go_wp2
    go_ret
    exact ⟨_, rfl, by omega, by omega, fun h => by omega, hB⟩
  go_wp2_with fail
  refine (szY_r _ n T r2 _ (H.out.below hB).parts.2.2.1 (by omega) (by omega)).mono ?_
  rintro e w3 ⟨r3, rfl, a2, b2, hb⟩
  replace k1 := (hb.cell (p := ⟨w.heap.size, 1, none⟩) hlt).trans k1
  replace k2 := (hb.cell (p := ⟨w.heap.size, 2, none⟩) hlt).trans k2
  replace k3 := (hb.cell (p := ⟨w.heap.size, 3, none⟩) hlt).trans k3
  replace k4 := (hb.cell (p := ⟨w.heap.size, 4, none⟩) hlt).trans k4
  replace k5 := (hb.cell (p := ⟨w.heap.size, 5, none⟩) hlt).trans k5
  replace hlt := Nat.lt_of_lt_of_le hlt hb.size
  replace hB := below_step hB hb hB.size
  clear hb
  by_cases n2 : r3 < 0
  · go_wp2
    go_ret
    exact ⟨_, rfl, by omega, by omega, fun h => by omega, hB⟩
  go_wp2_with fail
  refine (szP_r _ _ A B r3 _ (H.out.below hB).parts.2.2.2 (by omega) (by omega)).mono ?_
  rintro e w4 ⟨r4, rfl, a3, b3, hb⟩
  replace k1 := (hb.cell (p := ⟨w.heap.size, 1, none⟩) hlt).trans k1
  replace k2 := (hb.cell (p := ⟨w.heap.size, 2, none⟩) hlt).trans k2
  replace k3 := (hb.cell (p := ⟨w.heap.size, 3, none⟩) hlt).trans k3
  replace k4 := (hb.cell (p := ⟨w.heap.size, 4, none⟩) hlt).trans k4
  replace k5 := (hb.cell (p := ⟨w.heap.size, 5, none⟩) hlt).trans k5
  replace hlt := Nat.lt_of_lt_of_le hlt hb.size
  replace hB := below_step hB hb hB.size
  clear hb
  by_cases n3 : r4 < 0
  · go_wp2
    go_ret
    exact ⟨_, rfl, by omega, by omega, fun h => by omega, hB⟩
  go_wp2
  go_ret
  exact ⟨_, rfl, by omega, by omega, fun h => by have := hm (by omega); omega, hB⟩

theorem chg_set {a b : World} {lo hi : Nat} (h : Chg a b lo hi) (B o : Nat) (u : Value) (h1 : lo ≤ B) (h2 : B < hi) : Chg a (b.setCell ⟨B, o, none⟩ u) lo hi := h.setCell _ _ h1 h2
theorem alloc_old (w : World) (o : Obj) (k : Nat) (h : k < w.heap.size) : (w.alloc o).heap[k]? = w.heap[k]? := ((Below.refl w.heap.size w).alloc (Nat.le_refl _) o).block _ h
theorem heap3a (w : World) (o0 o1 o2 : Obj) : (((w.alloc o0).alloc o1).alloc o2).heap[w.heap.size]? = some o0 := by
  rw [alloc_old _ _ _ (by simp; omega), alloc_old _ _ _ (by simp)]; exact heap_alloc_new _ _
theorem heap3b (w : World) (o0 o1 o2 : Obj) : (((w.alloc o0).alloc o1).alloc o2).heap[w.heap.size + 1]? = some o1 := by
  rw [alloc_old _ _ _ (by simp)]
  have := heap_alloc_new (w.alloc o0) o1
  rwa [show (w.alloc o0).heap.size = w.heap.size + 1 by simp] at this
theorem heap3c (w : World) (o0 o1 o2 : Obj) : (((w.alloc o0).alloc o1).alloc o2).heap[w.heap.size + 1 + 1]? = some o2 := by
  have := heap_alloc_new ((w.alloc o0).alloc o1) o2
  rwa [show ((w.alloc o0).alloc o1).heap.size = w.heap.size + 1 + 1 by simp] at this

set_option maxHeartbeats 4000000 in
theorem toNotation_any (vp vm vs va vb : Value) (x : Int) (P : List Int) (R : List (List Int)) (n : Nat) (T A B : List Th) (w : World) (h : RdN w vp vm vs va vb P R n T A B) (hsm : R.length + sumLen R R.length ≤ 1048576) :
    Calls Try.prog 6 #[.agg #[.int .i64 x, vp, vm, vs, va, vb]] w fun e w' => ∃ u1 u2 u3 u4 u5, e = .returned (.agg #[.int .i64 x, u1, u2, u3, u4, u5]) ∧ OwnN w' w.heap.size w'.heap.size u1 u2 u3 u4 u5 P R n T A B ∧ Below w.heap.size w w' := by
  obtain ⟨sp, np, cp, sm, nm, cm, ss, ns, cs, sa, na, ca, sb, nb, cb, rfl, rfl, rfl, rfl, rfl⟩ := h.form'
  have H := Lib.hid h
  have HS := Lib.hid hsm
  clear h hsm
  go_enter Try.func6, Try.ntmps6
  go_wp2_with fail
  generalize hW : World.alloc (World.alloc (World.alloc w _) _) _ = w0
  have A0 : w0.heap[w.heap.size]? = some (.cells #[.int .i64 x, .slice sp np cp, .slice sm nm cm, .slice ss ns cs, .slice sa na ca, .slice sb nb cb] 31 (0, 0)) := by
    rw [← hW]; exact heap3a w _ _ _
  have A1 : w0.heap[w.heap.size + 1]? = some (.cells #[.int .i64 0, .slice none 0 0, .slice none 0 0, .slice none 0 0, .slice none 0 0, .slice none 0 0] 40 (0, 0)) := by
    rw [← hW]; exact heap3b w _ _ _
  have A2 : w0.heap[w.heap.size + 1 + 1]? = some (.cells #[.int .i64 x, .slice none 0 0, .slice none 0 0, .slice none 0 0, .slice none 0 0, .slice none 0 0] 40 (0, 0)) := by
    rw [← hW]; exact heap3c w _ _ _
  have hlt : w.heap.size + 1 + 1 < w0.heap.size := by rw [← hW]; simp
  have hB : Below w.heap.size w w0 := by rw [← hW]; exact (((Below.refl _ _).alloc (Nat.le_refl _) _).alloc (by simp) _).alloc (by simp; omega) _
  clear hW
  with_reducible refine (toInt64S_any _ P _ (H.out.below hB).parts.1).mono ?_
  rintro e v1w ⟨v1, rfl, g1, hb⟩
  have hsz := hb.size
  replace A0 := (hb.block _ (by omega)).trans A0
  replace A1 := (hb.block _ (by omega)).trans A1
  replace A2 := (hb.block _ (by omega)).trans A2
  have lg1 : w.heap.size + 1 + 1 + 1 ≤ w0.heap.size := hlt
  replace hlt := Nat.lt_of_lt_of_le hlt hsz
  replace hB := below_step hB hb hB.size
  clear hb hsz
  obtain ⟨_, s1, c1, hv, _⟩ := g1.rd; subst hv
  have o1 : v1w.cell? ⟨w.heap.size + 1 + 1, 1, none⟩ = some (.slice none 0 0) := by rw [Go.Joins.cell_of_block A2]; rfl
  have z1 : v1w.frozen? ⟨w.heap.size + 1 + 1, 1, none⟩ = false := Go.Joins.unfrozen_of_block A2 1
  have k2 : v1w.cell? ⟨w.heap.size, 2, none⟩ = some (.slice sm nm cm) := by rw [Go.Joins.cell_of_block A0]; rfl
  have G1 := Lib.hid g1
  clear g1
  have A0' : (World.setCell v1w ⟨w.heap.size + 1 + 1, 1, none⟩ (.slice s1 P.length c1)).heap[w.heap.size]? = _ := (Below.heap_setCell _ _ _ _ (by show w.heap.size ≠ w.heap.size + 1 + 1; omega)).trans A0
  have A1' : (World.setCell v1w ⟨w.heap.size + 1 + 1, 1, none⟩ (.slice s1 P.length c1)).heap[w.heap.size + 1]? = _ := (Below.heap_setCell _ _ _ _ (by show w.heap.size + 1 ≠ w.heap.size + 1 + 1; omega)).trans A1
  have A2' : (World.setCell v1w ⟨w.heap.size + 1 + 1, 1, none⟩ (.slice s1 P.length c1)).heap[w.heap.size + 1 + 1]? = some (.cells #[.int .i64 x, .slice s1 P.length c1, .slice none 0 0, .slice none 0 0, .slice none 0 0, .slice none 0 0] 40 (0, 0)) := Go.Joins.block_setCell A2 _
  have hC : Chg v1w (World.setCell v1w ⟨w.heap.size + 1 + 1, 1, none⟩ (.slice s1 P.length c1)) (w.heap.size + 1 + 1) (w.heap.size + 1 + 1 + 1) := (Chg.refl _ _ _).setCell _ _ (Nat.le_refl _) (Nat.lt_succ_self _)
  have G1' := Lib.hid (G1.out.kept hC (.inr lg1))
  have hlt' : w.heap.size + 1 + 1 < (World.setCell v1w ⟨w.heap.size + 1 + 1, 1, none⟩ (.slice s1 P.length c1)).heap.size := by simpa using hlt
  have hB' : Below w.heap.size w (World.setCell v1w ⟨w.heap.size + 1 + 1, 1, none⟩ (.slice s1 P.length c1)) := hB.setCell (p := ⟨w.heap.size + 1 + 1, 1, none⟩) (by show w.heap.size ≤ w.heap.size + 1 + 1; omega) _
  clear A0 A1 A2 hC hlt hB G1
  go_wp2_with fail
  generalize (World.setCell v1w ⟨w.heap.size + 1 + 1, 1, none⟩ (.slice s1 P.length c1)) = w1 at *
  have A0 := A0'
  have A1 := A1'
  have A2 := A2'
  have hlt := hlt'
  have hB := hB'
  have G1 := G1'
  clear A0' A1' A2' hlt' hB' G1'
  with_reducible refine (toMulti_any _ R _ (H.out.below hB).parts.2.1 HS.out).mono ?_
  rintro e v2w ⟨v1, rfl, g2, hb⟩
  have hsz := hb.size
  replace A0 := (hb.block _ (by omega)).trans A0
  replace A1 := (hb.block _ (by omega)).trans A1
  replace A2 := (hb.block _ (by omega)).trans A2
  replace G1 := Lib.hid (G1.out.below hb)
  have lg2 : w.heap.size + 1 + 1 + 1 ≤ w1.heap.size := hlt
  replace hlt := Nat.lt_of_lt_of_le hlt hsz
  replace hB := below_step hB hb hB.size
  clear hb hsz
  obtain ⟨s2, n2, c2, rfl⟩ := g2.rd.form'
  have o2 : v2w.cell? ⟨w.heap.size + 1 + 1, 2, none⟩ = some (.slice none 0 0) := by rw [Go.Joins.cell_of_block A2]; rfl
  have z2 : v2w.frozen? ⟨w.heap.size + 1 + 1, 2, none⟩ = false := Go.Joins.unfrozen_of_block A2 2
  have k3 : v2w.cell? ⟨w.heap.size, 3, none⟩ = some (.slice ss ns cs) := by rw [Go.Joins.cell_of_block A0]; rfl
  have G2 := Lib.hid g2
  clear g2
  have A0' : (World.setCell v2w ⟨w.heap.size + 1 + 1, 2, none⟩ (.slice s2 n2 c2)).heap[w.heap.size]? = _ := (Below.heap_setCell _ _ _ _ (by show w.heap.size ≠ w.heap.size + 1 + 1; omega)).trans A0
  have A1' : (World.setCell v2w ⟨w.heap.size + 1 + 1, 2, none⟩ (.slice s2 n2 c2)).heap[w.heap.size + 1]? = _ := (Below.heap_setCell _ _ _ _ (by show w.heap.size + 1 ≠ w.heap.size + 1 + 1; omega)).trans A1
  have A2' : (World.setCell v2w ⟨w.heap.size + 1 + 1, 2, none⟩ (.slice s2 n2 c2)).heap[w.heap.size + 1 + 1]? = some (.cells #[.int .i64 x, .slice s1 P.length c1, .slice s2 n2 c2, .slice none 0 0, .slice none 0 0, .slice none 0 0] 40 (0, 0)) := Go.Joins.block_setCell A2 _
  have hC : Chg v2w (World.setCell v2w ⟨w.heap.size + 1 + 1, 2, none⟩ (.slice s2 n2 c2)) (w.heap.size + 1 + 1) (w.heap.size + 1 + 1 + 1) := (Chg.refl _ _ _).setCell _ _ (Nat.le_refl _) (Nat.lt_succ_self _)
  have G1' := Lib.hid (G1.out.kept hC (.inr lg1))
  have G2' := Lib.hid (G2.out.kept hC (.inr lg2))
  have hlt' : w.heap.size + 1 + 1 < (World.setCell v2w ⟨w.heap.size + 1 + 1, 2, none⟩ (.slice s2 n2 c2)).heap.size := by simpa using hlt
  have hB' : Below w.heap.size w (World.setCell v2w ⟨w.heap.size + 1 + 1, 2, none⟩ (.slice s2 n2 c2)) := hB.setCell (p := ⟨w.heap.size + 1 + 1, 2, none⟩) (by show w.heap.size ≤ w.heap.size + 1 + 1; omega) _
  clear A0 A1 A2 hC hlt hB G1 G2
  go_wp2_with fail
  generalize (World.setCell v2w ⟨w.heap.size + 1 + 1, 2, none⟩ (.slice s2 n2 c2)) = w2 at *
  have A0 := A0'
  have A1 := A1'
  have A2 := A2'
  have hlt := hlt'
  have hB := hB'
  have G1 := G1'
  have G2 := G2'
  clear A0' A1' A2' hlt' hB' G1' G2'
  with_reducible refine (toSyncBeatS_any _ n T _ (H.out.below hB).parts.2.2.1).mono ?_
  rintro e v3w ⟨v1, rfl, g3, hb⟩
  have hsz := hb.size
  replace A0 := (hb.block _ (by omega)).trans A0
  replace A1 := (hb.block _ (by omega)).trans A1
  replace A2 := (hb.block _ (by omega)).trans A2
  replace G1 := Lib.hid (G1.out.below hb)
  replace G2 := Lib.hid (G2.out.below hb)
  have lg3 : w.heap.size + 1 + 1 + 1 ≤ w2.heap.size := hlt
  replace hlt := Nat.lt_of_lt_of_le hlt hsz
  replace hB := below_step hB hb hB.size
  clear hb hsz
  obtain ⟨_, _, s3, c3, hv, _⟩ := g3.rd; subst hv
  have o3 : v3w.cell? ⟨w.heap.size + 1 + 1, 3, none⟩ = some (.slice none 0 0) := by rw [Go.Joins.cell_of_block A2]; rfl
  have z3 : v3w.frozen? ⟨w.heap.size + 1 + 1, 3, none⟩ = false := Go.Joins.unfrozen_of_block A2 3
  have k4 : v3w.cell? ⟨w.heap.size, 4, none⟩ = some (.slice sa na ca) := by rw [Go.Joins.cell_of_block A0]; rfl
  have k5 : v3w.cell? ⟨w.heap.size, 5, none⟩ = some (.slice sb nb cb) := by rw [Go.Joins.cell_of_block A0]; rfl
  have G3 := Lib.hid g3
  clear g3
  have A0' : (World.setCell v3w ⟨w.heap.size + 1 + 1, 3, none⟩ (.slice s3 n c3)).heap[w.heap.size]? = _ := (Below.heap_setCell _ _ _ _ (by show w.heap.size ≠ w.heap.size + 1 + 1; omega)).trans A0
  have A1' : (World.setCell v3w ⟨w.heap.size + 1 + 1, 3, none⟩ (.slice s3 n c3)).heap[w.heap.size + 1]? = _ := (Below.heap_setCell _ _ _ _ (by show w.heap.size + 1 ≠ w.heap.size + 1 + 1; omega)).trans A1
  have A2' : (World.setCell v3w ⟨w.heap.size + 1 + 1, 3, none⟩ (.slice s3 n c3)).heap[w.heap.size + 1 + 1]? = some (.cells #[.int .i64 x, .slice s1 P.length c1, .slice s2 n2 c2, .slice s3 n c3, .slice none 0 0, .slice none 0 0] 40 (0, 0)) := Go.Joins.block_setCell A2 _
  have hC : Chg v3w (World.setCell v3w ⟨w.heap.size + 1 + 1, 3, none⟩ (.slice s3 n c3)) (w.heap.size + 1 + 1) (w.heap.size + 1 + 1 + 1) := (Chg.refl _ _ _).setCell _ _ (Nat.le_refl _) (Nat.lt_succ_self _)
  have G1' := Lib.hid (G1.out.kept hC (.inr lg1))
  have G2' := Lib.hid (G2.out.kept hC (.inr lg2))
  have G3' := Lib.hid (G3.out.kept hC (.inr lg3))
  have hlt' : w.heap.size + 1 + 1 < (World.setCell v3w ⟨w.heap.size + 1 + 1, 3, none⟩ (.slice s3 n c3)).heap.size := by simpa using hlt
  have hB' : Below w.heap.size w (World.setCell v3w ⟨w.heap.size + 1 + 1, 3, none⟩ (.slice s3 n c3)) := hB.setCell (p := ⟨w.heap.size + 1 + 1, 3, none⟩) (by show w.heap.size ≤ w.heap.size + 1 + 1; omega) _
  clear A0 A1 A2 hC hlt hB G1 G2 G3
  go_wp2_with fail
  generalize (World.setCell v3w ⟨w.heap.size + 1 + 1, 3, none⟩ (.slice s3 n c3)) = w3 at *
  have A0 := A0'
  have A1 := A1'
  have A2 := A2'
  have hlt := hlt'
  have hB := hB'
  have G1 := G1'
  have G2 := G2'
  have G3 := G3'
  clear A0' A1' A2' hlt' hB' G1' G2' G3'
  with_reducible refine (toPassing_any _ _ A B _ (H.out.below hB).parts.2.2.2).mono ?_
  rintro e v4w ⟨v1, v2, rfl, g4, hb⟩
  have hsz := hb.size
  replace A0 := (hb.block _ (by omega)).trans A0
  replace A1 := (hb.block _ (by omega)).trans A1
  replace A2 := (hb.block _ (by omega)).trans A2
  replace G1 := Lib.hid (G1.out.below hb)
  replace G2 := Lib.hid (G2.out.below hb)
  replace G3 := Lib.hid (G3.out.below hb)
  have lg4 : w.heap.size + 1 + 1 + 1 ≤ w3.heap.size := hlt
  replace hlt := Nat.lt_of_lt_of_le hlt hsz
  replace hB := below_step hB hb hB.size
  clear hb hsz
  obtain ⟨s4, n4, c4, s5, n5, c5, rfl, rfl⟩ := g4.rd.form'
  have o4 : v4w.cell? ⟨w.heap.size + 1 + 1, 4, none⟩ = some (.slice none 0 0) := by rw [Go.Joins.cell_of_block A2]; rfl
  have z4 : v4w.frozen? ⟨w.heap.size + 1 + 1, 4, none⟩ = false := Go.Joins.unfrozen_of_block A2 4
  have o5 : v4w.cell? ⟨w.heap.size + 1 + 1, 5, none⟩ = some (.slice none 0 0) := by rw [Go.Joins.cell_of_block A2]; rfl
  have z5 : v4w.frozen? ⟨w.heap.size + 1 + 1, 5, none⟩ = false := Go.Joins.unfrozen_of_block A2 5
  have G4 := Lib.hid g4
  clear g4
  have f0 : v4w.cell? ⟨w.heap.size + 1 + 1, 0, none⟩ = some (.int .i64 x) := by rw [Go.Joins.cell_of_block A2]; rfl
  have f1 : v4w.cell? ⟨w.heap.size + 1 + 1, 1, none⟩ = some (.slice s1 P.length c1) := by rw [Go.Joins.cell_of_block A2]; rfl
  have f2 : v4w.cell? ⟨w.heap.size + 1 + 1, 2, none⟩ = some (.slice s2 n2 c2) := by rw [Go.Joins.cell_of_block A2]; rfl
  have f3 : v4w.cell? ⟨w.heap.size + 1 + 1, 3, none⟩ = some (.slice s3 n c3) := by rw [Go.Joins.cell_of_block A2]; rfl
  have y0 : v4w.cell? ⟨w.heap.size + 1, 0, none⟩ = some (.int .i64 0) := by rw [Go.Joins.cell_of_block A1]; rfl
  have x0 : v4w.frozen? ⟨w.heap.size + 1, 0, none⟩ = false := Go.Joins.unfrozen_of_block A1 0
  have y1 : v4w.cell? ⟨w.heap.size + 1, 1, none⟩ = some (.slice none 0 0) := by rw [Go.Joins.cell_of_block A1]; rfl
  have x1 : v4w.frozen? ⟨w.heap.size + 1, 1, none⟩ = false := Go.Joins.unfrozen_of_block A1 1
  have y2 : v4w.cell? ⟨w.heap.size + 1, 2, none⟩ = some (.slice none 0 0) := by rw [Go.Joins.cell_of_block A1]; rfl
  have x2 : v4w.frozen? ⟨w.heap.size + 1, 2, none⟩ = false := Go.Joins.unfrozen_of_block A1 2
  have y3 : v4w.cell? ⟨w.heap.size + 1, 3, none⟩ = some (.slice none 0 0) := by rw [Go.Joins.cell_of_block A1]; rfl
  have x3 : v4w.frozen? ⟨w.heap.size + 1, 3, none⟩ = false := Go.Joins.unfrozen_of_block A1 3
  have y4 : v4w.cell? ⟨w.heap.size + 1, 4, none⟩ = some (.slice none 0 0) := by rw [Go.Joins.cell_of_block A1]; rfl
  have x4 : v4w.frozen? ⟨w.heap.size + 1, 4, none⟩ = false := Go.Joins.unfrozen_of_block A1 4
  have y5 : v4w.cell? ⟨w.heap.size + 1, 5, none⟩ = some (.slice none 0 0) := by rw [Go.Joins.cell_of_block A1]; rfl
  have x5 : v4w.frozen? ⟨w.heap.size + 1, 5, none⟩ = false := Go.Joins.unfrozen_of_block A1 5
  have HB := Lib.hid (And.intro hB (And.intro A2 A1))
  clear hB A0 A1 A2
  go_wp2
  generalize hW : (World.setCell (World.setCell (World.setCell (World.setCell (World.setCell (World.setCell (World.setCell (World.setCell v4w _ _) _ _) _ _) _ _) _ _) _ _) _ _) _ _) = wf
  have hF : Chg v4w wf (w.heap.size + 1) (w.heap.size + 1 + 1 + 1) := by rw [← hW]; exact (chg_set (chg_set (chg_set (chg_set (chg_set (chg_set (chg_set (chg_set (Chg.refl v4w _ _) (w.heap.size + 1 + 1) _ _ (by omega) (by omega)) (w.heap.size + 1 + 1) _ _ (by omega) (by omega)) (w.heap.size + 1) _ _ (by omega) (by omega)) (w.heap.size + 1) _ _ (by omega) (by omega)) (w.heap.size + 1) _ _ (by omega) (by omega)) (w.heap.size + 1) _ _ (by omega) (by omega)) (w.heap.size + 1) _ _ (by omega) (by omega)) (w.heap.size + 1) _ _ (by omega) (by omega))
  have hA : wf.heap[w.heap.size + 1]? = some (.cells #[.int .i64 x, .slice s1 P.length c1, .slice s2 n2 c2, .slice s3 n c3, .slice s4 n4 c4, .slice s5 n5 c5] 40 (0, 0)) := by rw [← hW]; exact (Go.Joins.block_setCell (Go.Joins.block_setCell (Go.Joins.block_setCell (Go.Joins.block_setCell (Go.Joins.block_setCell (Go.Joins.block_setCell ((Below.heap_setCell _ ⟨w.heap.size + 1 + 1, 5, none⟩ _ _ (by show w.heap.size + 1 ≠ w.heap.size + 1 + 1; omega)).trans ((Below.heap_setCell _ ⟨w.heap.size + 1 + 1, 4, none⟩ _ _ (by show w.heap.size + 1 ≠ w.heap.size + 1 + 1; omega)).trans HB.out.2.2)) _) _) _) _) _) _)
  have q0 : wf.cell? ⟨w.heap.size + 1, 0, none⟩ = some (.int .i64 x) := by rw [Go.Joins.cell_of_block hA]; rfl
  have q1 : wf.cell? ⟨w.heap.size + 1, 1, none⟩ = some (.slice s1 P.length c1) := by rw [Go.Joins.cell_of_block hA]; rfl
  have q2 : wf.cell? ⟨w.heap.size + 1, 2, none⟩ = some (.slice s2 n2 c2) := by rw [Go.Joins.cell_of_block hA]; rfl
  have q3 : wf.cell? ⟨w.heap.size + 1, 3, none⟩ = some (.slice s3 n c3) := by rw [Go.Joins.cell_of_block hA]; rfl
  have q4 : wf.cell? ⟨w.heap.size + 1, 4, none⟩ = some (.slice s4 n4 c4) := by rw [Go.Joins.cell_of_block hA]; rfl
  have q5 : wf.cell? ⟨w.heap.size + 1, 5, none⟩ = some (.slice s5 n5 c5) := by rw [Go.Joins.cell_of_block hA]; rfl
  clear hW
  clear y0 x0
  clear y1 x1
  clear y2 x2
  clear y3 x3
  clear y4 x4
  clear y5 x5
  refine bodyPost_ret (v := .agg #[.int .i64 x, .slice s1 P.length c1, .slice s2 n2 c2, .slice s3 n c3, .slice s4 n4 c4, .slice s5 n5 c5]) (by simp [results, Try.results6, go_sem, q0, q1, q2, q3, q4, q5]) rfl ⟨_, _, _, _, _, rfl, ?_, ?_⟩
  · exact ⟨(G1.out.kept hF (.inr lg1)).rd, (G2.out.kept hF (.inr lg2)).rd, (G3.out.kept hF (.inr lg3)).rd, (G4.out.kept hF (.inr lg4)).rd⟩
  · exact below_chg_step HB.out.1 hF HB.out.1.size (by omega)

set_option maxHeartbeats 4000000 in
theorem eqNotation_same (vp vm vs va vb vp' vm' vs' va' vb' : Value) (x : Int) (P : List Int) (R : List (List Int)) (n : Nat) (T A B : List Th) (w : World) (h : RdN w vp vm vs va vb P R n T A B) (h' : RdN w vp' vm' vs' va' vb' P R n T A B) :
    Calls Try.prog 8 #[.agg #[.int .i64 x, vp, vm, vs, va, vb], .agg #[.int .i64 x, vp', vm', vs', va', vb']] w fun e w' => e = .returned (.bool true) ∧ Below w.heap.size w w' := by
  obtain ⟨sp, np, cp, sm, nm, cm, ss, ns, cs, sa, na, ca, sb, nb, cb, rfl, rfl, rfl, rfl, rfl⟩ := h.form'
  obtain ⟨sp', np', cp', sm', nm', cm', ss', ns', cs', sa', na', ca', sb', nb', cb', rfl, rfl, rfl, rfl, rfl⟩ := h'.form'
  have H := Lib.hid h
  have H' := Lib.hid h'
  clear h h'
  go_enter Try.func8, Try.ntmps8
  go_wp2_with fail
  generalize hW : World.alloc (World.alloc w _) _ = w0
  have k1 : w0.cell? ⟨w.heap.size, 1, none⟩ = some (.slice sp np cp) := by rw [← hW]; simp
  have l1 : w0.cell? ⟨w.heap.size + 1, 1, none⟩ = some (.slice sp' np' cp') := by rw [← hW]; simp
  have k2 : w0.cell? ⟨w.heap.size, 2, none⟩ = some (.slice sm nm cm) := by rw [← hW]; simp
  have l2 : w0.cell? ⟨w.heap.size + 1, 2, none⟩ = some (.slice sm' nm' cm') := by rw [← hW]; simp
  have k3 : w0.cell? ⟨w.heap.size, 3, none⟩ = some (.slice ss ns cs) := by rw [← hW]; simp
  have l3 : w0.cell? ⟨w.heap.size + 1, 3, none⟩ = some (.slice ss' ns' cs') := by rw [← hW]; simp
  have k4 : w0.cell? ⟨w.heap.size, 4, none⟩ = some (.slice sa na ca) := by rw [← hW]; simp
  have l4 : w0.cell? ⟨w.heap.size + 1, 4, none⟩ = some (.slice sa' na' ca') := by rw [← hW]; simp
  have k5 : w0.cell? ⟨w.heap.size, 5, none⟩ = some (.slice sb nb cb) := by rw [← hW]; simp
  have l5 : w0.cell? ⟨w.heap.size + 1, 5, none⟩ = some (.slice sb' nb' cb') := by rw [← hW]; simp
  have hlt : w.heap.size + 1 < w0.heap.size := by rw [← hW]; simp
  have hB : Below w.heap.size w w0 := by rw [← hW]; exact (box_below _ _).alloc (by simp) _
  clear hW
  refine (eqInt64S_same _ _ P _ (H.out.below hB).parts.1 (H'.out.below hB).parts.1).mono ?_
  rintro e w1 ⟨rfl, hb⟩
  replace k1 := (hb.cell (p := ⟨w.heap.size, 1, none⟩) (by show w.heap.size < _; omega)).trans k1
  replace l1 := (hb.cell (p := ⟨w.heap.size + 1, 1, none⟩) hlt).trans l1
  replace k2 := (hb.cell (p := ⟨w.heap.size, 2, none⟩) (by show w.heap.size < _; omega)).trans k2
  replace l2 := (hb.cell (p := ⟨w.heap.size + 1, 2, none⟩) hlt).trans l2
  replace k3 := (hb.cell (p := ⟨w.heap.size, 3, none⟩) (by show w.heap.size < _; omega)).trans k3
  replace l3 := (hb.cell (p := ⟨w.heap.size + 1, 3, none⟩) hlt).trans l3
  replace k4 := (hb.cell (p := ⟨w.heap.size, 4, none⟩) (by show w.heap.size < _; omega)).trans k4
  replace l4 := (hb.cell (p := ⟨w.heap.size + 1, 4, none⟩) hlt).trans l4
  replace k5 := (hb.cell (p := ⟨w.heap.size, 5, none⟩) (by show w.heap.size < _; omega)).trans k5
  replace l5 := (hb.cell (p := ⟨w.heap.size + 1, 5, none⟩) hlt).trans l5
  replace hlt := Nat.lt_of_lt_of_le hlt hb.size
  replace hB := below_step hB hb hB.size
  clear hb
  go_wp2_with fail
  refine (eqMulti_same _ _ R _ (H.out.below hB).parts.2.1 (H'.out.below hB).parts.2.1).mono ?_
  rintro e w2 ⟨rfl, hb⟩
  replace k1 := (hb.cell (p := ⟨w.heap.size, 1, none⟩) (by show w.heap.size < _; omega)).trans k1
  replace l1 := (hb.cell (p := ⟨w.heap.size + 1, 1, none⟩) hlt).trans l1
  replace k2 := (hb.cell (p := ⟨w.heap.size, 2, none⟩) (by show w.heap.size < _; omega)).trans k2
  replace l2 := (hb.cell (p := ⟨w.heap.size + 1, 2, none⟩) hlt).trans l2
  replace k3 := (hb.cell (p := ⟨w.heap.size, 3, none⟩) (by show w.heap.size < _; omega)).trans k3
  replace l3 := (hb.cell (p := ⟨w.heap.size + 1, 3, none⟩) hlt).trans l3
  replace k4 := (hb.cell (p := ⟨w.heap.size, 4, none⟩) (by show w.heap.size < _; omega)).trans k4
  replace l4 := (hb.cell (p := ⟨w.heap.size + 1, 4, none⟩) hlt).trans l4
  replace k5 := (hb.cell (p := ⟨w.heap.size, 5, none⟩) (by show w.heap.size < _; omega)).trans k5
  replace l5 := (hb.cell (p := ⟨w.heap.size + 1, 5, none⟩) hlt).trans l5
  replace hlt := Nat.lt_of_lt_of_le hlt hb.size
  replace hB := below_step hB hb hB.size
  clear hb
  go_wp2_with fail
  refine (eqSyncBeatS_same _ _ n T _ (H.out.below hB).parts.2.2.1 (H'.out.below hB).parts.2.2.1).mono ?_
  rintro e w3 ⟨rfl, hb⟩
  replace k1 := (hb.cell (p := ⟨w.heap.size, 1, none⟩) (by show w.heap.size < _; omega)).trans k1
  replace l1 := (hb.cell (p := ⟨w.heap.size + 1, 1, none⟩) hlt).trans l1
  replace k2 := (hb.cell (p := ⟨w.heap.size, 2, none⟩) (by show w.heap.size < _; omega)).trans k2
  replace l2 := (hb.cell (p := ⟨w.heap.size + 1, 2, none⟩) hlt).trans l2
  replace k3 := (hb.cell (p := ⟨w.heap.size, 3, none⟩) (by show w.heap.size < _; omega)).trans k3
  replace l3 := (hb.cell (p := ⟨w.heap.size + 1, 3, none⟩) hlt).trans l3
  replace k4 := (hb.cell (p := ⟨w.heap.size, 4, none⟩) (by show w.heap.size < _; omega)).trans k4
  replace l4 := (hb.cell (p := ⟨w.heap.size + 1, 4, none⟩) hlt).trans l4
  replace k5 := (hb.cell (p := ⟨w.heap.size, 5, none⟩) (by show w.heap.size < _; omega)).trans k5
  replace l5 := (hb.cell (p := ⟨w.heap.size + 1, 5, none⟩) hlt).trans l5
  replace hlt := Nat.lt_of_lt_of_le hlt hb.size
  replace hB := below_step hB hb hB.size
  clear hb
  go_wp2_with fail
  refine (eqPassing_same _ _ _ _ A B _ (H.out.below hB).parts.2.2.2 (H'.out.below hB).parts.2.2.2).mono ?_
  rintro e w4 ⟨rfl, hb⟩
  replace k1 := (hb.cell (p := ⟨w.heap.size, 1, none⟩) (by show w.heap.size < _; omega)).trans k1
  replace l1 := (hb.cell (p := ⟨w.heap.size + 1, 1, none⟩) hlt).trans l1
  replace k2 := (hb.cell (p := ⟨w.heap.size, 2, none⟩) (by show w.heap.size < _; omega)).trans k2
  replace l2 := (hb.cell (p := ⟨w.heap.size + 1, 2, none⟩) hlt).trans l2
  replace k3 := (hb.cell (p := ⟨w.heap.size, 3, none⟩) (by show w.heap.size < _; omega)).trans k3
  replace l3 := (hb.cell (p := ⟨w.heap.size + 1, 3, none⟩) hlt).trans l3
  replace k4 := (hb.cell (p := ⟨w.heap.size, 4, none⟩) (by show w.heap.size < _; omega)).trans k4
  replace l4 := (hb.cell (p := ⟨w.heap.size + 1, 4, none⟩) hlt).trans l4
  replace k5 := (hb.cell (p := ⟨w.heap.size, 5, none⟩) (by show w.heap.size < _; omega)).trans k5
  replace l5 := (hb.cell (p := ⟨w.heap.size + 1, 5, none⟩) hlt).trans l5
  replace hlt := Nat.lt_of_lt_of_le hlt hb.size
  replace hB := below_step hB hb hB.size
  clear hb
  go_wp2
  go_ret
  exact ⟨rfl, hB⟩
end Go.Proofs.Ytdagakjeefhimaa
