/-
  Contracts of the functions on patterns of two jugglers (chapter 6), eleventh part: the program's rotation. No condition beyond each contract's own.
-/
import Derived.Test.YtmdenmpnpnmflaaP10
import Derived.Test.YtmdenmpnpnmflaaReg
namespace Go.Proofs.Ytmdenmpnpnmflaa
open Go.ChangeShapes Go.WideShapes Go.ChangeAt Go.RowKit


/-- What stands while the two appends of a round go on, in whatever order. -/
structure QQ (wb wr W : World) (va vb ua ub : Value) (TA TB : List Th) (m : Nat) : Prop where
  p : OwnP W (wb.heap.size + 1) m ua ub TA TB
  le : m ≤ W.heap.size
  lo : wb.heap.size + 1 ≤ m
  c0 : W.cell? ⟨wb.heap.size, 0, none⟩ = some va
  c1 : W.cell? ⟨wb.heap.size, 1, none⟩ = some vb
  f : ∀ j, W.frozen? ⟨wb.heap.size, j, none⟩ = false
  b : Below (wb.heap.size + 1) wr W
theorem qq_start {wb wr : World} {va vb : Value} {TA TB : List Th} (h : OutQ wb wr va vb TA TB) : QQ wb wr wr va vb va vb TA TB wr.heap.size :=
  ⟨h.2.2.2.1, Nat.le_refl _, h.2.2.2.2.2, h.1, h.2.1, h.2.2.1, Below.refl _ _⟩
theorem QQ.below {wb wr W W' : World} {va vb ua ub : Value} {TA TB : List Th} {m : Nat} (h : QQ wb wr W va vb ua ub TA TB m) (hb : Below W.heap.size W W') : QQ wb wr W' va vb ua ub TA TB m := by
  have hl : wb.heap.size < W.heap.size := Nat.lt_of_lt_of_le h.lo h.le
  exact ⟨h.p.below hb, Nat.le_trans h.le hb.size, h.lo, (hb.cell (p := ⟨wb.heap.size, 0, none⟩) hl).trans h.c0, (hb.cell (p := ⟨wb.heap.size, 1, none⟩) hl).trans h.c1, fun j => (hb.frozen (p := ⟨wb.heap.size, j, none⟩) hl).trans (h.f j), below_step h.b hb hl⟩
theorem QQ.alloc {wb wr W : World} {va vb ua ub : Value} {TA TB : List Th} {m : Nat} (h : QQ wb wr W va vb ua ub TA TB m) (o : Obj) : QQ wb wr (W.alloc o) va vb ua ub TA TB m := h.below ((Below.refl _ _).alloc (Nat.le_refl _) _)
theorem QQ.drew {wb wr W : World} {va vb ua ub : Value} {TA TB : List Th} {m : Nat} (h : QQ wb wr W va vb ua ub TA TB m) : QQ wb wr W.drew va vb ua ub TA TB m := h.below (Below.refl _ _).drew
theorem QQ.pushA {wb wr W W' : World} {va vb ua ub ua' : Value} {TA TB TA' : List Th} {m : Nat} (h : QQ wb wr W va vb ua ub TA TB m) (hp : OwnP W' (wb.heap.size + 1) W'.heap.size ua' ub TA' TB) (hb : Below (wb.heap.size + 1) W W') : QQ wb wr W' va vb ua' ub TA' TB W'.heap.size :=
  ⟨hp, Nat.le_refl _, Nat.le_trans (Nat.le_trans h.lo h.le) hb.size, (hb.cell (p := ⟨wb.heap.size, 0, none⟩) (Nat.lt_succ_self _)).trans h.c0, (hb.cell (p := ⟨wb.heap.size, 1, none⟩) (Nat.lt_succ_self _)).trans h.c1, fun j => (hb.frozen (p := ⟨wb.heap.size, j, none⟩) (Nat.lt_succ_self _)).trans (h.f j), h.b.trans hb⟩
theorem QQ.pushB {wb wr W W' : World} {va vb ua ub ub' : Value} {TA TB TB' : List Th} {m : Nat} (h : QQ wb wr W va vb ua ub TA TB m) (hp : OwnP W' (wb.heap.size + 1) W'.heap.size ub' ua TB' TA) (hb : Below (wb.heap.size + 1) W W') : QQ wb wr W' va vb ua ub' TA TB' W'.heap.size :=
  ⟨hp.swap, Nat.le_refl _, Nat.le_trans (Nat.le_trans h.lo h.le) hb.size, (hb.cell (p := ⟨wb.heap.size, 0, none⟩) (Nat.lt_succ_self _)).trans h.c0, (hb.cell (p := ⟨wb.heap.size, 1, none⟩) (Nat.lt_succ_self _)).trans h.c1, fun j => (hb.frozen (p := ⟨wb.heap.size, j, none⟩) (Nat.lt_succ_self _)).trans (h.f j), h.b.trans hb⟩
theorem hn_one (w : World) (o : Obj) (B : Nat) (h : B = w.heap.size) : (w.alloc o).heap[B]? = some o := by subst h; exact heap_alloc_new _ _
theorem hn_two (w : World) (o o' : Obj) (B : Nat) (h : B = w.heap.size) : ((w.alloc o).alloc o').heap[B]? = some o := by
  subst h
  rw [((Below.refl _ _).alloc (Nat.le_refl _) _ : Below (w.alloc o).heap.size (w.alloc o) ((w.alloc o).alloc o')).block _ (by simp)]
  exact heap_alloc_new _ _

set_option linter.unusedSimpArgs false in
set_option maxRecDepth 20000 in
set_option maxHeartbeats 8000000 in
theorem implRotateP_any (a b' : Value) (A B : List Th) (b : Int) (w : World) (h : RdP w a b' A B) :
    Calls Try.prog 8 #[.agg #[a, b'], .int .i64 b] w fun e w' => ∃ u1 u2, e = .returned (.tuple #[.agg #[u1, u2], .int .i64 (rpC A B b)]) ∧ OwnP w' w.heap.size w'.heap.size u1 u2 (rpA A B b) (rpB A B b) ∧ Below w.heap.size w w' := by
  obtain ⟨⟨s1, c1, rfl⟩, s2, c2, rfl⟩ := h.form
  have hv0 : Hid (∀ W, Below w.heap.size w W → W.cell? ⟨w.heap.size, 0, none⟩ = some (.slice s1 A.length c1) → W.cell? ⟨w.heap.size, 1, none⟩ = some (.slice s2 B.length c2) → w.heap.size < W.heap.size → Calls Try.prog 19 #[.agg #[.slice s1 A.length c1, .slice s2 B.length c2]] W fun e w' => e = .returned (.bool (vpB A B)) ∧ Below W.heap.size W w') := fun W hW _ _ _ => implValidP_any _ _ A B W (h.below hW)
  have hin := fun W => isBeat_any b W
  cases hval : vpB A B
  · have HC := Lib.hid (show rpC A B b = 1 by rw [rpC, hval]; rfl)
    have HA := Lib.hid (show rpA A B b = [] by rw [rpA, rpOk, hval]; rfl)
    have HB2 := Lib.hid (show rpB A B b = [] by rw [rpB, rpOk, hval]; rfl)
    rw [hval] at hv0
    clear hval h hin
    go_enter Try.func8, Try.ntmps8
    go_wp2_with fail
    generalize hW : (World.alloc (World.alloc w _) _) = wb0
    have k0 : wb0.cell? ⟨w.heap.size, 0, none⟩ = some (.slice s1 A.length c1) := by rw [← hW]; simp
    have k1 : wb0.cell? ⟨w.heap.size, 1, none⟩ = some (.slice s2 B.length c2) := by rw [← hW]; simp
    have r0 : wb0.cell? ⟨w.heap.size + 1, 0, none⟩ = some (.slice none 0 0) := by rw [← hW]; simp
    have r1 : wb0.cell? ⟨w.heap.size + 1, 1, none⟩ = some (.slice none 0 0) := by rw [← hW]; simp
    have z0 : wb0.frozen? ⟨w.heap.size + 1, 0, none⟩ = false := by rw [← hW]; simp
    have z1 : wb0.frozen? ⟨w.heap.size + 1, 1, none⟩ = false := by rw [← hW]; simp
    have hlt : w.heap.size + 1 < wb0.heap.size := by rw [← hW]; simp
    have hB : Below w.heap.size w wb0 := by rw [← hW]; exact (box_below _ _).alloc (by simp) _
    clear hW
    refine (hv0.out _ hB k0 k1 (by omega)).mono ?_
    rintro e wb ⟨rfl, hb⟩
    replace k0 := (hb.cell (p := ⟨w.heap.size, 0, none⟩) (by show w.heap.size < _; omega)).trans k0
    replace k1 := (hb.cell (p := ⟨w.heap.size, 1, none⟩) (by show w.heap.size < _; omega)).trans k1
    replace r0 := (hb.cell (p := ⟨w.heap.size + 1, 0, none⟩) hlt).trans r0
    replace r1 := (hb.cell (p := ⟨w.heap.size + 1, 1, none⟩) hlt).trans r1
    replace z0 := (hb.frozen (p := ⟨w.heap.size + 1, 0, none⟩) hlt).trans z0
    replace z1 := (hb.frozen (p := ⟨w.heap.size + 1, 1, none⟩) hlt).trans z1
    replace hlt := Nat.lt_of_lt_of_le hlt hb.size
    replace hB := below_step hB hb hB.size
    clear hb
    go_wp2
    refine bodyPost_ret (v := .tuple #[.agg #[.slice none 0 0, .slice none 0 0], .int .i64 (rpC A B b)]) (by simp [results, Try.results8, go_sem, r0, r1]; exact HC.out.symm) rfl ⟨_, _, rfl, by rw [HA.out, HB2.out]; exact ownP_nil _ _ _, (hB.setCell (p := ⟨w.heap.size + 1, 0, none⟩) (Nat.le_succ _) _).setCell (p := ⟨w.heap.size + 1, 1, none⟩) (Nat.le_succ _) _⟩
  · cases hrg : btw b (-1000000) 1000000
    · have HC := Lib.hid (show rpC A B b = 2 by rw [rpC, hval, hrg]; rfl)
      have HA := Lib.hid (show rpA A B b = [] by rw [rpA, rpOk, hval, hrg]; rfl)
      have HB2 := Lib.hid (show rpB A B b = [] by rw [rpB, rpOk, hval, hrg]; rfl)
      rw [hval] at hv0
      rw [hrg] at hin
      have HIN := Lib.hid hin
      clear hval hrg h hin
      go_enter Try.func8, Try.ntmps8
      go_wp2_with fail
      generalize hW : (World.alloc (World.alloc w _) _) = wb0
      have k0 : wb0.cell? ⟨w.heap.size, 0, none⟩ = some (.slice s1 A.length c1) := by rw [← hW]; simp
      have k1 : wb0.cell? ⟨w.heap.size, 1, none⟩ = some (.slice s2 B.length c2) := by rw [← hW]; simp
      have r0 : wb0.cell? ⟨w.heap.size + 1, 0, none⟩ = some (.slice none 0 0) := by rw [← hW]; simp
      have r1 : wb0.cell? ⟨w.heap.size + 1, 1, none⟩ = some (.slice none 0 0) := by rw [← hW]; simp
      have z0 : wb0.frozen? ⟨w.heap.size + 1, 0, none⟩ = false := by rw [← hW]; simp
      have z1 : wb0.frozen? ⟨w.heap.size + 1, 1, none⟩ = false := by rw [← hW]; simp
      have hlt : w.heap.size + 1 < wb0.heap.size := by rw [← hW]; simp
      have hB : Below w.heap.size w wb0 := by rw [← hW]; exact (box_below _ _).alloc (by simp) _
      clear hW
      refine (hv0.out _ hB k0 k1 (by omega)).mono ?_
      rintro e wb ⟨rfl, hb⟩
      replace k0 := (hb.cell (p := ⟨w.heap.size, 0, none⟩) (by show w.heap.size < _; omega)).trans k0
      replace k1 := (hb.cell (p := ⟨w.heap.size, 1, none⟩) (by show w.heap.size < _; omega)).trans k1
      replace r0 := (hb.cell (p := ⟨w.heap.size + 1, 0, none⟩) hlt).trans r0
      replace r1 := (hb.cell (p := ⟨w.heap.size + 1, 1, none⟩) hlt).trans r1
      replace z0 := (hb.frozen (p := ⟨w.heap.size + 1, 0, none⟩) hlt).trans z0
      replace z1 := (hb.frozen (p := ⟨w.heap.size + 1, 1, none⟩) hlt).trans z1
      replace hlt := Nat.lt_of_lt_of_le hlt hb.size
      replace hB := below_step hB hb hB.size
      clear hb
      go_wp2_with (go_at_call 20; refine (HIN.out _).mono ?_; rintro e w' ⟨rfl, rfl⟩)
      refine bodyPost_ret (v := .tuple #[.agg #[.slice none 0 0, .slice none 0 0], .int .i64 (rpC A B b)]) (by simp [results, Try.results8, go_sem, r0, r1]; exact HC.out.symm) rfl ⟨_, _, rfl, by rw [HA.out, HB2.out]; exact ownP_nil _ _ _, (hB.setCell (p := ⟨w.heap.size + 1, 0, none⟩) (Nat.le_succ _) _).setCell (p := ⟨w.heap.size + 1, 1, none⟩) (Nat.le_succ _) _⟩
    · have HC := Lib.hid (show rpC A B b = 0 by rw [rpC, hval, hrg]; rfl)
      have HA := Lib.hid (show rpA A B b = rpT A A.length b A.length by rw [rpA, rpOk, hval, hrg]; rfl)
      have HB2 := Lib.hid (show rpB A B b = rpT B A.length b A.length by rw [rpB, rpOk, hval, hrg]; rfl)
      obtain ⟨h1, h8, hAB, _, _⟩ := shB_true (vpB_ok hval)
      have hbb := btw_iff.1 hrg
      rw [hval] at hv0
      rw [hrg] at hin
      have HIN := Lib.hid hin
      clear hval hrg hin
      obtain ⟨hA, hBr⟩ := h
      obtain ⟨hz1, _, x1, x2, hv', ha⟩ := hA
      cases hv'
      clear hz1
      obtain ⟨ba, oa, rfl, hba, hca⟩ := ha (by omega)
      obtain ⟨hz1, _, x1, x2, hv', hb'⟩ := hBr
      cases hv'
      clear hz1
      obtain ⟨bb, ob, rfl, hbb2, hcb⟩ := hb' (by omega)
      have HCA := Lib.hid hca
      have HCB := Lib.hid hcb
      have HAB := Lib.hid hAB
      clear ha hb' hca hcb hAB
      go_enter Try.func8, Try.ntmps8
      go_wp2_with fail
      generalize hW : (World.alloc (World.alloc w _) _) = wb0
      have k0 : wb0.cell? ⟨w.heap.size, 0, none⟩ = some (.slice (some ⟨ba, oa, none⟩) A.length c1) := by rw [← hW]; simp
      have k1 : wb0.cell? ⟨w.heap.size, 1, none⟩ = some (.slice (some ⟨bb, ob, none⟩) B.length c2) := by rw [← hW]; simp
      have r0 : wb0.cell? ⟨w.heap.size + 1, 0, none⟩ = some (.slice none 0 0) := by rw [← hW]; simp
      have r1 : wb0.cell? ⟨w.heap.size + 1, 1, none⟩ = some (.slice none 0 0) := by rw [← hW]; simp
      have z0 : wb0.frozen? ⟨w.heap.size + 1, 0, none⟩ = false := by rw [← hW]; simp
      have z1 : wb0.frozen? ⟨w.heap.size + 1, 1, none⟩ = false := by rw [← hW]; simp
      have hlt : w.heap.size + 1 < wb0.heap.size := by rw [← hW]; simp
      have hB : Below w.heap.size w wb0 := by rw [← hW]; exact (box_below _ _).alloc (by simp) _
      clear hW
      refine (hv0.out _ hB k0 k1 (by omega)).mono ?_
      rintro e wb ⟨rfl, hb⟩
      replace k0 := (hb.cell (p := ⟨w.heap.size, 0, none⟩) (by show w.heap.size < _; omega)).trans k0
      replace k1 := (hb.cell (p := ⟨w.heap.size, 1, none⟩) (by show w.heap.size < _; omega)).trans k1
      replace r0 := (hb.cell (p := ⟨w.heap.size + 1, 0, none⟩) hlt).trans r0
      replace r1 := (hb.cell (p := ⟨w.heap.size + 1, 1, none⟩) hlt).trans r1
      replace z0 := (hb.frozen (p := ⟨w.heap.size + 1, 0, none⟩) hlt).trans z0
      replace z1 := (hb.frozen (p := ⟨w.heap.size + 1, 1, none⟩) hlt).trans z1
      replace hlt := Nat.lt_of_lt_of_le hlt hb.size
      replace hB := below_step hB hb hB.size
      clear hb
      have HB := Lib.hid hB
      have HK := Lib.hid (And.intro (And.intro r0 r1) (And.intro z0 z1))
      have HK2 := Lib.hid (And.intro k0 k1)
      clear hB r0 r1 z0 z1
      go_wp2_with (go_at_call 20; refine (HIN.out _).mono ?_; rintro e w' ⟨rfl, rfl⟩)
      go_loopw [23] (fun i wr => ∃ (k : Nat) (va vb : Value), k ≤ A.length ∧ i = .int .i64 k ∧ OutQ wb wr va vb (rpT A A.length b k) (rpT B A.length b k)) (fun i _ => A.length - (intOf i).toNat)
      case atStart => exact ⟨0, _, _, Nat.zero_le _, rfl, outQ_start wb _⟩
      case round =>
        obtain ⟨k, va, vb, hk, rfl, hout⟩ := hrel
        obtain ⟨⟨g1, cc1, rfl⟩, g2, cc2, rfl⟩ := hout.2.2.2.1.rd.form
        rw [rpT_length, rpT_length] at hout
        have hB2 := below_step HB.out hout.2.2.2.2.1 HB.out.size
        have k2 : wr.cell? ⟨w.heap.size, 0, none⟩ = some (.slice (some ⟨ba, oa, none⟩) A.length c1) := (hout.2.2.2.2.1.cell (p := ⟨w.heap.size, 0, none⟩) (by show w.heap.size < _; omega)).trans HK2.out.1
        have k3 : wr.cell? ⟨w.heap.size, 1, none⟩ = some (.slice (some ⟨bb, ob, none⟩) B.length c2) := (hout.2.2.2.2.1.cell (p := ⟨w.heap.size, 1, none⟩) (by show w.heap.size < _; omega)).trans HK2.out.2
        by_cases hlt2 : k < A.length
        · have hI := rpI_lt h1 b k
          have hE := rpI_int h1 b k
          have hAB := HAB.out
          have hq1 := HCA.out (rpI A.length b k) (by omega)
          have hq2 := HCB.out (rpI A.length b k) (by omega)
          have HS1 := Lib.hid (rpT_succ A A.length b k)
          have HS2 := Lib.hid (rpT_succ B A.length b k)
          have HL1 := Lib.hid (rpT_length A A.length b k)
          have HL2 := Lib.hid (rpT_length B A.length b k)
          obtain ⟨x, hx⟩ : ∃ x, x = gt A (rpI A.length b k) := ⟨_, rfl⟩
          obtain ⟨y, hy⟩ : ∃ y, y = gt B (rpI A.length b k) := ⟨_, rfl⟩
          obtain ⟨I, hII⟩ : ∃ I, I = rpI A.length b k := ⟨_, rfl⟩
          rw [← hx] at HS1 hq1
          rw [← hy] at HS2 hq2
          rw [← hII] at hE hI hq1 hq2
          have hmod : Hid (∀ W, Calls Try.prog 21 #[.int .i64 ((k : Int) + b), .int .i64 (A.length : Int)] W fun e w' => e = .returned (.int .i64 (I : Int)) ∧ W = w') := fun W => by
            have := modulo_any ((k : Int) + b) (A.length : Int) W (by omega) (by omega)
            rwa [hE] at this
          have e1 := fun o => hB2.cell (p := ⟨ba, o, none⟩) hba
          have e2 := fun o => hB2.cell (p := ⟨bb, o, none⟩) hbb2
          have p1 := (e1 _).trans hq1.1
          have p2 := (e1 _).trans hq1.2
          have q1 := (e2 _).trans hq2.1
          have q2 := (e2 _).trans hq2.2
          rw [show 2 * I = I * 2 by omega] at p1 q1
          rw [show oa + (2 * I + 1) = oa + I * 2 + 1 by omega] at p2
          rw [show ob + (2 * I + 1) = ob + I * 2 + 1 by omega] at q2
          have z1 := hout.1
          have z2 := hout.2.1
          have HO := Lib.hid hout
          have hi0' : (0 : Int) ≤ (I : Int) := Int.natCast_nonneg _
          have hi1 : (I : Int) < (A.length : Int) := by omega
          have hi2 : (I : Int) < (B.length : Int) := by omega
          have hIB : I < B.length := by omega
          have hB8 : B.length ≤ 8 := by omega
          clear hAB
          have HQ2 : Hid (∀ W, Below wb.heap.size wb W → W.cell? ⟨bb, ob + I * 2, none⟩ = some (.int .i64 y.1) ∧ W.cell? ⟨bb, ob + I * 2 + 1, none⟩ = some (.bool y.2) ∧ W.cell? ⟨w.heap.size, 1, none⟩ = some (.slice (some ⟨bb, ob, none⟩) B.length c2)) := fun W hW => by
            have hBW := below_step HB.out hW HB.out.size
            have f := HCB.out (rpI A.length b k) (by omega)
            rw [← hy, ← hII] at f
            refine ⟨?_, ?_, ?_⟩
            · rw [hBW.cell (p := ⟨bb, _, none⟩) hbb2, show I * 2 = 2 * I by omega]; exact f.1
            · rw [hBW.cell (p := ⟨bb, _, none⟩) hbb2, show ob + I * 2 + 1 = ob + (2 * I + 1) by omega]; exact f.2
            · exact (hW.cell (p := ⟨w.heap.size, 1, none⟩) (by show w.heap.size < _; omega)).trans HK2.out.2
          clear hx hy hII hout hE e1 e2 hq1 hq2
          have HQ := Lib.hid (qq_start HO.out)
          have z3 := fun o => (HQ.out.alloc o).c0
          have z4 := fun o => (HQ.out.alloc o).c1
          have z5 := fun o o' => ((HQ.out.alloc o).alloc o').c0
          have z6 := fun o o' => ((HQ.out.alloc o).alloc o').c1
          have hxa := Nat.lt_of_lt_of_le hba HB.out.size
          have hxb := Nat.lt_of_lt_of_le hbb2 HB.out.size
          have hws : w.heap.size < wb.heap.size := by omega
          have hxr := Nat.lt_of_lt_of_le hxa HO.out.2.2.2.2.1.size
          have hyr := Nat.lt_of_lt_of_le hxb HO.out.2.2.2.2.1.size
          have hk2 := fun W (h : Below (wb.heap.size + 1) wr W) => (h.cell (p := ⟨w.heap.size, 0, none⟩) (by show w.heap.size < _; omega)).trans k2
          have hk3 := fun W (h : Below (wb.heap.size + 1) wr W) => (h.cell (p := ⟨w.heap.size, 1, none⟩) (by show w.heap.size < _; omega)).trans k3
          have hp1 := fun W (h : Below (wb.heap.size + 1) wr W) => (h.cell (p := ⟨ba, oa + I * 2, none⟩) (by show ba < _; omega)).trans p1
          have hp2 := fun W (h : Below (wb.heap.size + 1) wr W) => (h.cell (p := ⟨ba, oa + I * 2 + 1, none⟩) (by show ba < _; omega)).trans p2
          have hq1 := fun W (h : Below (wb.heap.size + 1) wr W) => (h.cell (p := ⟨bb, ob + I * 2, none⟩) (by show bb < _; omega)).trans q1
          have hq2 := fun W (h : Below (wb.heap.size + 1) wr W) => (h.cell (p := ⟨bb, ob + I * 2 + 1, none⟩) (by show bb < _; omega)).trans q2
          clear hxr hyr
          clear hB2
          go_wp2_with (go_at_call 21; refine (hmod.out _).mono ?_; rintro e w' ⟨rfl, rfl⟩)
          refine wp_region_late (S := fun w' => w'.cell? ⟨wb.heap.size, 0, none⟩ = some (.slice g1 k cc1) ∧ w'.cell? ⟨wb.heap.size, 1, none⟩ = some (.slice g2 k cc2) ∧ w'.cell? ⟨w.heap.size, 0, none⟩ = some (.slice (some ⟨ba, oa, none⟩) A.length c1) ∧ w'.cell? ⟨w.heap.size, 1, none⟩ = some (.slice (some ⟨bb, ob, none⟩) B.length c2) ∧ w'.cell? ⟨ba, oa + I * 2, none⟩ = some (.int .i64 x.1) ∧ w'.cell? ⟨ba, oa + I * 2 + 1, none⟩ = some (.bool x.2) ∧ w'.cell? ⟨bb, ob + I * 2, none⟩ = some (.int .i64 y.1) ∧ w'.cell? ⟨bb, ob + I * 2 + 1, none⟩ = some (.bool y.2)) (fun i => decide (19 ≤ i)) 19 3 #[true, true, true, true, true, true, true, true, true, true, true, true, true, true, true, true, true, true, true, false, false, false] #[false, false, false, false, false, false, false, false, false, false, false, false, false, false, false, false, false, false, false, true, true, true] (by kernel_rfl) (by kernel_rfl) (by kernel_rfl) rfl (by kernel_rfl) ⟨z1, z2, k2, k3, p1, p2, q1, q2⟩ (fun hHeld => ?_)
          refine wpAnyH_take (i := 0) (v := ?v0) rfl (by kernel_rfl) (by kernel_rfl) (by kernel_rfl) (fun _ _ _ h => h) (Or.inl ⟨by rfl, ?y0⟩) (by assumption) ?r0
          case y0 => (intro w' hSw; (try dsimp only at hSw); (go_simp) <;> (with_reducible rfl))
          (try simp only [Act.put, List.setIfInBounds_toArray, List.set_cons_zero, List.set_cons_succ])
          refine wpAnyH_take (i := 1) (v := ?v1) rfl (by kernel_rfl) (by kernel_rfl) (by kernel_rfl) (fun _ _ _ h => h) (Or.inl ⟨by rfl, ?y1⟩) (by assumption) ?r1
          case y1 => (intro w' hSw; (try dsimp only at hSw); (go_simp) <;> (with_reducible rfl))
          (try simp only [Act.put, List.setIfInBounds_toArray, List.set_cons_zero, List.set_cons_succ])
          refine wpAnyH_take (i := 2) (v := ?v2) rfl (by kernel_rfl) (by kernel_rfl) (by kernel_rfl) (fun _ _ _ h => h) (Or.inl ⟨by rfl, ?y2⟩) (by assumption) ?r2
          case y2 => (intro w' hSw; (try dsimp only at hSw); (go_simp) <;> (with_reducible rfl))
          (try simp only [Act.put, List.setIfInBounds_toArray, List.set_cons_zero, List.set_cons_succ])
          refine wpAnyH_take (i := 3) (v := ?v3) rfl (by kernel_rfl) (by kernel_rfl) (by kernel_rfl) (fun _ _ _ h => h) (Or.inl ⟨by rfl, ?y3⟩) (by assumption) ?r3
          case y3 => (intro w' hSw; (try dsimp only at hSw); (go_simp) <;> (with_reducible rfl))
          (try simp only [Act.put, List.setIfInBounds_toArray, List.set_cons_zero, List.set_cons_succ])
          refine wpAnyH_take (i := 4) (v := ?v4) rfl (by kernel_rfl) (by kernel_rfl) (by kernel_rfl) (fun _ _ _ h => h) (Or.inl ⟨by rfl, ?y4⟩) (by assumption) ?r4
          case y4 => (intro w' hSw; (try dsimp only at hSw); (go_simp) <;> (with_reducible rfl))
          (try simp only [Act.put, List.setIfInBounds_toArray, List.set_cons_zero, List.set_cons_succ])
          refine wpAnyH_take (i := 5) (v := ?v5) rfl (by kernel_rfl) (by kernel_rfl) (by kernel_rfl) (fun _ _ _ h => h) (Or.inl ⟨by rfl, ?y5⟩) (by assumption) ?r5
          case y5 => (intro w' hSw; (try dsimp only at hSw); (go_simp) <;> (with_reducible rfl))
          (try simp only [Act.put, List.setIfInBounds_toArray, List.set_cons_zero, List.set_cons_succ])
          refine wpAnyH_take (i := 6) (v := ?v6) rfl (by kernel_rfl) (by kernel_rfl) (by kernel_rfl) (fun _ _ _ h => h) (Or.inl ⟨by rfl, ?y6⟩) (by assumption) ?r6
          case y6 => (intro w' hSw; (try dsimp only at hSw); (go_simp) <;> (with_reducible rfl))
          (try simp only [Act.put, List.setIfInBounds_toArray, List.set_cons_zero, List.set_cons_succ])
          refine wpAnyH_take (i := 9) (v := ?v9) rfl (by kernel_rfl) (by kernel_rfl) (by kernel_rfl) (fun _ _ _ h => h) (Or.inl ⟨by rfl, ?y9⟩) (by assumption) ?r9
          case y9 => (intro w' hSw; (try dsimp only at hSw); (go_simp) <;> (with_reducible rfl))
          (try simp only [Act.put, List.setIfInBounds_toArray, List.set_cons_zero, List.set_cons_succ])
          refine wpAnyH_take (i := 10) (v := ?v10) rfl (by kernel_rfl) (by kernel_rfl) (by kernel_rfl) (fun _ _ _ h => h) (Or.inl ⟨by rfl, ?y10⟩) (by assumption) ?r10
          case y10 => (intro w' hSw; (try dsimp only at hSw); (go_simp) <;> (with_reducible rfl))
          (try simp only [Act.put, List.setIfInBounds_toArray, List.set_cons_zero, List.set_cons_succ])
          refine wpAnyH_take (i := 11) (v := ?v11) rfl (by kernel_rfl) (by kernel_rfl) (by kernel_rfl) (fun _ _ _ h => h) (Or.inl ⟨by rfl, ?y11⟩) (by assumption) ?r11
          case y11 => (intro w' hSw; (try dsimp only at hSw); (go_simp) <;> (with_reducible rfl))
          (try simp only [Act.put, List.setIfInBounds_toArray, List.set_cons_zero, List.set_cons_succ])
          refine wpAnyH_take (i := 12) (v := ?v12) rfl (by kernel_rfl) (by kernel_rfl) (by kernel_rfl) (fun _ _ _ h => h) (Or.inl ⟨by rfl, ?y12⟩) (by assumption) ?r12
          case y12 => (intro w' hSw; (try dsimp only at hSw); (go_simp) <;> (with_reducible rfl))
          (try simp only [Act.put, List.setIfInBounds_toArray, List.set_cons_zero, List.set_cons_succ])
          refine wpAnyH_take (i := 13) (v := ?v13) rfl (by kernel_rfl) (by kernel_rfl) (by kernel_rfl) (fun _ _ _ h => h) (Or.inl ⟨by rfl, ?y13⟩) (by assumption) ?r13
          case y13 => (intro w' hSw; (try dsimp only at hSw); (go_simp) <;> (with_reducible rfl))
          (try simp only [Act.put, List.setIfInBounds_toArray, List.set_cons_zero, List.set_cons_succ])
          refine wpAnyH_take (i := 14) (v := ?v14) rfl (by kernel_rfl) (by kernel_rfl) (by kernel_rfl) (fun _ _ _ h => h) (Or.inl ⟨by rfl, ?y14⟩) (by assumption) ?r14
          case y14 => (intro w' hSw; (try dsimp only at hSw); (go_simp) <;> (with_reducible rfl))
          (try simp only [Act.put, List.setIfInBounds_toArray, List.set_cons_zero, List.set_cons_succ])
          refine wpAnyH_take (i := 15) (v := ?v15) rfl (by kernel_rfl) (by kernel_rfl) (by kernel_rfl) (fun _ _ _ h => h) (Or.inl ⟨by rfl, ?y15⟩) (by assumption) ?r15
          case y15 => (intro w' hSw; (try dsimp only at hSw); (go_simp) <;> (with_reducible rfl))
          (try simp only [Act.put, List.setIfInBounds_toArray, List.set_cons_zero, List.set_cons_succ])
          refine wpAnyH_ready (rs := [7, 16]) (by kernel_rfl) (by simp) ?_
          refine AllReadyH.cons (o := _) rfl (fun K hK => ?_) (AllReadyH.cons (o := _) rfl (fun K hK => ?_) AllReadyH.nil)
          · go_simp
            refine hK.out _ _ ?_ (fun hHeld => ?_)
            · (first | (go_keep; done) | (go_split_ands; exact ⟨HQ.out.c0, HQ.out.c1, hk2 _ HQ.out.b, hk3 _ HQ.out.b, hp1 _ HQ.out.b, hp2 _ HQ.out.b, hq1 _ HQ.out.b, hq2 _ HQ.out.b⟩))
            clear hK K
            refine wpAnyH_ready (rs := [8, 16]) (by kernel_rfl) (by simp) ?_
            refine AllReadyH.cons (o := _) rfl (fun K hK => ?_) (AllReadyH.cons (o := _) rfl (fun K hK => ?_) AllReadyH.nil)
            · (refine step_push_p (x := x) (by rfl) _ _ (by rfl) (by rfl) k HL1.out _ (by rfl) (by first | exact hn_one _ _ _ (by simp) | exact hn_two _ _ _ _ (by simp) | exact (HK.out _ (by simp; try omega) (by simp; try omega)).trans (by first | exact hn_one _ _ _ (by simp) | exact hn_two _ _ _ _ (by simp))) (QQ.p (by first | exact HQ.out | exact HQ.out.drew | exact (HQ.out.alloc _) | exact (HQ.out.alloc _).drew | exact ((HQ.out.alloc _).alloc _) | exact ((HQ.out.alloc _).alloc _).drew)) (by omega) (QQ.lo (by first | exact HQ.out | exact HQ.out.drew | exact (HQ.out.alloc _) | exact (HQ.out.alloc _).drew | exact ((HQ.out.alloc _).alloc _) | exact ((HQ.out.alloc _).alloc _).drew)) (QQ.le (by first | exact HQ.out | exact HQ.out.drew | exact (HQ.out.alloc _) | exact (HQ.out.alloc _).drew | exact ((HQ.out.alloc _).alloc _) | exact ((HQ.out.alloc _).alloc _).drew)) ?_; intro g c w' hown' hb' hkk; have HQ := Lib.hid (QQ.pushA (by first | exact HQ.out | exact HQ.out.drew | exact (HQ.out.alloc _) | exact (HQ.out.alloc _).drew | exact ((HQ.out.alloc _).alloc _) | exact ((HQ.out.alloc _).alloc _).drew) hown' hb'); have HK := Lib.hid hkk; have z1 := HQ.out.c0; have z2 := HQ.out.c1; have z3 := fun o => (HQ.out.alloc o).c0; have z4 := fun o => (HQ.out.alloc o).c1; have z5 := HQ.out.f 0; have z6 := HQ.out.f 1; clear hown' hkk)
              refine hK.out _ _ ?_ (fun hHeld => ?_)
              · (first | (go_keep; done) | (go_split_ands; exact ⟨HQ.out.c0, HQ.out.c1, hk2 _ HQ.out.b, hk3 _ HQ.out.b, hp1 _ HQ.out.b, hp2 _ HQ.out.b, hq1 _ HQ.out.b, hq2 _ HQ.out.b⟩))
              clear hK K
              refine wpAnyH_take (i := 18) (v := ?v101) rfl (by kernel_rfl) (by kernel_rfl) (by kernel_rfl) (fun _ _ _ h => h) (Or.inl ⟨by rfl, ?y101⟩) (by assumption) ?r101
              case y101 => (intro w' hSw; (try dsimp only at hSw); (go_simp) <;> (with_reducible rfl))
              (try simp only [Act.put, List.setIfInBounds_toArray, List.set_cons_zero, List.set_cons_succ])
              refine wpAnyH_ready (rs := [16]) (by kernel_rfl) (by simp) ?_
              refine AllReadyH.cons (o := _) rfl (fun K hK => ?_) AllReadyH.nil
              go_simp
              refine hK.out _ _ ?_ (fun hHeld => ?_)
              · (first | (go_keep; done) | (go_split_ands; exact ⟨HQ.out.c0, HQ.out.c1, hk2 _ HQ.out.b, hk3 _ HQ.out.b, hp1 _ HQ.out.b, hp2 _ HQ.out.b, hq1 _ HQ.out.b, hq2 _ HQ.out.b⟩))
              clear hK K
              refine wpAnyH_ready (rs := [17]) (by kernel_rfl) (by simp) ?_
              refine AllReadyH.cons (o := _) rfl (fun K hK => ?_) AllReadyH.nil
              (refine step_push_p (x := y) (by rfl) _ _ (by rfl) (by rfl) k HL2.out _ (by rfl) (by first | exact hn_one _ _ _ (by simp) | exact hn_two _ _ _ _ (by simp) | exact (HK.out _ (by simp; try omega) (by simp; try omega)).trans (by first | exact hn_one _ _ _ (by simp) | exact hn_two _ _ _ _ (by simp))) (QQ.p (by first | exact HQ.out | exact HQ.out.drew | exact (HQ.out.alloc _) | exact (HQ.out.alloc _).drew | exact ((HQ.out.alloc _).alloc _) | exact ((HQ.out.alloc _).alloc _).drew)).swap (by omega) (QQ.lo (by first | exact HQ.out | exact HQ.out.drew | exact (HQ.out.alloc _) | exact (HQ.out.alloc _).drew | exact ((HQ.out.alloc _).alloc _) | exact ((HQ.out.alloc _).alloc _).drew)) (QQ.le (by first | exact HQ.out | exact HQ.out.drew | exact (HQ.out.alloc _) | exact (HQ.out.alloc _).drew | exact ((HQ.out.alloc _).alloc _) | exact ((HQ.out.alloc _).alloc _).drew)) ?_; intro g c w' hown' hb' hkk; have HQ := Lib.hid (QQ.pushB (by first | exact HQ.out | exact HQ.out.drew | exact (HQ.out.alloc _) | exact (HQ.out.alloc _).drew | exact ((HQ.out.alloc _).alloc _) | exact ((HQ.out.alloc _).alloc _).drew) hown' hb'); have HK := Lib.hid hkk; have z1 := HQ.out.c0; have z2 := HQ.out.c1; have z3 := fun o => (HQ.out.alloc o).c0; have z4 := fun o => (HQ.out.alloc o).c1; have z5 := HQ.out.f 0; have z6 := HQ.out.f 1; clear hown' hkk)
              refine hK.out _ _ ?_ (fun hHeld => ?_)
              · (first | (go_keep; done) | (go_split_ands; exact ⟨HQ.out.c0, HQ.out.c1, hk2 _ HQ.out.b, hk3 _ HQ.out.b, hp1 _ HQ.out.b, hp2 _ HQ.out.b, hq1 _ HQ.out.b, hq2 _ HQ.out.b⟩))
              clear hK K
              refine wpAnyH_done (by kernel_rfl) ?_ _
              show ∀ d, _
              intro d
              clear hHeld
              refine wpAny_ready (rs := [19]) (by kernel_rfl) (by simp) ?_
              refine AllReady.cons (o := _) rfl (fun K hK => ?_) AllReady.nil
              go_simp
              refine hK _ _ ?_
              clear hK K
              refine wpAny_take (i := 20) (v := ?vx102) rfl (by kernel_rfl) (by kernel_rfl) (by kernel_rfl) (fun _ _ _ h => h) (Or.inl ⟨by rfl, ?yx102⟩) ?rx102
              case yx102 => (intro w'; (go_simp) <;> (with_reducible rfl))
              (try simp only [Act.put, List.setIfInBounds_toArray, List.set_cons_zero, List.set_cons_succ])
              refine wpAny_ready (rs := [21]) (by kernel_rfl) (by simp) ?_
              refine AllReady.cons (o := _) rfl (fun K hK => ?_) AllReady.nil
              go_simp
              refine hK _ _ ?_
              clear hK K
              refine wpAny_done (by kernel_rfl) ?_ _
              have HX := Lib.hid (outQ_AB HO.out HQ.out.b HQ.out.p)
              clear HQ
              go_wp2
              go_roundw
              case rel => exact ⟨k + 1, _, _, by omega, by go_num, by rw [HS1.out, HS2.out]; exact HX.out⟩
              case measure => simp [intOf]; omega
            · go_simp
              refine hK.out _ _ ?_ (fun hHeld => ?_)
              · (first | (go_keep; done) | (go_split_ands; exact ⟨HQ.out.c0, HQ.out.c1, hk2 _ HQ.out.b, hk3 _ HQ.out.b, hp1 _ HQ.out.b, hp2 _ HQ.out.b, hq1 _ HQ.out.b, hq2 _ HQ.out.b⟩))
              clear hK K
              refine wpAnyH_ready (rs := [8]) (by kernel_rfl) (by simp) ?_
              refine AllReadyH.cons (o := _) rfl (fun K hK => ?_) AllReadyH.nil
              (refine step_push_p (x := x) (by rfl) _ _ (by rfl) (by rfl) k HL1.out _ (by rfl) (by first | exact hn_one _ _ _ (by simp) | exact hn_two _ _ _ _ (by simp) | exact (HK.out _ (by simp; try omega) (by simp; try omega)).trans (by first | exact hn_one _ _ _ (by simp) | exact hn_two _ _ _ _ (by simp))) (QQ.p (by first | exact HQ.out | exact HQ.out.drew | exact (HQ.out.alloc _) | exact (HQ.out.alloc _).drew | exact ((HQ.out.alloc _).alloc _) | exact ((HQ.out.alloc _).alloc _).drew)) (by omega) (QQ.lo (by first | exact HQ.out | exact HQ.out.drew | exact (HQ.out.alloc _) | exact (HQ.out.alloc _).drew | exact ((HQ.out.alloc _).alloc _) | exact ((HQ.out.alloc _).alloc _).drew)) (QQ.le (by first | exact HQ.out | exact HQ.out.drew | exact (HQ.out.alloc _) | exact (HQ.out.alloc _).drew | exact ((HQ.out.alloc _).alloc _) | exact ((HQ.out.alloc _).alloc _).drew)) ?_; intro g c w' hown' hb' hkk; have HQ := Lib.hid (QQ.pushA (by first | exact HQ.out | exact HQ.out.drew | exact (HQ.out.alloc _) | exact (HQ.out.alloc _).drew | exact ((HQ.out.alloc _).alloc _) | exact ((HQ.out.alloc _).alloc _).drew) hown' hb'); have HK := Lib.hid hkk; have z1 := HQ.out.c0; have z2 := HQ.out.c1; have z3 := fun o => (HQ.out.alloc o).c0; have z4 := fun o => (HQ.out.alloc o).c1; have z5 := HQ.out.f 0; have z6 := HQ.out.f 1; clear hown' hkk)
              refine hK.out _ _ ?_ (fun hHeld => ?_)
              · (first | (go_keep; done) | (go_split_ands; exact ⟨HQ.out.c0, HQ.out.c1, hk2 _ HQ.out.b, hk3 _ HQ.out.b, hp1 _ HQ.out.b, hp2 _ HQ.out.b, hq1 _ HQ.out.b, hq2 _ HQ.out.b⟩))
              clear hK K
              refine wpAnyH_take (i := 18) (v := ?v103) rfl (by kernel_rfl) (by kernel_rfl) (by kernel_rfl) (fun _ _ _ h => h) (Or.inl ⟨by rfl, ?y103⟩) (by assumption) ?r103
              case y103 => (intro w' hSw; (try dsimp only at hSw); (go_simp) <;> (with_reducible rfl))
              (try simp only [Act.put, List.setIfInBounds_toArray, List.set_cons_zero, List.set_cons_succ])
              refine wpAnyH_ready (rs := [17]) (by kernel_rfl) (by simp) ?_
              refine AllReadyH.cons (o := _) rfl (fun K hK => ?_) AllReadyH.nil
              (refine step_push_p (x := y) (by rfl) _ _ (by rfl) (by rfl) k HL2.out _ (by rfl) (by first | exact hn_one _ _ _ (by simp) | exact hn_two _ _ _ _ (by simp) | exact (HK.out _ (by simp; try omega) (by simp; try omega)).trans (by first | exact hn_one _ _ _ (by simp) | exact hn_two _ _ _ _ (by simp))) (QQ.p (by first | exact HQ.out | exact HQ.out.drew | exact (HQ.out.alloc _) | exact (HQ.out.alloc _).drew | exact ((HQ.out.alloc _).alloc _) | exact ((HQ.out.alloc _).alloc _).drew)).swap (by omega) (QQ.lo (by first | exact HQ.out | exact HQ.out.drew | exact (HQ.out.alloc _) | exact (HQ.out.alloc _).drew | exact ((HQ.out.alloc _).alloc _) | exact ((HQ.out.alloc _).alloc _).drew)) (QQ.le (by first | exact HQ.out | exact HQ.out.drew | exact (HQ.out.alloc _) | exact (HQ.out.alloc _).drew | exact ((HQ.out.alloc _).alloc _) | exact ((HQ.out.alloc _).alloc _).drew)) ?_; intro g c w' hown' hb' hkk; have HQ := Lib.hid (QQ.pushB (by first | exact HQ.out | exact HQ.out.drew | exact (HQ.out.alloc _) | exact (HQ.out.alloc _).drew | exact ((HQ.out.alloc _).alloc _) | exact ((HQ.out.alloc _).alloc _).drew) hown' hb'); have HK := Lib.hid hkk; have z1 := HQ.out.c0; have z2 := HQ.out.c1; have z3 := fun o => (HQ.out.alloc o).c0; have z4 := fun o => (HQ.out.alloc o).c1; have z5 := HQ.out.f 0; have z6 := HQ.out.f 1; clear hown' hkk)
              refine hK.out _ _ ?_ (fun hHeld => ?_)
              · (first | (go_keep; done) | (go_split_ands; exact ⟨HQ.out.c0, HQ.out.c1, hk2 _ HQ.out.b, hk3 _ HQ.out.b, hp1 _ HQ.out.b, hp2 _ HQ.out.b, hq1 _ HQ.out.b, hq2 _ HQ.out.b⟩))
              clear hK K
              refine wpAnyH_done (by kernel_rfl) ?_ _
              show ∀ d, _
              intro d
              clear hHeld
              refine wpAny_ready (rs := [19]) (by kernel_rfl) (by simp) ?_
              refine AllReady.cons (o := _) rfl (fun K hK => ?_) AllReady.nil
              go_simp
              refine hK _ _ ?_
              clear hK K
              refine wpAny_take (i := 20) (v := ?vx104) rfl (by kernel_rfl) (by kernel_rfl) (by kernel_rfl) (fun _ _ _ h => h) (Or.inl ⟨by rfl, ?yx104⟩) ?rx104
              case yx104 => (intro w'; (go_simp) <;> (with_reducible rfl))
              (try simp only [Act.put, List.setIfInBounds_toArray, List.set_cons_zero, List.set_cons_succ])
              refine wpAny_ready (rs := [21]) (by kernel_rfl) (by simp) ?_
              refine AllReady.cons (o := _) rfl (fun K hK => ?_) AllReady.nil
              go_simp
              refine hK _ _ ?_
              clear hK K
              refine wpAny_done (by kernel_rfl) ?_ _
              have HX := Lib.hid (outQ_AB HO.out HQ.out.b HQ.out.p)
              clear HQ
              go_wp2
              go_roundw
              case rel => exact ⟨k + 1, _, _, by omega, by go_num, by rw [HS1.out, HS2.out]; exact HX.out⟩
              case measure => simp [intOf]; omega
          · go_simp
            refine hK.out _ _ ?_ (fun hHeld => ?_)
            · (first | (go_keep; done) | (go_split_ands; exact ⟨HQ.out.c0, HQ.out.c1, hk2 _ HQ.out.b, hk3 _ HQ.out.b, hp1 _ HQ.out.b, hp2 _ HQ.out.b, hq1 _ HQ.out.b, hq2 _ HQ.out.b⟩))
            clear hK K
            refine wpAnyH_ready (rs := [7]) (by kernel_rfl) (by simp) ?_
            refine AllReadyH.cons (o := _) rfl (fun K hK => ?_) AllReadyH.nil
            go_simp
            refine hK.out _ _ ?_ (fun hHeld => ?_)
            · (first | (go_keep; done) | (go_split_ands; exact ⟨HQ.out.c0, HQ.out.c1, hk2 _ HQ.out.b, hk3 _ HQ.out.b, hp1 _ HQ.out.b, hp2 _ HQ.out.b, hq1 _ HQ.out.b, hq2 _ HQ.out.b⟩))
            clear hK K
            refine wpAnyH_ready (rs := [8]) (by kernel_rfl) (by simp) ?_
            refine AllReadyH.cons (o := _) rfl (fun K hK => ?_) AllReadyH.nil
            (refine step_push_p (x := x) (by rfl) _ _ (by rfl) (by rfl) k HL1.out _ (by rfl) (by first | exact hn_one _ _ _ (by simp) | exact hn_two _ _ _ _ (by simp) | exact (HK.out _ (by simp; try omega) (by simp; try omega)).trans (by first | exact hn_one _ _ _ (by simp) | exact hn_two _ _ _ _ (by simp))) (QQ.p (by first | exact HQ.out | exact HQ.out.drew | exact (HQ.out.alloc _) | exact (HQ.out.alloc _).drew | exact ((HQ.out.alloc _).alloc _) | exact ((HQ.out.alloc _).alloc _).drew)) (by omega) (QQ.lo (by first | exact HQ.out | exact HQ.out.drew | exact (HQ.out.alloc _) | exact (HQ.out.alloc _).drew | exact ((HQ.out.alloc _).alloc _) | exact ((HQ.out.alloc _).alloc _).drew)) (QQ.le (by first | exact HQ.out | exact HQ.out.drew | exact (HQ.out.alloc _) | exact (HQ.out.alloc _).drew | exact ((HQ.out.alloc _).alloc _) | exact ((HQ.out.alloc _).alloc _).drew)) ?_; intro g c w' hown' hb' hkk; have HQ := Lib.hid (QQ.pushA (by first | exact HQ.out | exact HQ.out.drew | exact (HQ.out.alloc _) | exact (HQ.out.alloc _).drew | exact ((HQ.out.alloc _).alloc _) | exact ((HQ.out.alloc _).alloc _).drew) hown' hb'); have HK := Lib.hid hkk; have z1 := HQ.out.c0; have z2 := HQ.out.c1; have z3 := fun o => (HQ.out.alloc o).c0; have z4 := fun o => (HQ.out.alloc o).c1; have z5 := HQ.out.f 0; have z6 := HQ.out.f 1; clear hown' hkk)
            refine hK.out _ _ ?_ (fun hHeld => ?_)
            · (first | (go_keep; done) | (go_split_ands; exact ⟨HQ.out.c0, HQ.out.c1, hk2 _ HQ.out.b, hk3 _ HQ.out.b, hp1 _ HQ.out.b, hp2 _ HQ.out.b, hq1 _ HQ.out.b, hq2 _ HQ.out.b⟩))
            clear hK K
            refine wpAnyH_take (i := 18) (v := ?v105) rfl (by kernel_rfl) (by kernel_rfl) (by kernel_rfl) (fun _ _ _ h => h) (Or.inl ⟨by rfl, ?y105⟩) (by assumption) ?r105
            case y105 => (intro w' hSw; (try dsimp only at hSw); (go_simp) <;> (with_reducible rfl))
            (try simp only [Act.put, List.setIfInBounds_toArray, List.set_cons_zero, List.set_cons_succ])
            refine wpAnyH_ready (rs := [17]) (by kernel_rfl) (by simp) ?_
            refine AllReadyH.cons (o := _) rfl (fun K hK => ?_) AllReadyH.nil
            (refine step_push_p (x := y) (by rfl) _ _ (by rfl) (by rfl) k HL2.out _ (by rfl) (by first | exact hn_one _ _ _ (by simp) | exact hn_two _ _ _ _ (by simp) | exact (HK.out _ (by simp; try omega) (by simp; try omega)).trans (by first | exact hn_one _ _ _ (by simp) | exact hn_two _ _ _ _ (by simp))) (QQ.p (by first | exact HQ.out | exact HQ.out.drew | exact (HQ.out.alloc _) | exact (HQ.out.alloc _).drew | exact ((HQ.out.alloc _).alloc _) | exact ((HQ.out.alloc _).alloc _).drew)).swap (by omega) (QQ.lo (by first | exact HQ.out | exact HQ.out.drew | exact (HQ.out.alloc _) | exact (HQ.out.alloc _).drew | exact ((HQ.out.alloc _).alloc _) | exact ((HQ.out.alloc _).alloc _).drew)) (QQ.le (by first | exact HQ.out | exact HQ.out.drew | exact (HQ.out.alloc _) | exact (HQ.out.alloc _).drew | exact ((HQ.out.alloc _).alloc _) | exact ((HQ.out.alloc _).alloc _).drew)) ?_; intro g c w' hown' hb' hkk; have HQ := Lib.hid (QQ.pushB (by first | exact HQ.out | exact HQ.out.drew | exact (HQ.out.alloc _) | exact (HQ.out.alloc _).drew | exact ((HQ.out.alloc _).alloc _) | exact ((HQ.out.alloc _).alloc _).drew) hown' hb'); have HK := Lib.hid hkk; have z1 := HQ.out.c0; have z2 := HQ.out.c1; have z3 := fun o => (HQ.out.alloc o).c0; have z4 := fun o => (HQ.out.alloc o).c1; have z5 := HQ.out.f 0; have z6 := HQ.out.f 1; clear hown' hkk)
            refine hK.out _ _ ?_ (fun hHeld => ?_)
            · (first | (go_keep; done) | (go_split_ands; exact ⟨HQ.out.c0, HQ.out.c1, hk2 _ HQ.out.b, hk3 _ HQ.out.b, hp1 _ HQ.out.b, hp2 _ HQ.out.b, hq1 _ HQ.out.b, hq2 _ HQ.out.b⟩))
            clear hK K
            refine wpAnyH_done (by kernel_rfl) ?_ _
            show ∀ d, _
            intro d
            clear hHeld
            refine wpAny_ready (rs := [19]) (by kernel_rfl) (by simp) ?_
            refine AllReady.cons (o := _) rfl (fun K hK => ?_) AllReady.nil
            go_simp
            refine hK _ _ ?_
            clear hK K
            refine wpAny_take (i := 20) (v := ?vx106) rfl (by kernel_rfl) (by kernel_rfl) (by kernel_rfl) (fun _ _ _ h => h) (Or.inl ⟨by rfl, ?yx106⟩) ?rx106
            case yx106 => (intro w'; (go_simp) <;> (with_reducible rfl))
            (try simp only [Act.put, List.setIfInBounds_toArray, List.set_cons_zero, List.set_cons_succ])
            refine wpAny_ready (rs := [21]) (by kernel_rfl) (by simp) ?_
            refine AllReady.cons (o := _) rfl (fun K hK => ?_) AllReady.nil
            go_simp
            refine hK _ _ ?_
            clear hK K
            refine wpAny_done (by kernel_rfl) ?_ _
            have HX := Lib.hid (outQ_AB HO.out HQ.out.b HQ.out.p)
            clear HQ
            go_wp2
            go_roundw
            case rel => exact ⟨k + 1, _, _, by omega, by go_num, by rw [HS1.out, HS2.out]; exact HX.out⟩
            case measure => simp [intOf]; omega
        · obtain rfl : k = A.length := by omega
          have r1 := (hout.2.2.2.2.1.cell (p := ⟨w.heap.size + 1, 0, none⟩) hlt).trans HK.out.1.1
          have r2 := (hout.2.2.2.2.1.cell (p := ⟨w.heap.size + 1, 1, none⟩) hlt).trans HK.out.1.2
          have q1 := (hout.2.2.2.2.1.frozen (p := ⟨w.heap.size + 1, 0, none⟩) hlt).trans HK.out.2.1
          have q2 := (hout.2.2.2.2.1.frozen (p := ⟨w.heap.size + 1, 1, none⟩) hlt).trans HK.out.2.2
          have z1 := hout.1
          have z2 := hout.2.1
          have HO := Lib.hid hout
          have HB3 := Lib.hid hB2
          clear hout hB2
          go_wp2
          refine bodyPost_ret (v := .tuple #[.agg #[.slice g1 A.length cc1, .slice g2 A.length cc2], .int .i64 (rpC A B b)]) (by simp [results, Try.results8, go_sem, r1, r2]; exact HC.out.symm) rfl ⟨_, _, rfl, ?_, (HB3.out.setCell (p := ⟨w.heap.size + 1, 0, none⟩) (Nat.le_succ _) _).setCell (p := ⟨w.heap.size + 1, 1, none⟩) (Nat.le_succ _) _⟩
          rw [HA.out, HB2.out]
          exact (((HO.out.2.2.2.1.mono (lo' := w.heap.size + 1 + 1) (Nat.le_trans hlt (Nat.le_succ _)) (Nat.le_refl _)).kept (((Chg.refl _ _ _).setCell (p := ⟨w.heap.size + 1, 0, none⟩) _ (Nat.le_refl _) (Nat.lt_succ_self _)).setCell (p := ⟨w.heap.size + 1, 1, none⟩) _ (Nat.le_refl _) (Nat.lt_succ_self _)) (.inr (Nat.le_refl _))).mono (by omega) (by simp))
end Go.Proofs.Ytmdenmpnpnmflaa
