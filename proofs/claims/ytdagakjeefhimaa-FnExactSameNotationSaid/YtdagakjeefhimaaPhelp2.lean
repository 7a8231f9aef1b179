/-
  The laws' own helpers on patterns of two jugglers, second part: toPassing, szPassing, eqPassing, markPassing, heldPassing. No condition beyond each contract's own.
-/
import Derived.Test.YtdagakjeefhimaaPhelp
namespace Go.Proofs.Ytdagakjeefhimaa
open Go.ChangeShapes Go.WideShapes Go.ChangeAt Go.RowKit


theorem RdP.form' {w : World} {a b : Value} {A B : List Th} (h : RdP w a b A B) : ∃ s1 n1 c1 s2 n2 c2, a = .slice s1 n1 c1 ∧ b = .slice s2 n2 c2 := by
  obtain ⟨⟨s1, c1, e1⟩, s2, c2, e2⟩ := h.form
  exact ⟨s1, _, c1, s2, _, c2, e1, e2⟩
theorem chg_cell {w w' : World} {lo hi b : Nat} (hc : Chg w w' lo hi) (hlt : b < w.heap.size) (hne : b < lo ∨ hi ≤ b) (o : Nat) : w'.cell? ⟨b, o, none⟩ = w.cell? ⟨b, o, none⟩ := by
  have h := hc.block b hlt hne
  unfold World.cell?
  simp only [h]
theorem box_below (w : World) (o : Obj) : Below w.heap.size w (w.alloc o) := (Below.refl _ _).alloc (Nat.le_refl _) _

set_option maxHeartbeats 2000000 in
theorem toPassing_any (a b : Value) (A B : List Th) (w : World) (h : RdP w a b A B) :
    Calls Try.prog 20 #[.agg #[a, b]] w fun e w' => ∃ a' b', e = .returned (.agg #[a', b']) ∧ OwnP w' w.heap.size w'.heap.size a' b' A B ∧ Below w.heap.size w w' := by
  obtain ⟨sa, na, ca, sb, nb, cb, rfl, rfl⟩ := h.form'
  have hb0 : ∀ o1 o2 o3 : Obj, Below w.heap.size w (((w.alloc o1).alloc o2).alloc o3) := fun o1 o2 o3 => (((Below.refl _ _).alloc (Nat.le_refl _) _).alloc (by simp) _).alloc (by simp; omega) _
  have HR := Lib.hid (And.intro (And.intro h.1 h.2) hb0)
  clear h hb0
  go_enter Try.func20, Try.ntmps20
  go_wp2_with fail
  with_reducible refine (toPassThrowS_any _ A _ (HR.out.1.1.below (HR.out.2 _ _ _))).mono ?_
  rintro e w1 ⟨u1, rfl, h1, hb1⟩
  obtain ⟨s1, c1, rfl⟩ := h1.rd.form
  obtain ⟨hc1, hz1⟩ := bcell hb1
  have hs1 := hb1.size
  simp at hs1
  have H1 := Lib.hid (And.intro h1 hb1)
  clear h1 hb1
  go_wp2_with fail
  have hbx : Below w.heap.size w (w1.setCell ⟨w.heap.size + 1 + 1, 0, none⟩ (.slice s1 A.length c1)) := ((HR.out.2 _ _ _).trans (H1.out.2.mono (by simp; omega))).setCell (p := ⟨w.heap.size + 1 + 1, 0, none⟩) (by show w.heap.size ≤ w.heap.size + 1 + 1; omega) _
  have HX := Lib.hid hbx
  clear hbx
  with_reducible refine (toPassThrowS_any _ B _ (HR.out.1.2.below HX.out)).mono ?_
  rintro e w2 ⟨u2, rfl, h2, hb2⟩
  obtain ⟨s2, c2, rfl⟩ := h2.rd.form
  obtain ⟨hc2, hz2⟩ := bcellAt (w.heap.size + 1 + 1 + 1) hb2 (by simp; omega)
  have hs2 := hb2.size
  simp at hs2
  have H2 := Lib.hid (And.intro h2 hb2)
  clear h2 hb2
  go_wp2
  refine bodyPost_ret (v := .agg #[.slice s1 A.length c1, .slice s2 B.length c2]) (by simp [results, Try.results20, go_sem, hc1, hc2]) rfl ⟨_, _, rfl, ?_, ?_⟩
  · have hF : Chg w2 (((w2.setCell ⟨w.heap.size + 1 + 1, 1, none⟩ (.slice s2 B.length c2)).setCell ⟨w.heap.size + 1, 0, none⟩ (.slice s1 A.length c1)).setCell ⟨w.heap.size + 1, 1, none⟩ (.slice s2 B.length c2)) (w.heap.size + 1) (w.heap.size + 1 + 1 + 1) :=
      (((Chg.refl _ _ _).setCell _ _ (by show w.heap.size + 1 ≤ w.heap.size + 1 + 1; omega) (by show w.heap.size + 1 + 1 < w.heap.size + 1 + 1 + 1; omega)).setCell _ _ (by show w.heap.size + 1 ≤ w.heap.size + 1; omega) (by show w.heap.size + 1 < w.heap.size + 1 + 1 + 1; omega)).setCell _ _ (by show w.heap.size + 1 ≤ w.heap.size + 1; omega) (by show w.heap.size + 1 < w.heap.size + 1 + 1 + 1; omega)
    have o1 := (((H1.out.1.mono (lo' := w.heap.size + 1 + 1 + 1) (by simp) (Nat.le_refl _)).kept ((Chg.refl _ _ _).setCell (lo := w.heap.size + 1 + 1) (hi := w.heap.size + 1 + 1 + 1) ⟨w.heap.size + 1 + 1, 0, none⟩ (.slice s1 A.length c1) (Nat.le_refl _) (Nat.lt_succ_self _)) (.inr (Nat.le_refl _))).below H2.out.2).kept hF (.inr (Nat.le_refl _))
    have o2 := (H2.out.1.mono (lo' := w1.heap.size) (by simp) (Nat.le_refl _)).kept hF (.inr hs1)
    exact (ownP_of o1 o2 hs1 hs2).mono (by omega) (by simp)
  · repeat' first | exact HX.out | refine Below.setCell ?_ ?_ _ | refine Below.trans ?_ (H2.out.2.mono ?_)
    all_goals first | omega | (simp; omega) | simp

set_option maxHeartbeats 1000000 in
theorem eqPassing_same (a b a' b' : Value) (A B : List Th) (w : World) (h : RdP w a b A B) (h' : RdP w a' b' A B) :
    Calls Try.prog 28 #[.agg #[a, b], .agg #[a', b']] w fun e w' => e = .returned (.bool true) ∧ Below w.heap.size w w' := by
  obtain ⟨sa, na, ca, sb, nb, cb, rfl, rfl⟩ := h.form'
  obtain ⟨sa', na', ca', sb', nb', cb', rfl, rfl⟩ := h'.form'
  have hb0 : ∀ o1 o2 : Obj, Below w.heap.size w ((w.alloc o1).alloc o2) := fun o1 o2 => ((Below.refl _ _).alloc (Nat.le_refl _) _).alloc (by simp) _
  have HR := Lib.hid (And.intro (And.intro h.1 h.2) (And.intro (And.intro h'.1 h'.2) hb0))
  clear h h' hb0
  go_enter Try.func28, Try.ntmps28
  go_wp2_with fail
  with_reducible refine (eqPassThrowS_same _ _ A _ (HR.out.1.1.below (HR.out.2.2 _ _)) (HR.out.2.1.1.below (HR.out.2.2 _ _))).mono ?_
  rintro e w1 ⟨rfl, hb1⟩
  obtain ⟨hc1, hz1⟩ := bcell hb1
  have HX := Lib.hid ((HR.out.2.2 _ _).trans (hb1.mono (by simp; omega)))
  clear hb1
  go_wp2_with fail
  with_reducible refine (eqPassThrowS_same _ _ B _ (HR.out.1.2.below HX.out) (HR.out.2.1.2.below HX.out)).mono ?_
  rintro e w2 ⟨rfl, hb2⟩
  have HY := Lib.hid (below_step HX.out hb2 HX.out.size)
  clear hb2
  go_wp2
  go_ret
  exact ⟨rfl, HY.out⟩

set_option maxHeartbeats 1000000 in
theorem szPassing_yes (a b : Value) (A B : List Th) (q : Int) (w : World) (h : RdP w a b A B) (h0 : -1 ≤ q) (h1 : q ≤ 1048576) (hle : (A.length : Int) + (B.length : Int) ≤ q) :
    Calls Try.prog 12 #[.agg #[a, b], .int .i64 q] w fun e w' => e = .returned (.int .i64 (q - ((A.length : Int) + (B.length : Int)))) ∧ Below w.heap.size w w' := by
  obtain ⟨sa, na, ca, sb, nb, cb, rfl, rfl⟩ := h.form'
  have z1 := fun W (hW : Below w.heap.size w W) => szPassThrowS_any _ A q W (h.1.below hW) h0 h1
  have z2 := fun W (hW : Below w.heap.size w W) => szPassThrowS_any _ B (q - A.length) W (h.2.below hW) (by omega) (by omega)
  rw [if_pos (by omega)] at z1 z2
  have Z := Lib.hid (And.intro z1 z2)
  clear z1 z2 h
  go_enter Try.func12, Try.ntmps12
  go_wp2_with fail
  refine (Z.out.1 _ (box_below _ _)).mono ?_
  rintro e w1 ⟨rfl, rfl⟩
  go_wp2_with fail
  refine (Z.out.2 _ (box_below _ _)).mono ?_
  rintro e w1 ⟨rfl, rfl⟩
  go_wp2
  go_ret
  exact ⟨ret_int (by omega), box_below _ _⟩

set_option maxHeartbeats 1000000 in
theorem szPassing_no (a b : Value) (A B : List Th) (q : Int) (w : World) (h : RdP w a b A B) (h0 : -1 ≤ q) (h1 : q ≤ 1048576) (hle : ¬ (A.length : Int) + (B.length : Int) ≤ q) :
    Calls Try.prog 12 #[.agg #[a, b], .int .i64 q] w fun e w' => e = .returned (.int .i64 (-1)) ∧ Below w.heap.size w w' := by
  obtain ⟨sa, na, ca, sb, nb, cb, rfl, rfl⟩ := h.form'
  by_cases hA : (A.length : Int) ≤ q
  · have z1 := fun W (hW : Below w.heap.size w W) => szPassThrowS_any _ A q W (h.1.below hW) h0 h1
    have z2 := fun W (hW : Below w.heap.size w W) => szPassThrowS_any _ B (q - A.length) W (h.2.below hW) (by omega) (by omega)
    rw [if_pos (by omega)] at z1
    rw [if_neg (by omega)] at z2
    have Z := Lib.hid (And.intro z1 z2)
    clear z1 z2 h
    go_enter Try.func12, Try.ntmps12
    go_wp2_with fail
    refine (Z.out.1 _ (box_below _ _)).mono ?_
    rintro e w1 ⟨rfl, rfl⟩
    go_wp2_with fail
    refine (Z.out.2 _ (box_below _ _)).mono ?_
    rintro e w1 ⟨rfl, rfl⟩
    go_wp2
    go_ret
    exact ⟨rfl, box_below _ _⟩
  · have z1 := fun W (hW : Below w.heap.size w W) => szPassThrowS_any _ A q W (h.1.below hW) h0 h1
    rw [if_neg (by omega)] at z1
    have Z := Lib.hid z1
    clear z1 h
    go_enter Try.func12, Try.ntmps12
    go_wp2_with fail
    refine (Z.out _ (box_below _ _)).mono ?_
    rintro e w1 ⟨rfl, rfl⟩
    go_wp2
    go_ret
    exact ⟨rfl, box_below _ _⟩
end Go.Proofs.Ytdagakjeefhimaa
