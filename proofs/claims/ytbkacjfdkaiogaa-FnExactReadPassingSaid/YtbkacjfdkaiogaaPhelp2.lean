/-
  The laws' own helpers on patterns of two jugglers, second part: toPassing, szPassing, eqPassing, markPassing, heldPassing. No condition beyond each contract's own.
-/
import Derived.Test.YtbkacjfdkaiogaaPhelp
namespace Go.Proofs.Ytbkacjfdkaiogaa
open Go.ChangeShapes Go.WideShapes Go.ChangeAt Go.RowKit


theorem RdP.form' {w : World} {a b : Value} {A B : List Th} (h : RdP w a b A B) : ∃ s1 n1 c1 s2 n2 c2, a = .slice s1 n1 c1 ∧ b = .slice s2 n2 c2 := by
  obtain ⟨⟨s1, c1, e1⟩, s2, c2, e2⟩ := h.form
  exact ⟨s1, _, c1, s2, _, c2, e1, e2⟩
theorem chg_cell {w w' : World} {lo hi b : Nat} (hc : Chg w w' lo hi) (hlt : b < w.heap.size) (hne : b < lo ∨ hi ≤ b) (o : Nat) : w'.cell? ⟨b, o, none⟩ = w.cell? ⟨b, o, none⟩ := by
  have h := hc.block b hlt hne
  unfold World.cell?
  simp only [h]
theorem box_below (w : World) (o : Obj) : Below w.heap.size w (w.alloc o) := (Below.refl _ _).alloc (Nat.le_refl _) _

set_option maxHeartbeats 1000000 in
theorem eqPassing_same (a b a' b' : Value) (A B : List Th) (w : World) (h : RdP w a b A B) (h' : RdP w a' b' A B) :
    Calls Try.prog 6 #[.agg #[a, b], .agg #[a', b']] w fun e w' => e = .returned (.bool true) ∧ Below w.heap.size w w' := by
  obtain ⟨sa, na, ca, sb, nb, cb, rfl, rfl⟩ := h.form'
  obtain ⟨sa', na', ca', sb', nb', cb', rfl, rfl⟩ := h'.form'
  have hb0 : ∀ o1 o2 : Obj, Below w.heap.size w ((w.alloc o1).alloc o2) := fun o1 o2 => ((Below.refl _ _).alloc (Nat.le_refl _) _).alloc (by simp) _
  have HR := Lib.hid (And.intro (And.intro h.1 h.2) (And.intro (And.intro h'.1 h'.2) hb0))
  clear h h' hb0
  go_enter Try.func6, Try.ntmps6
  go_wp2_with fail
  with_reducible refine (eqPassThrowS_same _ _ A _ (HR.out.1.1.below (HR.out.2.2 _ _)) (HR.out.2.1.1.below (HR.out.2.2 _ _))).mono ?_
  rintro e w1 ⟨rfl, hb1⟩
  obtain ⟨hc1, hz1⟩ := bcell hb1
  have HX := Lib.hid ((HR.out.2.2 _ _).trans (hb1.mono (by simp; omega)))
  clear hb1
  go_wp2_with fail
  with_reducible refine (eqPassThrowS_same _ _ B _ (HR.out.1.2.below HX.out) (HR.out.2.1.2.below HX.out)).mono ?_
  rintro e w2 ⟨rfl, hb2⟩
  have HY := Lib.hid (below_step HX.out hb2 HX.out.size)
  clear hb2
  go_wp2
  go_ret
  exact ⟨rfl, HY.out⟩

set_option maxHeartbeats 1000000 in
theorem markPassing_any (a b : Value) (A B : List Th) (q : Int) (lo hi : Nat) (w : World) (h : OwnP w lo hi a b A B) (h0 : 0 ≤ q) (h1 : q ≤ 1000000000000) :
    Calls Try.prog 7 #[.agg #[a, b], .int .i64 q] w fun e w' => e = .returned (.int .i64 (q + (2 * (A.length : Int) + 2 * (B.length : Int)))) ∧ OwnP w' lo hi a b (mkT q A.length) (mkT (q + 2 * A.length) B.length) ∧ Chg w w' lo hi := by
  obtain ⟨sa, na, ca, sb, nb, cb, rfl, rfl⟩ := h.rd.form'
  obtain ⟨hA, hB, hne⟩ := h
  have la := hA.2.1
  have lb := hB.2.1
  have HA := Lib.hid hA.in
  have HBi := Lib.hid hB.in
  obtain ⟨l1, u1, hl1, t1, ta1, tb1⟩ := hA.tight
  obtain ⟨l2, u2, hl2, t2, ta2, tb2⟩ := hB.tight
  have hk1 : ∀ k, Value.ownBlock (.slice sb nb cb) = some k → k < l1 ∨ u1 ≤ k := fun k hk => ta1 k (fun e => hne k e hk)
  have hk2 : ∀ k, Value.ownBlock (.slice sa na ca) = some k → k < l2 ∨ u2 ≤ k := fun k hk => ta2 k (fun e => hne k hk e)
  have TT := Lib.hid (And.intro t1 (And.intro t2 (And.intro tb1 (And.intro tb2 (And.intro hk1 (And.intro hk2 hne))))))
  have hblk : w.heap.size < l1 ∨ u1 ≤ w.heap.size := by
    rcases tb1 with h | h
    · omega
    · exact .inr h.2.2
  clear hA hB hne t1 t2 ta1 ta2 tb1 tb2 hk1 hk2
  go_enter Try.func7, Try.ntmps7
  go_wp2_with fail
  generalize hW : World.alloc w _ = wb
  have hbb : Below w.heap.size w wb := by rw [← hW]; exact box_below _ _
  have cb1 : wb.cell? ⟨w.heap.size, 1, none⟩ = some (.slice sb nb cb) := by rw [← hW]; simp
  have hltb : w.heap.size < wb.heap.size := by rw [← hW]; simp
  clear hW
  have ht1 := TT.out.1.below hbb
  have HBB := Lib.hid hbb
  clear hbb
  with_reducible refine (markPassThrowS_any _ A _ l1 u1 _ ht1 (by omega) (by omega)).mono ?_
  rintro e w1 ⟨rfl, hm1, hc1⟩
  have cb2 := (chg_cell hc1 hltb hblk 1).trans cb1
  have ht2 := ((TT.out.2.1.below HBB.out).keptAt hc1 TT.out.2.2.2.2.1)
  have H1 := Lib.hid (And.intro hm1 hc1)
  clear hm1 hc1 cb1 ht1
  go_wp2_with fail
  with_reducible refine (markPassThrowS_any _ B _ l2 u2 _ ht2 (by omega) (by omega)).mono ?_
  rintro e w2 ⟨rfl, hm2, hc2⟩
  have H2 := Lib.hid (And.intro hm2 hc2)
  clear hm2 hc2 ht2
  go_wp2
  go_ret
  have hsz1 : u1 ≤ wb.heap.size ∨ l1 = u1 := by
    rcases TT.out.2.2.1 with h | h
    · exact .inr h
    · exact .inl (Nat.le_trans h.2.2 (Nat.le_of_lt hltb))
  have o1 : OwnT 42 1 w2 lo hi (.slice sa na ca) A.length (mkT q A.length) := (H1.out.1.keptAt H2.out.2 TT.out.2.2.2.2.2.1).re HA.out
  have o2 : OwnT 42 1 w2 lo hi (.slice sb nb cb) B.length (mkT (q + 2 * A.length) B.length) := H2.out.1.re HBi.out
  have c1 : Chg wb w1 lo hi := by
    rcases TT.out.2.2.1 with h | h
    · exact chg_tight H1.out.2 (.inl h)
    · exact H1.out.2.mono h.1 h.2.1
  have c2 : Chg w1 w2 lo hi := by
    rcases TT.out.2.2.2.1 with h | h
    · exact chg_tight H2.out.2 (.inl h)
    · exact H2.out.2.mono h.1 h.2.1
  refine ⟨ret_int (by omega), ⟨?_, ?_, TT.out.2.2.2.2.2.2⟩, ((below_chg HBB.out lo hi).trans c1).trans c2⟩
  · rw [mkT_length]; exact o1
  · rw [mkT_length]; exact o2

set_option maxHeartbeats 1000000 in
theorem heldPassing_same (a b : Value) (q : Int) (n m : Nat) (lo hi : Nat) (w : World) (h : OwnP w lo hi a b (mkT q n) (mkT (q + 2 * n) m)) (h0 : 0 ≤ q) (h1 : q ≤ 1000000000000) :
    Calls Try.prog 8 #[.agg #[a, b], .int .i64 q] w fun e w' => e = .returned (.int .i64 (q + (2 * (n : Int) + 2 * (m : Int)))) ∧ Below w.heap.size w w' := by
  obtain ⟨sa, na, ca, sb, nb, cb, rfl, rfl⟩ := h.rd.form'
  obtain ⟨hA, hB, _⟩ := h
  rw [mkT_length] at hA hB
  have la := hA.2.1
  have lb := hB.2.1
  go_enter Try.func8, Try.ntmps8
  go_wp2_with fail
  generalize hW : World.alloc w _ = wb
  have hbb : Below w.heap.size w wb := by rw [← hW]; exact box_below _ _
  have cb1 : wb.cell? ⟨w.heap.size, 1, none⟩ = some (.slice sb nb cb) := by rw [← hW]; simp
  have hltb : w.heap.size < wb.heap.size := by rw [← hW]; simp
  clear hW
  replace hA := hA.below hbb
  replace hB := hB.below hbb
  with_reducible refine (heldPassThrowS_same _ _ _ _ _ _ hA (by omega) (by omega)).mono ?_
  rintro e w1 ⟨rfl, hb1⟩
  replace hB := hB.below hb1
  replace cb1 := (hb1.cell (p := ⟨w.heap.size, 1, none⟩) hltb).trans cb1
  have H1 := Lib.hid (below_step hbb hb1 hbb.size)
  clear hA hb1 hbb
  go_wp2_with fail
  with_reducible refine (heldPassThrowS_same _ _ _ _ _ _ hB (by omega) (by omega)).mono ?_
  rintro e w2 ⟨rfl, hb2⟩
  have H2 := Lib.hid (below_step H1.out hb2 H1.out.size)
  clear hb2
  go_wp2
  go_ret
  exact ⟨ret_int (by omega), H2.out⟩
end Go.Proofs.Ytbkacjfdkaiogaa
