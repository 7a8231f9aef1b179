/-
  Contracts of the functions on patterns of two jugglers (chapter 6), tenth part: rotations. No condition beyond each contract's own.
-/
import Derived.Test.YtmdenmpnpnmflaaP4
import Derived.Test.YtmdenmpnpnmflaaP8
import Derived.Test.YtmdenmpnpnmflaaL02d
import Derived.Deep.RegionLaw
import Derived.Deep.RegionHeld3
import Derived.Deep.AppendLies
namespace Go.Proofs.Ytmdenmpnpnmflaa
open Go.ChangeShapes Go.WideShapes Go.ChangeAt Go.RowKit


/-- The beat that comes k beats behind the beginning of the turned pattern. -/
def rpI (n : Nat) (b : Int) (k : Nat) : Nat := (((k : Int) + b) % (n : Int)).toNat
def rpT (T : List Th) (n : Nat) (b : Int) (k : Nat) : List Th := (List.range k).map fun j => gt T (rpI n b j)
theorem rpT_length (T : List Th) (n : Nat) (b : Int) (k : Nat) : (rpT T n b k).length = k := by simp [rpT]
theorem rpT_succ (T : List Th) (n : Nat) (b : Int) (k : Nat) : rpT T n b (k + 1) = rpT T n b k ++ [gt T (rpI n b k)] := by simp [rpT, List.range_succ]
theorem rpI_lt {n : Nat} (h : 1 ≤ n) (b : Int) (k : Nat) : rpI n b k < n := by
  have := emod_bd (a := (k : Int) + b) (n := (n : Int)) (by omega)
  unfold rpI
  omega
theorem rpI_int {n : Nat} (h : 1 ≤ n) (b : Int) (k : Nat) : ((k : Int) + b) % (n : Int) = (rpI n b k : Int) := by
  have := emod_bd (a := (k : Int) + b) (n := (n : Int)) (by omega)
  unfold rpI
  omega
noncomputable def rpOk (A B : List Th) (b : Int) : Bool := vpB A B && btw b (-1000000) 1000000
noncomputable def rpC (A B : List Th) (b : Int) : Int := if vpB A B then (if btw b (-1000000) 1000000 then 0 else 2) else 1
noncomputable def rpA (A B : List Th) (b : Int) : List Th := if rpOk A B b then rpT A A.length b A.length else []
noncomputable def rpB (A B : List Th) (b : Int) : List Th := if rpOk A B b then rpT B A.length b A.length else []

theorem OwnP.swap {w : World} {lo hi : Nat} {a b : Value} {A B : List Th} (h : OwnP w lo hi a b A B) : OwnP w lo hi b a B A := ⟨h.2.1, h.1, fun k hk hk' => h.2.2 k hk' hk⟩

theorem ownP_pushed {w w' : World} {lo m g c : Nat} {va vb : Value} {TA TB : List Th} {x : Th} (hP : OwnP w lo m va vb TA TB) (hmw : m ≤ w.heap.size) (hl : TA.length ≤ 1000)
    (hown : w'.ownsRow lo 44 2 (.slice (some ⟨g, 0, none⟩) (TA.length + 1) c) (TA.length + 1) (cT (TA ++ [x]))) (hg : w.grownBy w' va.ownBlock) (hat : va.ownBlock = some g ∨ g = w.heap.size) :
    OwnP w' lo w'.heap.size (.slice (some ⟨g, 0, none⟩) (TA.length + 1) c) vb (TA ++ [x]) TB := by
  obtain ⟨hA, hB, hs⟩ := hP
  have h1 : OwnT 44 1 w' lo w'.heap.size (.slice (some ⟨g, 0, none⟩) (TA.length + 1) c) (TA ++ [x]).length (TA ++ [x]) := by
    rw [List.length_append, List.length_singleton]
    exact ownT_of (by simp) (by omega) hown
  have h2 : OwnT 44 1 w' lo w'.heap.size vb TB.length TB := by
    have hin := hB.in
    obtain ⟨hT, hl2, ⟨e1, e2⟩, e3⟩ := hB
    refine ⟨hT, hl2, ⟨e1, ?_⟩, fun k hk => Nat.lt_of_lt_of_le (e3 k hk) (Nat.le_trans hmw hg.size)⟩
    rcases e2 with e2 | ⟨g', cap, cur, rfl, hb', hgg, r⟩
    · exact .inl e2
    · refine .inr ⟨g', cap, cur, rfl, hb', ?_, r⟩
      rw [hg.block g' (Array.getElem?_eq_some_iff.1 hgg).1 (fun h => hs g' h.symm rfl)]; exact hgg
  refine ⟨h1, h2, fun k hk hk' => ?_⟩
  simp [Value.ownBlock] at hk
  subst hk
  rcases hat with hat | hat
  · exact hs _ hat hk'
  · have := hB.2.2.2 _ hk'
    omega
theorem step_push_p {ops : Array Oper} {o : Oper} {a : Act} {K : Act → World → Prop} {Q : Exit → Act → World → Prop} {E : Prop} {w : World} {lo m : Nat} {va vb : Value} {TA TB : List Th} {x : Th}
    (hgd : o.guard = none) (s xo : Operand) (ho : o.op = .call { callee := .builtin .append, args := #[s, xo], argTypes := #[26, 26] })
    (hs : a.eval s = va) (n : Nat) (hn : TA.length = n) (B : Nat) (hx : a.eval xo = .slice (some ⟨B, 0, none⟩) 1 1) (hB : w.heap[B]? = some (.cells #[.int .i64 x.1, .bool x.2] 44 (0, 0)))
    (hP : OwnP w lo m va vb TA TB) (hl : n ≤ 1000) (hlo : lo ≤ m) (hmw : m ≤ w.heap.size)
    (h : ∀ g c w', OwnP w' lo w'.heap.size (.slice (some ⟨g, 0, none⟩) (n + 1) c) vb (TA ++ [x]) TB → Below lo w w' → (∀ k, m ≤ k → k < w.heap.size → w'.heap[k]? = w.heap[k]?) → K (a.put o.dst (.slice (some ⟨g, 0, none⟩) (n + 1) c)) w') :
    if Region.wanted o (yielded ops a.tmps) = true then Oper.wp Try.prog o a w K Q else E := by
  subst hn
  obtain ⟨i0, hi, hz0, hz1, hz2⟩ := info_parts Try.infoPass
  have hw : Region.wanted o (yielded ops a.tmps) = true := by simp [Region.wanted, hgd]
  rw [if_pos hw]
  refine wp_append_lies w s xo 26 ho lo 44 i0 _ 2 16 Try.underlying26 hi hz0 hz1 hz2 rfl (by decide) va TA.length (cT TA) hs hP.1.2.2.1 ⟨B, 0, none⟩ 1 1 (cT [x]) hx rfl (World.news_of_block hB) (cT_one _) (by omega) (by unfold maxLen; omega) (by omega) (by omega) _ rfl ?_
  intro g c w' hown hg hat _
  rw [← cT_append] at hown
  refine h g c w' (ownP_pushed hP hmw hl hown hg hat) ((Below.refl _ _).grown hg (by omega) (fun k hk => (hP.1.in k hk).1)) (fun k hk hkw => hg.block k hkw (fun e => ?_))
  have := (hP.1.in k e.symm).2
  omega

/-- The variable 'out' of a pattern that is being made: its cells are in the first block above wb. -/
def OutQ (wb wr : World) (va vb : Value) (TA TB : List Th) : Prop :=
  wr.cell? ⟨wb.heap.size, 0, none⟩ = some va ∧ wr.cell? ⟨wb.heap.size, 1, none⟩ = some vb ∧ (∀ j, wr.frozen? ⟨wb.heap.size, j, none⟩ = false) ∧ OwnP wr (wb.heap.size + 1) wr.heap.size va vb TA TB ∧ Below wb.heap.size wb wr ∧ wb.heap.size + 1 ≤ wr.heap.size
theorem outQ_start (wb : World) (t : TypeId) : OutQ wb (wb.alloc (.cells #[.slice none 0 0, .slice none 0 0] t)) (.slice none 0 0) (.slice none 0 0) [] [] :=
  ⟨by simp, by simp, fun j => by simp, ownP_nil _ _ _, box_below _ _, by simp⟩
/-- What stands when new blocks have been made. -/
theorem outQ_at {wb wr w2 : World} {va vb : Value} {TA TB : List Th} (h : OutQ wb wr va vb TA TB) (hb : Below wr.heap.size wr w2) :
    OwnP w2 (wb.heap.size + 1) wr.heap.size va vb TA TB ∧ w2.cell? ⟨wb.heap.size, 0, none⟩ = some va ∧ w2.cell? ⟨wb.heap.size, 1, none⟩ = some vb ∧ (∀ j, w2.frozen? ⟨wb.heap.size, j, none⟩ = false) ∧ Below (wb.heap.size + 1) wr w2 ∧ wr.heap.size ≤ w2.heap.size ∧ wb.heap.size + 1 ≤ wr.heap.size := by
  obtain ⟨a1, a2, a3, a4, a5, a6⟩ := h
  exact ⟨a4.below hb, (hb.cell (p := ⟨wb.heap.size, 0, none⟩) (by show wb.heap.size < _; omega)).trans a1, (hb.cell (p := ⟨wb.heap.size, 1, none⟩) (by show wb.heap.size < _; omega)).trans a2, fun j => (hb.frozen (p := ⟨wb.heap.size, j, none⟩) (by show wb.heap.size < _; omega)).trans (a3 j), hb.mono a6, hb.size, a6⟩
theorem outQ_A {wb wr w3 : World} {va vb va' : Value} {TA TB TA' : List Th} (h : OutQ wb wr va vb TA TB) (hb : Below (wb.heap.size + 1) wr w3) (hP : OwnP w3 (wb.heap.size + 1) w3.heap.size va' vb TA' TB) :
    OutQ wb (w3.setCell ⟨wb.heap.size, 0, none⟩ va') va' vb TA' TB := by
  obtain ⟨a1, a2, a3, a4, a5, a6⟩ := h
  have f1 := (hb.cell (p := ⟨wb.heap.size, 0, none⟩) (Nat.lt_succ_self _)).trans a1
  have f2 := (hb.cell (p := ⟨wb.heap.size, 1, none⟩) (Nat.lt_succ_self _)).trans a2
  have f3 := fun j => (hb.frozen (p := ⟨wb.heap.size, j, none⟩) (Nat.lt_succ_self _)).trans (a3 j)
  have hch : Chg w3 (w3.setCell ⟨wb.heap.size, 0, none⟩ va') wb.heap.size (wb.heap.size + 1) := (Chg.refl _ _ _).setCell _ _ (Nat.le_refl _) (Nat.lt_succ_self _)
  refine ⟨World.cell?_setCell_same _ _ _ f1, (World.cell?_setCell_other _ _ _ _ (by simp)).trans f2, fun j => by simpa using f3 j, (hP.kept hch (.inr (Nat.le_refl _))).mono (Nat.le_refl _) (by simp), (a5.trans (hb.mono (Nat.le_succ _))).setCell (p := ⟨wb.heap.size, 0, none⟩) (Nat.le_refl _) _, by simp; have := hb.size; omega⟩
theorem outQ_B {wb wr w3 : World} {va vb vb' : Value} {TA TB TB' : List Th} (h : OutQ wb wr va vb TA TB) (hb : Below (wb.heap.size + 1) wr w3) (hP : OwnP w3 (wb.heap.size + 1) w3.heap.size va vb' TA TB') :
    OutQ wb (w3.setCell ⟨wb.heap.size, 1, none⟩ vb') va vb' TA TB' := by
  obtain ⟨a1, a2, a3, a4, a5, a6⟩ := h
  have f1 := (hb.cell (p := ⟨wb.heap.size, 0, none⟩) (Nat.lt_succ_self _)).trans a1
  have f2 := (hb.cell (p := ⟨wb.heap.size, 1, none⟩) (Nat.lt_succ_self _)).trans a2
  have f3 := fun j => (hb.frozen (p := ⟨wb.heap.size, j, none⟩) (Nat.lt_succ_self _)).trans (a3 j)
  have hch : Chg w3 (w3.setCell ⟨wb.heap.size, 1, none⟩ vb') wb.heap.size (wb.heap.size + 1) := (Chg.refl _ _ _).setCell _ _ (Nat.le_refl _) (Nat.lt_succ_self _)
  refine ⟨(World.cell?_setCell_other _ _ _ _ (by simp)).trans f1, World.cell?_setCell_same _ _ _ f2, fun j => by simpa using f3 j, (hP.kept hch (.inr (Nat.le_refl _))).mono (Nat.le_refl _) (by simp), (a5.trans (hb.mono (Nat.le_succ _))).setCell (p := ⟨wb.heap.size, 1, none⟩) (Nat.le_refl _) _, by simp; have := hb.size; omega⟩
/-- Both stored at the end, whichever order. -/
theorem outQ_AB {wb wr w3 : World} {va vb va' vb' : Value} {TA TB TA' TB' : List Th} (h : OutQ wb wr va vb TA TB) (hb : Below (wb.heap.size + 1) wr w3) (hP : OwnP w3 (wb.heap.size + 1) w3.heap.size va' vb' TA' TB') :
    OutQ wb ((w3.setCell ⟨wb.heap.size, 0, none⟩ va').setCell ⟨wb.heap.size, 1, none⟩ vb') va' vb' TA' TB' := by
  obtain ⟨a1, a2, a3, a4, a5, a6⟩ := h
  have f1 := (hb.cell (p := ⟨wb.heap.size, 0, none⟩) (Nat.lt_succ_self _)).trans a1
  have f2 := (hb.cell (p := ⟨wb.heap.size, 1, none⟩) (Nat.lt_succ_self _)).trans a2
  have f3 := fun j => (hb.frozen (p := ⟨wb.heap.size, j, none⟩) (Nat.lt_succ_self _)).trans (a3 j)
  have hch : Chg w3 ((w3.setCell ⟨wb.heap.size, 0, none⟩ va').setCell ⟨wb.heap.size, 1, none⟩ vb') wb.heap.size (wb.heap.size + 1) := ((Chg.refl _ _ _).setCell _ _ (Nat.le_refl _) (Nat.lt_succ_self _)).setCell _ _ (Nat.le_refl _) (Nat.lt_succ_self _)
  have g2 := (World.cell?_setCell_other w3 ⟨wb.heap.size, 0, none⟩ ⟨wb.heap.size, 1, none⟩ va' (by simp)).trans f2
  refine ⟨(World.cell?_setCell_other _ _ _ _ (by simp)).trans (World.cell?_setCell_same _ _ _ f1), World.cell?_setCell_same _ _ _ g2, fun j => by simpa using f3 j, (hP.kept hch (.inr (Nat.le_refl _))).mono (Nat.le_refl _) (by simp), ((a5.trans (hb.mono (Nat.le_succ _))).setCell (p := ⟨wb.heap.size, 0, none⟩) (Nat.le_refl _) _).setCell (p := ⟨wb.heap.size, 1, none⟩) (Nat.le_refl _) _, by simp; have := hb.size; omega⟩

set_option maxRecDepth 20000 in
set_option maxHeartbeats 8000000 in
theorem specRotateP_any (a b' : Value) (A B : List Th) (b : Int) (w : World) (h : RdP w a b' A B) :
    Calls Try.prog 6 #[.agg #[a, b'], .int .i64 b] w fun e w' => ∃ u1 u2, e = .returned (.tuple #[.agg #[u1, u2], .int .i64 (rpC A B b)]) ∧ OwnP w' w.heap.size w'.heap.size u1 u2 (rpA A B b) (rpB A B b) ∧ Below w.heap.size w w' := by
  obtain ⟨⟨s1, c1, rfl⟩, s2, c2, rfl⟩ := h.form
  have hv0 : Hid (∀ W, Below w.heap.size w W → W.cell? ⟨w.heap.size, 0, none⟩ = some (.slice s1 A.length c1) → W.cell? ⟨w.heap.size, 1, none⟩ = some (.slice s2 B.length c2) → w.heap.size < W.heap.size → Calls Try.prog 15 #[.pointer (some ⟨w.heap.size, 0, none⟩)] W fun e w' => e = .returned (.bool (vpB A B)) ∧ Below W.heap.size W w') := fun W hW hc hc2 hl => l06Ok_any _ A B W ⟨w.heap.size, s1, _, c1, s2, _, c2, rfl, hl, hc, hc2, h.below hW⟩
  have hin := fun W => l00In_any b (-1000000) 1000000 W
  cases hval : vpB A B
  · have HC := Lib.hid (show rpC A B b = 1 by rw [rpC, hval]; rfl)
    have HA := Lib.hid (show rpA A B b = [] by rw [rpA, rpOk, hval]; rfl)
    have HB2 := Lib.hid (show rpB A B b = [] by rw [rpB, rpOk, hval]; rfl)
    rw [hval] at hv0
    clear hval h hin
    go_enter Try.func6, Try.ntmps6
    go_wp2_with fail
    generalize hW : (World.alloc (World.alloc w _) _) = wb0
    have k0 : wb0.cell? ⟨w.heap.size, 0, none⟩ = some (.slice s1 A.length c1) := by rw [← hW]; simp
    have k1 : wb0.cell? ⟨w.heap.size, 1, none⟩ = some (.slice s2 B.length c2) := by rw [← hW]; simp
    have r0 : wb0.cell? ⟨w.heap.size + 1, 0, none⟩ = some (.slice none 0 0) := by rw [← hW]; simp
    have r1 : wb0.cell? ⟨w.heap.size + 1, 1, none⟩ = some (.slice none 0 0) := by rw [← hW]; simp
    have z0 : wb0.frozen? ⟨w.heap.size + 1, 0, none⟩ = false := by rw [← hW]; simp
    have z1 : wb0.frozen? ⟨w.heap.size + 1, 1, none⟩ = false := by rw [← hW]; simp
    have hlt : w.heap.size + 1 < wb0.heap.size := by rw [← hW]; simp
    have hB : Below w.heap.size w wb0 := by rw [← hW]; exact (box_below _ _).alloc (by simp) _
    clear hW
    refine (hv0.out _ hB k0 k1 (by omega)).mono ?_
    rintro e wb ⟨rfl, hb⟩
    replace k0 := (hb.cell (p := ⟨w.heap.size, 0, none⟩) (by show w.heap.size < _; omega)).trans k0
    replace k1 := (hb.cell (p := ⟨w.heap.size, 1, none⟩) (by show w.heap.size < _; omega)).trans k1
    replace r0 := (hb.cell (p := ⟨w.heap.size + 1, 0, none⟩) hlt).trans r0
    replace r1 := (hb.cell (p := ⟨w.heap.size + 1, 1, none⟩) hlt).trans r1
    replace z0 := (hb.frozen (p := ⟨w.heap.size + 1, 0, none⟩) hlt).trans z0
    replace z1 := (hb.frozen (p := ⟨w.heap.size + 1, 1, none⟩) hlt).trans z1
    replace hlt := Nat.lt_of_lt_of_le hlt hb.size
    replace hB := below_step hB hb hB.size
    clear hb
    go_wp2
    refine bodyPost_ret (v := .tuple #[.agg #[.slice none 0 0, .slice none 0 0], .int .i64 (rpC A B b)]) (by simp [results, Try.results6, go_sem, r0, r1]; exact HC.out.symm) rfl ⟨_, _, rfl, by rw [HA.out, HB2.out]; exact ownP_nil _ _ _, (hB.setCell (p := ⟨w.heap.size + 1, 0, none⟩) (Nat.le_succ _) _).setCell (p := ⟨w.heap.size + 1, 1, none⟩) (Nat.le_succ _) _⟩
  · cases hrg : btw b (-1000000) 1000000
    · have HC := Lib.hid (show rpC A B b = 2 by rw [rpC, hval, hrg]; rfl)
      have HA := Lib.hid (show rpA A B b = [] by rw [rpA, rpOk, hval, hrg]; rfl)
      have HB2 := Lib.hid (show rpB A B b = [] by rw [rpB, rpOk, hval, hrg]; rfl)
      rw [hval] at hv0
      rw [hrg] at hin
      have HIN := Lib.hid hin
      clear hval hrg h hin
      go_enter Try.func6, Try.ntmps6
      go_wp2_with fail
      generalize hW : (World.alloc (World.alloc w _) _) = wb0
      have k0 : wb0.cell? ⟨w.heap.size, 0, none⟩ = some (.slice s1 A.length c1) := by rw [← hW]; simp
      have k1 : wb0.cell? ⟨w.heap.size, 1, none⟩ = some (.slice s2 B.length c2) := by rw [← hW]; simp
      have r0 : wb0.cell? ⟨w.heap.size + 1, 0, none⟩ = some (.slice none 0 0) := by rw [← hW]; simp
      have r1 : wb0.cell? ⟨w.heap.size + 1, 1, none⟩ = some (.slice none 0 0) := by rw [← hW]; simp
      have z0 : wb0.frozen? ⟨w.heap.size + 1, 0, none⟩ = false := by rw [← hW]; simp
      have z1 : wb0.frozen? ⟨w.heap.size + 1, 1, none⟩ = false := by rw [← hW]; simp
      have hlt : w.heap.size + 1 < wb0.heap.size := by rw [← hW]; simp
      have hB : Below w.heap.size w wb0 := by rw [← hW]; exact (box_below _ _).alloc (by simp) _
      clear hW
      refine (hv0.out _ hB k0 k1 (by omega)).mono ?_
      rintro e wb ⟨rfl, hb⟩
      replace k0 := (hb.cell (p := ⟨w.heap.size, 0, none⟩) (by show w.heap.size < _; omega)).trans k0
      replace k1 := (hb.cell (p := ⟨w.heap.size, 1, none⟩) (by show w.heap.size < _; omega)).trans k1
      replace r0 := (hb.cell (p := ⟨w.heap.size + 1, 0, none⟩) hlt).trans r0
      replace r1 := (hb.cell (p := ⟨w.heap.size + 1, 1, none⟩) hlt).trans r1
      replace z0 := (hb.frozen (p := ⟨w.heap.size + 1, 0, none⟩) hlt).trans z0
      replace z1 := (hb.frozen (p := ⟨w.heap.size + 1, 1, none⟩) hlt).trans z1
      replace hlt := Nat.lt_of_lt_of_le hlt hb.size
      replace hB := below_step hB hb hB.size
      clear hb
      go_wp2_with (go_at_call 16; refine (HIN.out _).mono ?_; rintro e w' ⟨rfl, rfl⟩)
      refine bodyPost_ret (v := .tuple #[.agg #[.slice none 0 0, .slice none 0 0], .int .i64 (rpC A B b)]) (by simp [results, Try.results6, go_sem, r0, r1]; exact HC.out.symm) rfl ⟨_, _, rfl, by rw [HA.out, HB2.out]; exact ownP_nil _ _ _, (hB.setCell (p := ⟨w.heap.size + 1, 0, none⟩) (Nat.le_succ _) _).setCell (p := ⟨w.heap.size + 1, 1, none⟩) (Nat.le_succ _) _⟩
    · have HC := Lib.hid (show rpC A B b = 0 by rw [rpC, hval, hrg]; rfl)
      have HA := Lib.hid (show rpA A B b = rpT A A.length b A.length by rw [rpA, rpOk, hval, hrg]; rfl)
      have HB2 := Lib.hid (show rpB A B b = rpT B A.length b A.length by rw [rpB, rpOk, hval, hrg]; rfl)
      obtain ⟨h1, h8, hAB, _, _⟩ := shB_true (vpB_ok hval)
      have hbb := btw_iff.1 hrg
      rw [hval] at hv0
      rw [hrg] at hin
      have HIN := Lib.hid hin
      clear hval hrg hin
      obtain ⟨hA, hBr⟩ := h
      obtain ⟨hz1, _, x1, x2, hv', ha⟩ := hA
      cases hv'
      clear hz1
      obtain ⟨ba, oa, rfl, hba, hca⟩ := ha (by omega)
      obtain ⟨hz1, _, x1, x2, hv', hb'⟩ := hBr
      cases hv'
      clear hz1
      obtain ⟨bb, ob, rfl, hbb2, hcb⟩ := hb' (by omega)
      have HCA := Lib.hid hca
      have HCB := Lib.hid hcb
      have HAB := Lib.hid hAB
      clear ha hb' hca hcb hAB
      go_enter Try.func6, Try.ntmps6
      go_wp2_with fail
      generalize hW : (World.alloc (World.alloc w _) _) = wb0
      have k0 : wb0.cell? ⟨w.heap.size, 0, none⟩ = some (.slice (some ⟨ba, oa, none⟩) A.length c1) := by rw [← hW]; simp
      have k1 : wb0.cell? ⟨w.heap.size, 1, none⟩ = some (.slice (some ⟨bb, ob, none⟩) B.length c2) := by rw [← hW]; simp
      have r0 : wb0.cell? ⟨w.heap.size + 1, 0, none⟩ = some (.slice none 0 0) := by rw [← hW]; simp
      have r1 : wb0.cell? ⟨w.heap.size + 1, 1, none⟩ = some (.slice none 0 0) := by rw [← hW]; simp
      have z0 : wb0.frozen? ⟨w.heap.size + 1, 0, none⟩ = false := by rw [← hW]; simp
      have z1 : wb0.frozen? ⟨w.heap.size + 1, 1, none⟩ = false := by rw [← hW]; simp
      have hlt : w.heap.size + 1 < wb0.heap.size := by rw [← hW]; simp
      have hB : Below w.heap.size w wb0 := by rw [← hW]; exact (box_below _ _).alloc (by simp) _
      clear hW
      refine (hv0.out _ hB k0 k1 (by omega)).mono ?_
      rintro e wb ⟨rfl, hb⟩
      replace k0 := (hb.cell (p := ⟨w.heap.size, 0, none⟩) (by show w.heap.size < _; omega)).trans k0
      replace k1 := (hb.cell (p := ⟨w.heap.size, 1, none⟩) (by show w.heap.size < _; omega)).trans k1
      replace r0 := (hb.cell (p := ⟨w.heap.size + 1, 0, none⟩) hlt).trans r0
      replace r1 := (hb.cell (p := ⟨w.heap.size + 1, 1, none⟩) hlt).trans r1
      replace z0 := (hb.frozen (p := ⟨w.heap.size + 1, 0, none⟩) hlt).trans z0
      replace z1 := (hb.frozen (p := ⟨w.heap.size + 1, 1, none⟩) hlt).trans z1
      replace hlt := Nat.lt_of_lt_of_le hlt hb.size
      replace hB := below_step hB hb hB.size
      clear hb
      have HB := Lib.hid hB
      have HK := Lib.hid (And.intro (And.intro r0 r1) (And.intro z0 z1))
      have HK2 := Lib.hid (And.intro k0 k1)
      clear hB r0 r1 z0 z1
      go_wp2_with (go_at_call 16; refine (HIN.out _).mono ?_; rintro e w' ⟨rfl, rfl⟩)
      go_loopw [8] (fun i wr => ∃ (k : Nat) (va vb : Value), k ≤ A.length ∧ i = .int .i64 k ∧ OutQ wb wr va vb (rpT A A.length b k) (rpT B A.length b k)) (fun i _ => A.length - (intOf i).toNat)
      case atStart => exact ⟨0, _, _, Nat.zero_le _, rfl, outQ_start wb _⟩
      case round =>
        obtain ⟨k, va, vb, hk, rfl, hout⟩ := hrel
        obtain ⟨⟨g1, cc1, rfl⟩, g2, cc2, rfl⟩ := hout.2.2.2.1.rd.form
        rw [rpT_length, rpT_length] at hout
        have hB2 := below_step HB.out hout.2.2.2.2.1 HB.out.size
        have k2 : wr.cell? ⟨w.heap.size, 0, none⟩ = some (.slice (some ⟨ba, oa, none⟩) A.length c1) := (hout.2.2.2.2.1.cell (p := ⟨w.heap.size, 0, none⟩) (by show w.heap.size < _; omega)).trans HK2.out.1
        have k3 : wr.cell? ⟨w.heap.size, 1, none⟩ = some (.slice (some ⟨bb, ob, none⟩) B.length c2) := (hout.2.2.2.2.1.cell (p := ⟨w.heap.size, 1, none⟩) (by show w.heap.size < _; omega)).trans HK2.out.2
        by_cases hlt2 : k < A.length
        · have hI := rpI_lt h1 b k
          have hE := rpI_int h1 b k
          have hAB := HAB.out
          have hq1 := HCA.out (rpI A.length b k) (by omega)
          have hq2 := HCB.out (rpI A.length b k) (by omega)
          have HS1 := Lib.hid (rpT_succ A A.length b k)
          have HS2 := Lib.hid (rpT_succ B A.length b k)
          have HL1 := Lib.hid (rpT_length A A.length b k)
          have HL2 := Lib.hid (rpT_length B A.length b k)
          obtain ⟨x, hx⟩ : ∃ x, x = gt A (rpI A.length b k) := ⟨_, rfl⟩
          obtain ⟨y, hy⟩ : ∃ y, y = gt B (rpI A.length b k) := ⟨_, rfl⟩
          obtain ⟨I, hII⟩ : ∃ I, I = rpI A.length b k := ⟨_, rfl⟩
          rw [← hx] at HS1 hq1
          rw [← hy] at HS2 hq2
          rw [← hII] at hE hI hq1 hq2
          have hmod : Hid (∀ W, Calls Try.prog 17 #[.int .i64 ((k : Int) + b), .int .i64 (A.length : Int)] W fun e w' => e = .returned (.int .i64 (I : Int)) ∧ W = w') := fun W => by
            have := l02Mod_any ((k : Int) + b) (A.length : Int) W (by omega) (by omega)
            rwa [hE] at this
          have e1 := fun o => hB2.cell (p := ⟨ba, o, none⟩) hba
          have e2 := fun o => hB2.cell (p := ⟨bb, o, none⟩) hbb2
          have p1 := (e1 _).trans hq1.1
          have p2 := (e1 _).trans hq1.2
          have q1 := (e2 _).trans hq2.1
          have q2 := (e2 _).trans hq2.2
          rw [show 2 * I = I * 2 by omega] at p1 q1
          rw [show oa + (2 * I + 1) = oa + I * 2 + 1 by omega] at p2
          rw [show ob + (2 * I + 1) = ob + I * 2 + 1 by omega] at q2
          have z1 := hout.1
          have z2 := hout.2.1
          have HO := Lib.hid hout
          have hi0' : (0 : Int) ≤ (I : Int) := Int.natCast_nonneg _
          have hi1 : (I : Int) < (A.length : Int) := by omega
          have hi2 : (I : Int) < (B.length : Int) := by omega
          have hIB : I < B.length := by omega
          have hB8 : B.length ≤ 8 := by omega
          clear hAB
          have HQ2 : Hid (∀ W, Below wb.heap.size wb W → W.cell? ⟨bb, ob + I * 2, none⟩ = some (.int .i64 y.1) ∧ W.cell? ⟨bb, ob + I * 2 + 1, none⟩ = some (.bool y.2) ∧ W.cell? ⟨w.heap.size, 1, none⟩ = some (.slice (some ⟨bb, ob, none⟩) B.length c2)) := fun W hW => by
            have hBW := below_step HB.out hW HB.out.size
            have f := HCB.out (rpI A.length b k) (by omega)
            rw [← hy, ← hII] at f
            refine ⟨?_, ?_, ?_⟩
            · rw [hBW.cell (p := ⟨bb, _, none⟩) hbb2, show I * 2 = 2 * I by omega]; exact f.1
            · rw [hBW.cell (p := ⟨bb, _, none⟩) hbb2, show ob + I * 2 + 1 = ob + (2 * I + 1) by omega]; exact f.2
            · exact (hW.cell (p := ⟨w.heap.size, 1, none⟩) (by show w.heap.size < _; omega)).trans HK2.out.2
          clear hx hy hII hout hE e1 e2 hq1 hq2
          have HN := Lib.hid (outQ_at HO.out (w2 := (wr.alloc (.cells #[.int .i64 x.1, .bool x.2] 44)).drew) (((Below.refl _ _).alloc (Nat.le_refl _) _).drew))
          have z3 := HN.out.2.1
          clear q1 q2 k3 hB2
          go_wp2_with (go_at_call 17; refine (hmod.out _).mono ?_; rintro e w' ⟨rfl, rfl⟩)
          go_region_law ((refine step_push_p (x := x) (by rfl) _ _ (by rfl) (by rfl) k HL1.out wr.heap.size (by rfl) (heap_alloc_new wr _) HN.out.1 (by omega) HN.out.2.2.2.2.2.2 HN.out.2.2.2.2.2.1 ?_; intro g c w' hown' hb' hkk; have f1 := (hb'.cell (p := ⟨wb.heap.size, 0, none⟩) (Nat.lt_succ_self _)).trans HN.out.2.1; have f2 := (hb'.frozen (p := ⟨wb.heap.size, 0, none⟩) (Nat.lt_succ_self _)).trans (HN.out.2.2.2.1 0); have HP := Lib.hid (And.intro hown' (HN.out.2.2.2.2.1.trans hb')); clear hown' hb' hkk))
          all_goals
            have hq := outQ_A HO.out HP.out.2 HP.out.1
            generalize World.setCell w' _ _ = w4 at hq ⊢
            clear HN HP
            have hn4 := outQ_at hq (w2 := (w4.alloc (.cells #[.int .i64 y.1, .bool y.2] 44)).drew) (((Below.refl _ _).alloc (Nat.le_refl _) _).drew)
            obtain ⟨q1, q2, k3⟩ := HQ2.out _ hq.2.2.2.2.1
            have z4 := hq.2.1
            have z5 := hn4.2.2.1
            have HN4 := Lib.hid hn4
            have HO4 := Lib.hid hq
            clear hn4 hq
            go_wp2
            go_region_law ((refine step_push_p (x := y) (by rfl) _ _ (by rfl) (by rfl) k HL2.out w4.heap.size (by rfl) (heap_alloc_new w4 _) HN4.out.1.swap (by omega) HN4.out.2.2.2.2.2.2 HN4.out.2.2.2.2.2.1 ?_; intro g' c' w5 hown5 hb5 hkk; have f3 := (hb5.cell (p := ⟨wb.heap.size, 1, none⟩) (Nat.lt_succ_self _)).trans HN4.out.2.2.1; have f4 := (hb5.frozen (p := ⟨wb.heap.size, 1, none⟩) (Nat.lt_succ_self _)).trans (HN4.out.2.2.2.1 1); have HP := Lib.hid (And.intro hown5 (HN4.out.2.2.2.2.1.trans hb5)); clear hown5 hb5 hkk))
            all_goals
              have HQ := Lib.hid (outQ_B HO4.out HP.out.2 HP.out.1.swap)
              go_wp2
              go_roundw
              case rel => exact ⟨k + 1, _, _, by omega, by go_num, by rw [HS1.out, HS2.out]; exact HQ.out⟩
              case measure => simp [intOf]; omega
        · obtain rfl : k = A.length := by omega
          have r1 := (hout.2.2.2.2.1.cell (p := ⟨w.heap.size + 1, 0, none⟩) hlt).trans HK.out.1.1
          have r2 := (hout.2.2.2.2.1.cell (p := ⟨w.heap.size + 1, 1, none⟩) hlt).trans HK.out.1.2
          have q1 := (hout.2.2.2.2.1.frozen (p := ⟨w.heap.size + 1, 0, none⟩) hlt).trans HK.out.2.1
          have q2 := (hout.2.2.2.2.1.frozen (p := ⟨w.heap.size + 1, 1, none⟩) hlt).trans HK.out.2.2
          have z1 := hout.1
          have z2 := hout.2.1
          have HO := Lib.hid hout
          have HB3 := Lib.hid hB2
          clear hout hB2
          go_wp2
          refine bodyPost_ret (v := .tuple #[.agg #[.slice g1 A.length cc1, .slice g2 A.length cc2], .int .i64 (rpC A B b)]) (by simp [results, Try.results6, go_sem, r1, r2]; exact HC.out.symm) rfl ⟨_, _, rfl, ?_, (HB3.out.setCell (p := ⟨w.heap.size + 1, 0, none⟩) (Nat.le_succ _) _).setCell (p := ⟨w.heap.size + 1, 1, none⟩) (Nat.le_succ _) _⟩
          rw [HA.out, HB2.out]
          exact (((HO.out.2.2.2.1.mono (lo' := w.heap.size + 1 + 1) (Nat.le_trans hlt (Nat.le_succ _)) (Nat.le_refl _)).kept (((Chg.refl _ _ _).setCell (p := ⟨w.heap.size + 1, 0, none⟩) _ (Nat.le_refl _) (Nat.lt_succ_self _)).setCell (p := ⟨w.heap.size + 1, 1, none⟩) _ (Nat.le_refl _) (Nat.lt_succ_self _)) (.inr (Nat.le_refl _))).mono (by omega) (by simp))
end Go.Proofs.Ytmdenmpnpnmflaa
