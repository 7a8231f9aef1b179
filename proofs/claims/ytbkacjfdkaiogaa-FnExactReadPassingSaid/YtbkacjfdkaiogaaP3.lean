/-
  Contracts of the functions on patterns of two jugglers (chapter 6), third part: validity. No condition beyond each contract's own.
-/
import Derived.Test.YtbkacjfdkaiogaaP2
namespace Go.Proofs.Ytbkacjfdkaiogaa
open Go.ChangeShapes Go.WideShapes Go.ChangeAt Go.RowKit


/-- What is seen of f's first c values below n. -/
def seenF (f : Nat → Nat) (c n : Nat) : List Bool := (List.range n).map fun (x : Nat) => decide (∃ j, j < c ∧ f j = x)
theorem seenF_length (f : Nat → Nat) (c n : Nat) : (seenF f c n).length = n := by simp [seenF]
theorem seenF_at (f : Nat → Nat) {c n x : Nat} (h : x < n) : ((seenF f c n).map Value.bool)[x]? = some (.bool (decide (∃ j, j < c ∧ f j = x))) := by simp [seenF, h]
theorem seenF_set (f : Nat → Nat) {c n : Nat} (_h : f c < n) : ((seenF f c n).map Value.bool).set (f c) (.bool true) = (seenF f (c + 1) n).map Value.bool := by
  rw [← List.map_set]
  congr 1
  apply List.ext_getElem
  · simp [seenF]
  · intro x h1 h2
    rw [List.getElem_set]
    simp only [seenF, List.getElem_map, List.getElem_range]
    by_cases he : f c = x
    · rw [if_pos he]
      exact (decide_eq_true ⟨c, Nat.lt_succ_self _, he⟩).symm
    · rw [if_neg he]
      rw [decide_eq_decide]
      constructor
      · rintro ⟨j, hj, hf⟩; exact ⟨j, by omega, hf⟩
      · rintro ⟨j, hj, hf⟩
        by_cases hjc : j = c
        · exact absurd (by rw [← hjc]; exact hf) he
        · exact ⟨j, by omega, hf⟩
/-- The first c values of f are all different. -/
def injF (f : Nat → Nat) (c : Nat) : Prop := ∀ i j, i < j → j < c → f i ≠ f j
theorem injF_succ {f : Nat → Nat} {c : Nat} (h : injF f c) (hn : ¬ ∃ j, j < c ∧ f j = f c) : injF f (c + 1) := by
  intro i j hij hj he
  by_cases hjc : j = c
  · subst hjc; exact hn ⟨i, hij, he⟩
  · exact h i j hij (by omega) he
theorem injF_not {f : Nat → Nat} {c n : Nat} (hc : c < n) (h : ∃ j, j < c ∧ f j = f c) : ¬ injF f n := by
  obtain ⟨j, hj, he⟩ := h
  exact fun hi => hi j c hj hc he

/-- The landings in the reference's order, and in the program's. -/
def lsF (A B : List Th) (k : Nat) : Nat := if k % 2 = 0 then (ldV (gt A (k / 2)) 0 ((k / 2 : Nat) : Int) A.length).toNat else (ldV (gt B (k / 2)) 1 ((k / 2 : Nat) : Int) A.length).toNat
def liF (A B : List Th) (k : Nat) : Nat := if k < A.length then (ldV (gt A k) 0 (k : Int) A.length).toNat else (ldV (gt B (k - A.length)) 1 ((k - A.length : Nat) : Int) A.length).toNat
theorem ls_li (A B : List Th) {i : Nat} (h : i < A.length * 2) : lsF A B i = liF A B (if i % 2 = 0 then i / 2 else i / 2 + A.length) := by
  unfold lsF liF
  by_cases he : i % 2 = 0
  · rw [if_pos he, if_pos he, if_pos (by omega)]
  · rw [if_neg he, if_neg he, if_neg (by omega), show i / 2 + A.length - A.length = i / 2 by omega]
theorem li_ls (A B : List Th) {i : Nat} (_h : i < A.length * 2) : liF A B i = lsF A B (if i < A.length then i * 2 else (i - A.length) * 2 + 1) := by
  unfold lsF liF
  by_cases he : i < A.length
  · rw [if_pos he, if_pos he, if_pos (by omega), show i * 2 / 2 = i by omega]
  · rw [if_neg he, if_neg he, if_neg (by omega), show ((i - A.length) * 2 + 1) / 2 = i - A.length by omega]
theorem inj_ne {f : Nat → Nat} {n i j : Nat} (h : injF f n) (hi : i < n) (hj : j < n) (hne : i ≠ j) : f i ≠ f j := by
  by_cases hl : i < j
  · exact h i j hl hj
  · exact fun he => h j i (by omega) hi he.symm
theorem inj_same (A B : List Th) : injF (lsF A B) (A.length * 2) ↔ injF (liF A B) (A.length * 2) := by
  constructor
  · intro h i j hij hj
    rw [li_ls A B (show i < A.length * 2 by omega), li_ls A B hj]
    refine inj_ne h ?_ ?_ ?_
    · split <;> omega
    · split <;> omega
    · split <;> split <;> omega
  · intro h i j hij hj
    rw [ls_li A B (show i < A.length * 2 by omega), ls_li A B hj]
    refine inj_ne h ?_ ?_ ?_
    · split <;> omega
    · split <;> omega
    · split <;> split <;> omega
/-- A valid pattern of two jugglers. -/
noncomputable def vpB (A B : List Th) : Bool := shB A B && @decide (injF (lsF A B) (A.length * 2)) (Classical.propDecidable _)
theorem vpB_shape {A B : List Th} (h : shB A B = false) : vpB A B = false := by rw [vpB, h]; rfl
theorem vpB_yes {A B : List Th} (h : shB A B = true) (hi : injF (lsF A B) (A.length * 2)) : vpB A B = true := by
  rw [vpB, h, Bool.true_and]
  exact @decide_eq_true _ (Classical.propDecidable _) hi
theorem vpB_no {A B : List Th} (hi : ¬ injF (lsF A B) (A.length * 2)) : vpB A B = false := by
  rw [vpB, @decide_eq_false _ (Classical.propDecidable _) hi]
  simp
theorem vpB_ok {A B : List Th} (h : vpB A B = true) : shB A B = true := by
  simp only [vpB, Bool.and_eq_true] at h
  exact h.1
theorem ldV_bd {t : Th} {j k n : Int} (hj0 : 0 ≤ j) (hj1 : j ≤ 1) (hn1 : 1 ≤ n) : 0 ≤ ldV t j k n ∧ ldV t j k n < 2 * n := by
  have b1 : 0 ≤ (k + t.1) % n := Int.emod_nonneg _ (by omega)
  have b2 : (k + t.1) % n < n := Int.emod_lt_of_pos _ (by omega)
  unfold ldV
  split <;> omega
theorem lsF_lt {A B : List Th} (h1 : 1 ≤ A.length) (k : Nat) : lsF A B k < A.length * 2 := by
  unfold lsF
  split
  · have := ldV_bd (t := gt A (k / 2)) (j := 0) (k := ((k / 2 : Nat) : Int)) (n := A.length) (by omega) (by omega) (by omega); omega
  · have := ldV_bd (t := gt B (k / 2)) (j := 1) (k := ((k / 2 : Nat) : Int)) (n := A.length) (by omega) (by omega) (by omega); omega
theorem liF_lt {A B : List Th} (h1 : 1 ≤ A.length) (k : Nat) : liF A B k < A.length * 2 := by
  unfold liF
  split
  · have := ldV_bd (t := gt A k) (j := 0) (k := (k : Int)) (n := A.length) (by omega) (by omega) (by omega); omega
  · have := ldV_bd (t := gt B (k - A.length)) (j := 1) (k := ((k - A.length : Nat) : Int)) (n := A.length) (by omega) (by omega) (by omega); omega
theorem lsF_even (A B : List Th) (k : Nat) (h1 : 1 ≤ A.length) : ldV (gt A k) 0 (k : Int) A.length = (lsF A B (k * 2) : Int) := by
  unfold lsF
  rw [if_pos (by omega), show k * 2 / 2 = k by omega]
  have := ldV_bd (t := gt A k) (j := 0) (k := (k : Int)) (n := A.length) (by omega) (by omega) (by omega)
  omega
theorem lsF_odd (A B : List Th) (k : Nat) (h1 : 1 ≤ A.length) : ldV (gt B k) 1 (k : Int) A.length = (lsF A B (k * 2 + 1) : Int) := by
  unfold lsF
  rw [if_neg (by omega), show (k * 2 + 1) / 2 = k by omega]
  have := ldV_bd (t := gt B k) (j := 1) (k := (k : Int)) (n := A.length) (by omega) (by omega) (by omega)
  omega

theorem Try.infoBool : (Try.prog.info? 4).map (fun i => (i.zero, i.size, i.bytes)) = some (some (.bool false), 1, 1) := by kernel_rfl
set_option maxRecDepth 20000 in
set_option maxHeartbeats 4000000 in
theorem l06Ok_any (p : Value) (A B : List Th) (w : World) (h : RdQ w p A B) :
    Calls Try.prog 10 #[p] w fun e w' => e = .returned (.bool (vpB A B)) ∧ Below w.heap.size w w' := by
  have hs := l06Shape_any p A B w h
  cases hsh : shB A B
  · rw [hsh] at hs
    have HS := Lib.hid hs
    clear hs
    go_enter Try.func10, Try.ntmps10
    go_wp2_with fail
    refine HS.out.mono ?_
    rintro e w' ⟨rfl, n, rfl⟩
    go_wp2
    go_ret
    exact ⟨ret_bool (vpB_shape hsh).symm, below_dn _ _⟩
  · rw [hsh] at hs
    have HS := Lib.hid hs
    clear hs
    obtain ⟨h1, h8, hAB, hbA, hbB⟩ := shB_true hsh
    have Hsh := Lib.hid hsh
    clear hsh
    have hl := Lib.hid (fun k => And.intro (lsF_even A B k h1) (And.intro (lsF_odd A B k h1) (And.intro (lsF_lt (B := B) h1 (k * 2)) (lsF_lt (B := B) h1 (k * 2 + 1)))))
    obtain ⟨bq, s1, c1, s2, c2, rfl, hltq, d1, d2, hrA, hrB⟩ := h.lens
    rw [← hAB] at d2
    obtain ⟨x1, la, _, _, hv1, hc1⟩ := hrA
    obtain ⟨x2, x3, _, _, hv2, hc2⟩ := hrB
    clear x1 x2 x3
    cases hv1
    cases hv2
    obtain ⟨ba, oa, rfl, hba, hca⟩ := hc1 (by omega)
    obtain ⟨bb, ob, rfl, hbb, hcb⟩ := hc2 (by omega)
    rw [← hAB] at hcb
    have HAB := Lib.hid hAB
    clear hc1 hc2 h hAB
    have HC := Lib.hid (And.intro hca (And.intro hcb (And.intro hbA hbB)))
    clear hca hcb hbA hbB
    obtain ⟨i0, hi, hz0, hz1, hz2⟩ := info_parts Try.infoBool
    obtain ⟨M, hM⟩ : ∃ M : Nat, M = A.length * 2 := ⟨_, rfl⟩
    have HM := Lib.hid hM
    have hMi : (2 : Int) * (A.length : Int) = (M : Int) := by omega
    have hM16 : M ≤ 16 := by omega
    clear hM
    go_enter Try.func10, Try.ntmps10
    go_wp2_with fail
    refine HS.out.mono ?_
    rintro e w0 ⟨rfl, n0, hw0⟩
    have hB0 : Below w.heap.size w w0 := by rw [hw0]; exact below_dn _ _
    have q1 := (hB0.cell (p := ⟨bq, 0, none⟩) hltq).trans d1
    have q2 := (hB0.cell (p := ⟨bq, 1, none⟩) hltq).trans d2
    have hsz0 := hB0.size
    have HB0 := Lib.hid hB0
    clear hw0 hB0
    go_wp2_with (at_make; refine wpList_make_full _ rfl _ _ 39 rfl w.heap.size 4 i0 (.bool false) 1 Try.underlying39 hi hz0 hz1 _ _ _ _ M rfl rfl (by first | rfl | exact hMi) (by first | rfl | exact hMi) ?c1 ?c2 ?c3 ?_)
    case c1 => rw [hz2]; omega
    case c2 => unfold maxLen; omega
    case c3 => exact hsz0
    intro w1 hown1 hgrow1
    have hB1 : Below w.heap.size w w1 := HB0.out.grown hgrow1 hsz0 (by intro k hk; cases hk)
    have hown2 : w1.ownsRow w.heap.size 4 1 (.slice (some ⟨w0.heap.size, 0, none⟩) M M) M ((seenF (lsF A B) (0 * 2) M).map Value.bool) := by
      have e : (madeCells #[Value.bool false] M).toList = (seenF (lsF A B) (0 * 2) M).map Value.bool := by
        apply List.ext_getElem
        · simp [madeCells, seenF]
        · intro j h1 h2
          simp [madeCells, Nat.mod_one, seenF]
      rw [← e]; exact hown1
    clear hown1 hgrow1 q1 q2
    obtain ⟨g, hg⟩ : ∃ g : Nat, g = w0.heap.size := ⟨_, rfl⟩
    rw [← hg] at hown2 ⊢
    have hsg : w.heap.size ≤ g := by omega
    clear hg
    go_wp2
    go_loopw [5] (fun i wr => ∃ k : Nat, k ≤ A.length ∧ i = .int .i64 k ∧ wr.ownsRow w.heap.size 4 1 (.slice (some ⟨g, 0, none⟩) M M) M ((seenF (lsF A B) (k * 2) M).map Value.bool) ∧ injF (lsF A B) (k * 2) ∧ Below w.heap.size w wr) (fun i _ => A.length - (intOf i).toNat)
    case atStart => exact ⟨0, Nat.zero_le _, rfl, hown2, fun i j hij hj => absurd hj (Nat.not_lt_zero j), hB1⟩
    case round =>
      obtain ⟨k, hk, rfl, hown, hinj, hB⟩ := hrel
      have Hinj := Lib.hid hinj
      clear hinj
      by_cases hlt : k < A.length
      · obtain ⟨p1, p2⟩ := cellsP HC.out.1 hlt
        obtain ⟨r1, r2⟩ := cellsP HC.out.2.1 hlt
        have bA := HC.out.2.2.1 k hlt
        have bB := HC.out.2.2.2 k hlt
        have t1 : Hid (∀ W, Calls Try.prog 19 #[.agg #[.int .i64 (gt A k).1, .bool (gt A k).2], .int .i64 0, .int .i64 k, .int .i64 A.length] W fun e w' => e = .returned (.int .i64 (lsF A B (k * 2) : Int)) ∧ Below W.heap.size W w') := fun W => by
          have := l06Land_any (gt A k).1 (gt A k).2 0 k A.length W bA.1 bA.2 (by omega) (by omega) (by omega) (by omega) (by omega) (by omega)
          rw [show ((gt A k).1, (gt A k).2) = gt A k from rfl, (hl.out k).1] at this
          exact this
        have t2 : Hid (∀ W, Calls Try.prog 19 #[.agg #[.int .i64 (gt B k).1, .bool (gt B k).2], .int .i64 1, .int .i64 k, .int .i64 A.length] W fun e w' => e = .returned (.int .i64 (lsF A B (k * 2 + 1) : Int)) ∧ Below W.heap.size W w') := fun W => by
          have := l06Land_any (gt B k).1 (gt B k).2 1 k A.length W bB.1 bB.2 (by omega) (by omega) (by omega) (by omega) (by omega) (by omega)
          rw [show ((gt B k).1, (gt B k).2) = gt B k from rfl, (hl.out k).2.1] at this
          exact this
        have z1 := (hB.cell (p := ⟨bq, 0, none⟩) hltq).trans d1
        have z2 := (hB.cell (p := ⟨bq, 1, none⟩) hltq).trans d2
        have f1 := fun o => hB.cell (p := ⟨ba, o, none⟩) hba
        have f2 := fun o => hB.cell (p := ⟨bb, o, none⟩) hbb
        rw [← f1] at p1 p2
        rw [← f2] at r1 r2
        have hszr := hB.size
        clear f1 f2 bA bB
        have hx := (hl.out k).2.2.1
        have hy := (hl.out k).2.2.2
        rw [← HM.out] at hx hy
        obtain ⟨x, hxx⟩ : ∃ x : Nat, x = lsF A B (k * 2) := ⟨_, rfl⟩
        obtain ⟨y, hyy⟩ : ∃ y : Nat, y = lsF A B (k * 2 + 1) := ⟨_, rfl⟩
        rw [← hxx] at t1 hx
        rw [← hyy] at t2 hy
        have HX := Lib.hid hxx
        have HY := Lib.hid hyy
        clear hxx hyy
        have hbq : bq < wr.heap.size := by omega
        have hbb' : bb < wr.heap.size := by omega
        have HBr := Lib.hid (And.intro hB hown)
        clear hB hown
        go_wp2_with fail
        with_reducible refine (t1.out _).mono ?_
        rintro e w2 ⟨rfl, hb2⟩
        replace z1 := (hb2.cell (p := ⟨bq, 0, none⟩) hbq).trans z1
        replace z2 := (hb2.cell (p := ⟨bq, 1, none⟩) hbq).trans z2
        replace r1 := (hb2.cell (p := ⟨bb, _, none⟩) hbb').trans r1
        replace r2 := (hb2.cell (p := ⟨bb, _, none⟩) hbb').trans r2
        have HB2 := Lib.hid (And.intro (below_step HBr.out.1 hb2 HBr.out.1.size) (row_below HBr.out.2 hb2))
        clear hb2
        go_wp2_with fail
        with_reducible refine (t2.out _).mono ?_
        rintro e w3 ⟨rfl, hb3⟩
        have hB3 := below_step HB2.out.1 hb3 HB2.out.1.size
        have hown3 := row_below HB2.out.2 hb3
        clear hb3 z1 z2 r1 r2 p1 p2
        have ca := hown3.cellAt x (by omega)
        have cb := hown3.cellAt y (by omega)
        rw [seenF_at _ hx] at ca
        rw [seenF_at _ hy] at cb
        have fa := hown3.frozenAt x
        have fb := hown3.frozenAt y
        have HB3 := Lib.hid (And.intro hB3 hown3)
        clear hB3 hown3
        cases ha : decide (∃ j, j < k * 2 ∧ lsF A B j = x)
        rotate_left
        · have hbad : Hid (vpB A B = false) := vpB_no (injF_not (c := k * 2) (by omega) (by rw [← HX.out]; exact of_decide_eq_true ha))
          rw [ha] at ca
          clear ha
          go_wp2
          go_ret
          exact ⟨ret_bool hbad.out.symm, HB3.out.1⟩
        have na : Hid (¬ ∃ j, j < k * 2 ∧ lsF A B j = x) := of_decide_eq_false ha
        rw [ha] at ca
        clear ha
        by_cases hxy : x = y
        · have hbad : Hid (vpB A B = false) := vpB_no (injF_not (c := k * 2 + 1) (by omega) ⟨k * 2, by omega, by rw [← HX.out, ← HY.out]; exact hxy⟩)
          have e1 : ((x : Int) == (y : Int)) = true := bT (by omega)
          clear hxy
          go_wp2
          go_ret
          exact ⟨ret_bool hbad.out.symm, HB3.out.1⟩
        have e1 : ((x : Int) == (y : Int)) = false := bF (by omega)
        cases hb : decide (∃ j, j < k * 2 ∧ lsF A B j = y)
        rotate_left
        · have hbad : Hid (vpB A B = false) := by
            obtain ⟨j, hj, he⟩ := of_decide_eq_true hb
            exact vpB_no (injF_not (c := k * 2 + 1) (by omega) ⟨j, by omega, by rw [← HY.out]; exact he⟩)
          rw [hb] at cb
          clear hb
          go_wp2
          go_ret
          exact ⟨ret_bool hbad.out.symm, HB3.out.1⟩
        have nb : Hid (¬ ∃ j, j < k * 2 ∧ lsF A B j = y) := of_decide_eq_false hb
        rw [hb] at cb
        clear hb
        have hinj2 : Hid (injF (lsF A B) ((k + 1) * 2)) := by
          show injF (lsF A B) ((k + 1) * 2)
          rw [show (k + 1) * 2 = k * 2 + 1 + 1 by omega]
          refine injF_succ (injF_succ Hinj.out (by rw [← HX.out]; exact na.out)) ?_
          rintro ⟨j, hj, he⟩
          rw [← HY.out] at he
          by_cases hj2 : j = k * 2
          · rw [hj2, ← HX.out] at he; exact hxy he
          · exact nb.out ⟨j, by omega, he⟩
        have hrow : Hid (((w3.setCell ⟨g, x, none⟩ (.bool true)).setCell ⟨g, y, none⟩ (.bool true)).ownsRow w.heap.size 4 1 (.slice (some ⟨g, 0, none⟩) M M) M ((seenF (lsF A B) ((k + 1) * 2) M).map Value.bool)) := by
          have s1 := (HB3.out.2.stored x (.bool true)).1
          rw [HX.out, seenF_set _ (by rw [← HX.out]; exact hx)] at s1
          have s2 := (s1.stored y (.bool true)).1
          rw [HY.out, seenF_set _ (by rw [← HY.out]; exact hy)] at s2
          rw [← HX.out, ← HY.out, show k * 2 + 1 + 1 = (k + 1) * 2 by omega] at s2
          exact Lib.hid s2
        have hyx : ¬ y = x := fun h => hxy h.symm
        go_wp2
        go_roundw
        case rel => exact ⟨k + 1, by omega, by go_num, hrow.out, hinj2.out, (HB3.out.1.setCell hsg _).setCell hsg _⟩
        case measure => simp [intOf]; omega
      · go_wp2
        go_ret
        obtain rfl : k = A.length := by omega
        exact ⟨ret_bool (vpB_yes Hsh.out Hinj.out).symm, hB⟩
end Go.Proofs.Ytbkacjfdkaiogaa
