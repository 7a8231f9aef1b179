/-
  Contracts of the functions on synchronous patterns (chapter 5), ninth part: pairing up, by the implementation. No condition beyond each contract's own.
-/
import Derived.Test.YtncfnbkddpdedaaY8
import Derived.Deep.RegionHeld3
import Derived.Deep.AppendLies
namespace Go.Proofs.Ytncfnbkddpdedaa
open Go.ChangeShapes Go.WideShapes Go.ChangeAt Go.RowKit


theorem Try.infoThrow : (Try.prog.info? 36).map (fun i => (i.zero, i.size, i.bytes)) = some (some (.agg #[.int .i64 0, .bool false]), 2, 16) := by kernel_rfl
/-- 'append(out, t)' of one throw onto a slice of the call's own, behind the new block that holds t. -/
theorem push_throw {ops : Array Oper} {rest : List Oper} {o : Oper} {a : Act} {Q : Exit → Act → World → Prop} {w : World} {lo n : Nat} {v : Value} {T : List Th} {x : Th}
    (hgd : o.guard = none) (s xo : Operand) (ho : o.op = .call { callee := .builtin .append, args := #[s, xo], argTypes := #[42, 42] })
    (hs : a.eval s = v) (H : Nat) (hx : a.eval xo = .slice (some ⟨H, 0, none⟩) 1 1) (hH : H = w.heap.size) (hown : w.ownsRow lo 36 2 v n (cT T)) (hlo : lo ≤ w.heap.size) (hl : n ≤ 1000000000)
    (h : ∀ v' w', w'.ownsRow lo 36 2 v' (n + 1) (cT (T ++ [x])) → Below lo w w' → wpList Try.prog ops Q rest (a.put o.dst v') w') :
    wpList Try.prog ops Q (o :: rest) a (w.alloc (.cells #[.int .i64 x.1, .bool x.2] 36)) := by
  obtain ⟨i0, hi, hz0, hz1, hz2⟩ := info_parts Try.infoThrow
  subst hH
  refine wpList_append_own _ hgd s xo 42 ho lo 36 i0 _ 2 16 Try.underlying42 hi hz0 hz1 hz2 rfl (by decide) v n _ hs (hown.alloc _) ⟨w.heap.size, 0, none⟩ 1 1 (cT [x]) hx rfl (World.news_of_block (heap_alloc_new w _)) (cT_one _) (by unfold maxLen; omega) (by omega) (by simp; omega) ?_
  intro v' w' hown' hg _
  rw [← cT_append] at hown'
  refine h v' w' hown' ?_
  exact ((Below.refl _ _).alloc hlo _).grown hg (by simp; omega) (fun k hk => by have := (hown.lt k hk).1; omega)
theorem throw_made (w : World) : (w.alloc (.cells #[] 36)).ownsRow w.heap.size 36 2 (.slice (some ⟨w.heap.size, 0, none⟩) 0 0) 0 (cT []) :=
  World.ownsRow_made w #[] 0 (Nat.le_refl _) (by decide) (by simp)

theorem puT_one (A : List Int) (k : Nat) : puT A (k + 1) = puT A k ++ [bkV (gi A k) (decide (k % 2 = 1))] := by simp [puT, List.range_succ]
theorem repL_two (p : List Int) : repL p 2 = p ++ p := by simp [repL]
theorem gt_puT {A : List Int} {k n : Nat} (h : k < n) : gt (puT A n) k = bkV (gi A k) (decide (k % 2 = 1)) := by rw [gt_eq (by rw [puT_length]; exact h)]; simp [puT]

set_option maxRecDepth 20000 in
set_option maxHeartbeats 8000000 in
theorem implPairUp_any (v : Value) (p : List Int) (w : World) (hp : Rd w v p) :
    Calls Try.prog 7 #[v] w fun e w' => ∃ u, e = .returned (.tuple #[u, .int .i64 (puC p)]) ∧ OwnT 40 2 w' w.heap.size w'.heap.size u (puN p) (puL p) ∧ Below w.heap.size w w' := by
  have hv0 := implValid_any v p w hp
  cases hval : validB p
  · rw [hval] at hv0
    have hv := Lib.hid hv0
    have HR := Lib.hid (pu_inv hval)
    clear hv0 hval
    go_enter Try.func7, Try.ntmps7
    go_wp2_with fail
    refine hv.out.mono ?_
    rintro e w' ⟨rfl, hb⟩
    go_wp2
    go_ret2
    exact ⟨_, ret2 rfl (vint HR.out.1.symm), by rw [HR.out.2.1, HR.out.2.2]; exact ownT_nil _ _ _ _ _, hb⟩
  · rw [hval] at hv0
    have hv := Lib.hid hv0
    obtain ⟨h1, h12, hbd⟩ := validB_true hval
    have Hval := Lib.hid hval
    have HP := Lib.hid hp
    have hrep : Hid (p.length ≤ 12 → ∀ W, Below w.heap.size w W → Calls Try.prog 19 #[v, .int .i64 2] W fun e w' => ∃ u, e = .returned u ∧ Own w' W.heap.size w'.heap.size u (p ++ p) ∧ Below W.heap.size W w') := fun h12 W hW => by
      have := repeated_any v p 2 W (hp.below hW) h1 (by omega) (by omega)
      rwa [repL_two] at this
    obtain ⟨la, a0, ca0, rfl, ha⟩ := hp
    have hm2 := nm2 p.length
    clear hv0 hval
    by_cases hodd : p.length % 2 = 1
    · rw [hodd, Int.natCast_one] at hm2
      have HBD := Lib.hid (gi_dbl hbd)
      have HD := Lib.hid (dbl_odd hodd)
      have HL : Hid ((p ++ p).length = p.length + p.length) := List.length_append
      have HOD := Lib.hid hodd
      clear hbd hodd ha
      by_cases h6 : p.length ≤ 6
      · have HA12 : Hid ((p ++ p).length ≤ 12) := by show (p ++ p).length ≤ 12; rw [HL.out]; omega
        clear h6
        go_enter Try.func7, Try.ntmps7
        go_wp2_with fail
        refine hv.out.mono ?_
        rintro e w' ⟨rfl, hb0⟩
        go_wp2_with fail
        refine (hrep.out h12 _ hb0).mono ?_
        rintro e wU ⟨u, rfl, hu, hb1⟩
        have HBU := Lib.hid (below_step hb0 hb1 hb0.size)
        obtain ⟨A, hA⟩ : ∃ A, A = p ++ p := ⟨_, rfl⟩
        rw [← hA] at hu HBD HD HL HA12
        have hA12 := HA12.out
        have hE := Lib.hid (show A.length % 2 = 0 by rw [HL.out]; omega)
        have h1A := Lib.hid (show 1 ≤ A.length by rw [HL.out]; omega)
        obtain ⟨laA, ga, gc, hvA, haA⟩ := hu.rd
        subst hvA
        clear hb0 hb1 hu hA
        obtain ⟨ba, oa, hga, hba, hca⟩ := haA (by have := h1A.out; omega)
        subst hga
        have HCA := Lib.hid hca
        have hbU := HBU.out.size
        clear haA hca
        go_wp2
        go_loopw [4, 25] (fun o i wr => ∃ k : Nat, k ≤ A.length ∧ i = .int .i64 k ∧ (∀ j, j < k → thS (bkV (gi A j) (decide (j % 2 = 1))) = true) ∧ wr.ownsRow wU.heap.size 36 2 o k (cT (puT A k)) ∧ Below wU.heap.size wU wr) (fun _ i _ => A.length - (intOf i).toNat)
        case atStart => exact ⟨0, by omega, rfl, fun j hj => absurd hj (by omega), throw_made wU, (Below.refl _ _).alloc (Nat.le_refl _) _⟩
        case round =>
          obtain ⟨k, hk, rfl, hth, hown, hB⟩ := hrel
          have HTH := Lib.hid hth
          have HOWN := Lib.hid (And.intro hown hB)
          clear hth hown
          by_cases hlt : k < A.length
          · have p1 := (hB.cell (p := ⟨ba, oa + k, none⟩) hba).trans (HCA.out _ hlt)
            have b1 := HBD.out _ hlt
            have HS := Lib.hid (puT_one A k)
            have hkm := nm2 k
            have e1 : (gi A k).tmod 2 = gi A k % 2 := Int.tmod_eq_emod_of_nonneg b1.1
            have e3 : gi A k % 2 = 1 ∨ gi A k % 2 = 0 := by omega
            have LX : Hid (thS (bkV (gi A k) (decide (k % 2 = 1))) = false → puC p = 10 ∧ puN p = 0 ∧ puL p = []) := fun h => pu_lost Hval.out HD.out hA12 hlt h
            have TS : Hid (∀ j, j < k + 1 → thS (bkV (gi A k) (decide (k % 2 = 1))) = true → thS (bkV (gi A j) (decide (j % 2 = 1))) = true) := fun j hj h => by
              by_cases hj1 : j < k
              · exact HTH.out j hj1
              · rw [show j = k by omega]; exact h
            obtain ⟨x, hx⟩ : ∃ x, x = bkV (gi A k) (decide (k % 2 = 1)) := ⟨_, rfl⟩
            have t1 := Lib.hid (fun W => isSyncThrow_any x.1 x.2 W)
            rw [← hx] at LX TS HS
            have HX := Lib.hid hx
            rw [bkV] at hx
            have HK := Lib.hid b1
            obtain ⟨V, hV⟩ : ∃ V, V = gi A k := ⟨_, rfl⟩
            rw [← hV] at p1 e1 e3 hx b1
            clear hV hB HK
            cases hb1 : thS x
            · rw [show thS (x.1, x.2) = _ from hb1] at t1
              have HB1 := Lib.hid hb1
              clear hb1
              rcases e3 with e3 | e3
              · rcases Nat.mod_two_eq_zero_or_one k with hk2 | hk2
                · rw [e3] at e1
                  rw [hk2] at hkm
                  rw [e3, hk2] at hx
                  simp at hx
                  obtain ⟨x1, x2⟩ := x
                  simp only [Prod.mk.injEq] at hx
                  obtain ⟨hx1, hx2⟩ := hx
                  have HH := Lib.hid (And.intro e3 hk2)
                  clear e3 hk2
                  have hx1' : x1 = V + -1 := by omega
                  clear hx1
                  subst hx1' hx2
                  go_wp2_with fail
                  generalize hW : World.alloc wr _ = w1
                  have c1 : w1.cell? ⟨wr.heap.size, 0, none⟩ = some (.int .i64 (V + -1)) := by rw [← hW]; simp
                  have c2 : w1.cell? ⟨wr.heap.size, 1, none⟩ = some (.bool true) := by rw [← hW]; simp
                  have hlt1 : wr.heap.size < w1.heap.size := by rw [← hW]; simp
                  have hB1 : Below wr.heap.size wr w1 := by rw [← hW]; exact (Below.refl _ _).alloc (Nat.le_refl _) _
                  clear hW
                  refine (t1.out _).mono ?_
                  rintro e w2 ⟨rfl, hb⟩
                  have d1 := (hb.cell (p := ⟨wr.heap.size, 0, none⟩) hlt1).trans c1
                  have d2 := (hb.cell (p := ⟨wr.heap.size, 1, none⟩) hlt1).trans c2
                  have HB2 := Lib.hid (below_step hB1 hb hB1.size)
                  have HB3 := Lib.hid (below_step HOWN.out.2 HB2.out HOWN.out.2.size)
                  have HR3 := Lib.hid (row_below HOWN.out.1 HB2.out)
                  clear hb hB1 c1 c2 p1
                  go_wp2
                  go_ret2
                  exact ⟨_, ret2 rfl (vint (LX.out HB1.out).1.symm), by rw [(LX.out HB1.out).2.1, (LX.out HB1.out).2.2]; exact ownT_nil _ _ _ _ _, below_step HBU.out HB3.out HBU.out.size⟩
                · rw [e3] at e1
                  rw [hk2] at hkm
                  rw [e3, hk2] at hx
                  simp at hx
                  obtain ⟨x1, x2⟩ := x
                  simp only [Prod.mk.injEq] at hx
                  obtain ⟨hx1, hx2⟩ := hx
                  have HH := Lib.hid (And.intro e3 hk2)
                  clear e3 hk2
                  have hx1' : x1 = V + 1 := by omega
                  clear hx1
                  subst hx1' hx2
                  go_wp2_with fail
                  generalize hW : World.alloc wr _ = w1
                  have c1 : w1.cell? ⟨wr.heap.size, 0, none⟩ = some (.int .i64 (V + 1)) := by rw [← hW]; simp
                  have c2 : w1.cell? ⟨wr.heap.size, 1, none⟩ = some (.bool true) := by rw [← hW]; simp
                  have hlt1 : wr.heap.size < w1.heap.size := by rw [← hW]; simp
                  have hB1 : Below wr.heap.size wr w1 := by rw [← hW]; exact (Below.refl _ _).alloc (Nat.le_refl _) _
                  clear hW
                  refine (t1.out _).mono ?_
                  rintro e w2 ⟨rfl, hb⟩
                  have d1 := (hb.cell (p := ⟨wr.heap.size, 0, none⟩) hlt1).trans c1
                  have d2 := (hb.cell (p := ⟨wr.heap.size, 1, none⟩) hlt1).trans c2
                  have HB2 := Lib.hid (below_step hB1 hb hB1.size)
                  have HB3 := Lib.hid (below_step HOWN.out.2 HB2.out HOWN.out.2.size)
                  have HR3 := Lib.hid (row_below HOWN.out.1 HB2.out)
                  clear hb hB1 c1 c2 p1
                  go_wp2
                  go_ret2
                  exact ⟨_, ret2 rfl (vint (LX.out HB1.out).1.symm), by rw [(LX.out HB1.out).2.1, (LX.out HB1.out).2.2]; exact ownT_nil _ _ _ _ _, below_step HBU.out HB3.out HBU.out.size⟩
              · rcases Nat.mod_two_eq_zero_or_one k with hk2 | hk2
                · rw [e3] at e1
                  rw [hk2] at hkm
                  rw [e3, hk2] at hx
                  simp at hx
                  obtain ⟨x1, x2⟩ := x
                  simp only [Prod.mk.injEq] at hx
                  obtain ⟨hx1, hx2⟩ := hx
                  have HH := Lib.hid (And.intro e3 hk2)
                  clear e3 hk2
                  have hx1' : V = x1 := by omega
                  clear hx1
                  subst hx1' hx2
                  go_wp2_with fail
                  generalize hW : World.alloc wr _ = w1
                  have c1 : w1.cell? ⟨wr.heap.size, 0, none⟩ = some (.int .i64 (V)) := by rw [← hW]; simp
                  have c2 : w1.cell? ⟨wr.heap.size, 1, none⟩ = some (.bool false) := by rw [← hW]; simp
                  have hlt1 : wr.heap.size < w1.heap.size := by rw [← hW]; simp
                  have hB1 : Below wr.heap.size wr w1 := by rw [← hW]; exact (Below.refl _ _).alloc (Nat.le_refl _) _
                  clear hW
                  refine (t1.out _).mono ?_
                  rintro e w2 ⟨rfl, hb⟩
                  have d1 := (hb.cell (p := ⟨wr.heap.size, 0, none⟩) hlt1).trans c1
                  have d2 := (hb.cell (p := ⟨wr.heap.size, 1, none⟩) hlt1).trans c2
                  have HB2 := Lib.hid (below_step hB1 hb hB1.size)
                  have HB3 := Lib.hid (below_step HOWN.out.2 HB2.out HOWN.out.2.size)
                  have HR3 := Lib.hid (row_below HOWN.out.1 HB2.out)
                  clear hb hB1 c1 c2 p1
                  go_wp2
                  go_ret2
                  exact ⟨_, ret2 rfl (vint (LX.out HB1.out).1.symm), by rw [(LX.out HB1.out).2.1, (LX.out HB1.out).2.2]; exact ownT_nil _ _ _ _ _, below_step HBU.out HB3.out HBU.out.size⟩
                · rw [e3] at e1
                  rw [hk2] at hkm
                  rw [e3, hk2] at hx
                  simp at hx
                  obtain ⟨x1, x2⟩ := x
                  simp only [Prod.mk.injEq] at hx
                  obtain ⟨hx1, hx2⟩ := hx
                  have HH := Lib.hid (And.intro e3 hk2)
                  clear e3 hk2
                  have hx1' : V = x1 := by omega
                  clear hx1
                  subst hx1' hx2
                  go_wp2_with fail
                  generalize hW : World.alloc wr _ = w1
                  have c1 : w1.cell? ⟨wr.heap.size, 0, none⟩ = some (.int .i64 (V)) := by rw [← hW]; simp
                  have c2 : w1.cell? ⟨wr.heap.size, 1, none⟩ = some (.bool false) := by rw [← hW]; simp
                  have hlt1 : wr.heap.size < w1.heap.size := by rw [← hW]; simp
                  have hB1 : Below wr.heap.size wr w1 := by rw [← hW]; exact (Below.refl _ _).alloc (Nat.le_refl _) _
                  clear hW
                  refine (t1.out _).mono ?_
                  rintro e w2 ⟨rfl, hb⟩
                  have d1 := (hb.cell (p := ⟨wr.heap.size, 0, none⟩) hlt1).trans c1
                  have d2 := (hb.cell (p := ⟨wr.heap.size, 1, none⟩) hlt1).trans c2
                  have HB2 := Lib.hid (below_step hB1 hb hB1.size)
                  have HB3 := Lib.hid (below_step HOWN.out.2 HB2.out HOWN.out.2.size)
                  have HR3 := Lib.hid (row_below HOWN.out.1 HB2.out)
                  clear hb hB1 c1 c2 p1
                  go_wp2
                  go_ret2
                  exact ⟨_, ret2 rfl (vint (LX.out HB1.out).1.symm), by rw [(LX.out HB1.out).2.1, (LX.out HB1.out).2.2]; exact ownT_nil _ _ _ _ _, below_step HBU.out HB3.out HBU.out.size⟩
            · rw [show thS (x.1, x.2) = _ from hb1] at t1
              have HB1 := Lib.hid hb1
              clear hb1
              rcases e3 with e3 | e3
              · rcases Nat.mod_two_eq_zero_or_one k with hk2 | hk2
                · rw [e3] at e1
                  rw [hk2] at hkm
                  rw [e3, hk2] at hx
                  simp at hx
                  obtain ⟨x1, x2⟩ := x
                  simp only [Prod.mk.injEq] at hx
                  obtain ⟨hx1, hx2⟩ := hx
                  have HH := Lib.hid (And.intro e3 hk2)
                  clear e3 hk2
                  have hx1' : x1 = V + -1 := by omega
                  clear hx1
                  subst hx1' hx2
                  go_wp2_with fail
                  generalize hW : World.alloc wr _ = w1
                  have c1 : w1.cell? ⟨wr.heap.size, 0, none⟩ = some (.int .i64 (V + -1)) := by rw [← hW]; simp
                  have c2 : w1.cell? ⟨wr.heap.size, 1, none⟩ = some (.bool true) := by rw [← hW]; simp
                  have hlt1 : wr.heap.size < w1.heap.size := by rw [← hW]; simp
                  have hB1 : Below wr.heap.size wr w1 := by rw [← hW]; exact (Below.refl _ _).alloc (Nat.le_refl _) _
                  clear hW
                  refine (t1.out _).mono ?_
                  rintro e w2 ⟨rfl, hb⟩
                  have d1 := (hb.cell (p := ⟨wr.heap.size, 0, none⟩) hlt1).trans c1
                  have d2 := (hb.cell (p := ⟨wr.heap.size, 1, none⟩) hlt1).trans c2
                  have HB2 := Lib.hid (below_step hB1 hb hB1.size)
                  have HB3 := Lib.hid (below_step HOWN.out.2 HB2.out HOWN.out.2.size)
                  have HR3 := Lib.hid (row_below HOWN.out.1 HB2.out)
                  clear hb hB1 c1 c2 p1
                  go_wp2_with (at_builtin; refine push_throw (x := (V + -1, true)) rfl _ _ rfl rfl w2.heap.size rfl rfl HR3.out HB3.out.size (by omega) ?_; intro v' w' hown' hb')
                  go_roundw
                  case rel => exact ⟨k + 1, by omega, by go_num, fun j hj => TS.out j hj HB1.out, by rw [HS.out]; exact hown', HB3.out.trans hb'⟩
                  case measure => simp [intOf]; omega
                · rw [e3] at e1
                  rw [hk2] at hkm
                  rw [e3, hk2] at hx
                  simp at hx
                  obtain ⟨x1, x2⟩ := x
                  simp only [Prod.mk.injEq] at hx
                  obtain ⟨hx1, hx2⟩ := hx
                  have HH := Lib.hid (And.intro e3 hk2)
                  clear e3 hk2
                  have hx1' : x1 = V + 1 := by omega
                  clear hx1
                  subst hx1' hx2
                  go_wp2_with fail
                  generalize hW : World.alloc wr _ = w1
                  have c1 : w1.cell? ⟨wr.heap.size, 0, none⟩ = some (.int .i64 (V + 1)) := by rw [← hW]; simp
                  have c2 : w1.cell? ⟨wr.heap.size, 1, none⟩ = some (.bool true) := by rw [← hW]; simp
                  have hlt1 : wr.heap.size < w1.heap.size := by rw [← hW]; simp
                  have hB1 : Below wr.heap.size wr w1 := by rw [← hW]; exact (Below.refl _ _).alloc (Nat.le_refl _) _
                  clear hW
                  refine (t1.out _).mono ?_
                  rintro e w2 ⟨rfl, hb⟩
                  have d1 := (hb.cell (p := ⟨wr.heap.size, 0, none⟩) hlt1).trans c1
                  have d2 := (hb.cell (p := ⟨wr.heap.size, 1, none⟩) hlt1).trans c2
                  have HB2 := Lib.hid (below_step hB1 hb hB1.size)
                  have HB3 := Lib.hid (below_step HOWN.out.2 HB2.out HOWN.out.2.size)
                  have HR3 := Lib.hid (row_below HOWN.out.1 HB2.out)
                  clear hb hB1 c1 c2 p1
                  go_wp2_with (at_builtin; refine push_throw (x := (V + 1, true)) rfl _ _ rfl rfl w2.heap.size rfl rfl HR3.out HB3.out.size (by omega) ?_; intro v' w' hown' hb')
                  go_roundw
                  case rel => exact ⟨k + 1, by omega, by go_num, fun j hj => TS.out j hj HB1.out, by rw [HS.out]; exact hown', HB3.out.trans hb'⟩
                  case measure => simp [intOf]; omega
              · rcases Nat.mod_two_eq_zero_or_one k with hk2 | hk2
                · rw [e3] at e1
                  rw [hk2] at hkm
                  rw [e3, hk2] at hx
                  simp at hx
                  obtain ⟨x1, x2⟩ := x
                  simp only [Prod.mk.injEq] at hx
                  obtain ⟨hx1, hx2⟩ := hx
                  have HH := Lib.hid (And.intro e3 hk2)
                  clear e3 hk2
                  have hx1' : V = x1 := by omega
                  clear hx1
                  subst hx1' hx2
                  go_wp2_with fail
                  generalize hW : World.alloc wr _ = w1
                  have c1 : w1.cell? ⟨wr.heap.size, 0, none⟩ = some (.int .i64 (V)) := by rw [← hW]; simp
                  have c2 : w1.cell? ⟨wr.heap.size, 1, none⟩ = some (.bool false) := by rw [← hW]; simp
                  have hlt1 : wr.heap.size < w1.heap.size := by rw [← hW]; simp
                  have hB1 : Below wr.heap.size wr w1 := by rw [← hW]; exact (Below.refl _ _).alloc (Nat.le_refl _) _
                  clear hW
                  refine (t1.out _).mono ?_
                  rintro e w2 ⟨rfl, hb⟩
                  have d1 := (hb.cell (p := ⟨wr.heap.size, 0, none⟩) hlt1).trans c1
                  have d2 := (hb.cell (p := ⟨wr.heap.size, 1, none⟩) hlt1).trans c2
                  have HB2 := Lib.hid (below_step hB1 hb hB1.size)
                  have HB3 := Lib.hid (below_step HOWN.out.2 HB2.out HOWN.out.2.size)
                  have HR3 := Lib.hid (row_below HOWN.out.1 HB2.out)
                  clear hb hB1 c1 c2 p1
                  go_wp2_with (at_builtin; refine push_throw (x := (V, false)) rfl _ _ rfl rfl w2.heap.size rfl rfl HR3.out HB3.out.size (by omega) ?_; intro v' w' hown' hb')
                  go_roundw
                  case rel => exact ⟨k + 1, by omega, by go_num, fun j hj => TS.out j hj HB1.out, by rw [HS.out]; exact hown', HB3.out.trans hb'⟩
                  case measure => simp [intOf]; omega
                · rw [e3] at e1
                  rw [hk2] at hkm
                  rw [e3, hk2] at hx
                  simp at hx
                  obtain ⟨x1, x2⟩ := x
                  simp only [Prod.mk.injEq] at hx
                  obtain ⟨hx1, hx2⟩ := hx
                  have HH := Lib.hid (And.intro e3 hk2)
                  clear e3 hk2
                  have hx1' : V = x1 := by omega
                  clear hx1
                  subst hx1' hx2
                  go_wp2_with fail
                  generalize hW : World.alloc wr _ = w1
                  have c1 : w1.cell? ⟨wr.heap.size, 0, none⟩ = some (.int .i64 (V)) := by rw [← hW]; simp
                  have c2 : w1.cell? ⟨wr.heap.size, 1, none⟩ = some (.bool false) := by rw [← hW]; simp
                  have hlt1 : wr.heap.size < w1.heap.size := by rw [← hW]; simp
                  have hB1 : Below wr.heap.size wr w1 := by rw [← hW]; exact (Below.refl _ _).alloc (Nat.le_refl _) _
                  clear hW
                  refine (t1.out _).mono ?_
                  rintro e w2 ⟨rfl, hb⟩
                  have d1 := (hb.cell (p := ⟨wr.heap.size, 0, none⟩) hlt1).trans c1
                  have d2 := (hb.cell (p := ⟨wr.heap.size, 1, none⟩) hlt1).trans c2
                  have HB2 := Lib.hid (below_step hB1 hb hB1.size)
                  have HB3 := Lib.hid (below_step HOWN.out.2 HB2.out HOWN.out.2.size)
                  have HR3 := Lib.hid (row_below HOWN.out.1 HB2.out)
                  clear hb hB1 c1 c2 p1
                  go_wp2_with (at_builtin; refine push_throw (x := (V, false)) rfl _ _ rfl rfl w2.heap.size rfl rfl HR3.out HB3.out.size (by omega) ?_; intro v' w' hown' hb')
                  go_roundw
                  case rel => exact ⟨k + 1, by omega, by go_num, fun j hj => TS.out j hj HB1.out, by rw [HS.out]; exact hown', HB3.out.trans hb'⟩
                  case measure => simp [intOf]; omega
          · obtain rfl : k = A.length := by omega
            have hth := HTH.out
            rename World => wV
            obtain ⟨hT, lT, aT, cT0, hvT, xT⟩ := (ownT_of (m := 1) (by rw [puT_length]; omega) (by omega) HOWN.out.1).rd
            subst hvT
            obtain ⟨bt, ot, rfl, hbt, hct⟩ := xT (by have := h1A.out; omega)
            have HCT := Lib.hid hct
            have HBR := Lib.hid HOWN.out.2
            have hbR := HBR.out.size
            clear hct xT HOWN hB
            go_wp2
            go_loopw [8, 9] (fun o i wr => ∃ k : Nat, k * 2 ≤ A.length ∧ i = .int .i64 ((k * 2 : Nat) : Int) ∧ wr.ownsRow wV.heap.size 40 4 o k (cT (puT A (k * 2))) ∧ Below wV.heap.size wV wr) (fun _ i _ => A.length - (intOf i).toNat)
            case atStart => exact ⟨0, by omega, rfl, sync_made wV, below_sync wV⟩
            case round =>
              obtain ⟨k, hk, rfl, hown, hB⟩ := hrel
              have HOWN := Lib.hid (And.intro hown hB)
              clear hown
              obtain ⟨J, hJ⟩ : ∃ J, J = k * 2 := ⟨_, rfl⟩
              by_cases hlt : k * 2 < A.length
              · have hlt1 : k * 2 + 1 < A.length := by have := hE.out; omega
                have q1 := HCT.out (k * 2) (by omega)
                have q2 := HCT.out (k * 2 + 1) (by omega)
                rw [gt_puT hlt, decide_eq_false (show ¬ k * 2 % 2 = 1 by omega)] at q1
                rw [gt_puT hlt1, decide_eq_true (show (k * 2 + 1) % 2 = 1 by omega)] at q2
                have HS := Lib.hid (puT_two A k)
                obtain ⟨x, hx⟩ : ∃ x, x = bkV (gi A (k * 2)) false := ⟨_, rfl⟩
                obtain ⟨y, hy⟩ : ∃ y, y = bkV (gi A (k * 2 + 1)) true := ⟨_, rfl⟩
                rw [← hx] at q1 HS
                rw [← hy] at q2 HS
                have f := fun o => hB.cell (p := ⟨bt, o, none⟩) hbt
                have r1 := (f _).trans q1.1
                have r2 := (f _).trans q1.2
                have r3 := (f _).trans q2.1
                have r4 := (f _).trans q2.2
                rw [show 2 * (k * 2) = k * 2 * 2 by omega, ← hJ] at r1
                rw [show ot + (2 * (k * 2) + 1) = ot + k * 2 * 2 + 1 by omega, ← hJ] at r2
                rw [show 2 * (k * 2 + 1) = (k * 2 + 1) * 2 by omega, ← hJ] at r3
                rw [show ot + (2 * (k * 2 + 1) + 1) = ot + (k * 2 + 1) * 2 + 1 by omega, ← hJ] at r4
                rw [← hJ]
                have hJ1 : J < A.length := by omega
                have hJ2 : J + 1 < A.length := by omega
                have hi0' : (0 : Int) ≤ (J : Int) := Int.natCast_nonneg _
                have hi1 : (J : Int) < (A.length : Int) := by omega
                have hi2 : (J : Int) + 1 < (A.length : Int) := by omega
                have hi3 : (0 : Int) ≤ (J : Int) + 1 := by omega
                have hw1 : IntKind.i64.wrap ((J : Int) + 1) = (J : Int) + 1 := IntWalk.i64_in _ (by omega)
                have ht1 : ((J : Int) + 1).toNat = J + 1 := by omega
                have HJ := Lib.hid hJ
                have hbr : bt < wr.heap.size := Nat.lt_of_lt_of_le hbt hB.size
                have hrw : ∀ o : Obj, (wr.alloc o).drew.ownsRow wV.heap.size 40 4 u8 k (cT (puT A (k * 2))) := fun o => row_below HOWN.out.1 (((Below.refl _ _).alloc (Nat.le_refl _) o).drew)
                have hBd : ∀ o : Obj, Below wV.heap.size wV (wr.alloc o).drew := fun o => (HOWN.out.2.alloc HOWN.out.2.size o).drew
                have HH := Lib.hid (And.intro hBd hrw)
                clear q1 q2 hx hy hB hJ f hrw hBd
                go_wp2
                go_region_held3 (fun w' => w'.cell? ⟨bt, ot + J * 2, none⟩ = some (.int .i64 x.1) ∧ w'.cell? ⟨bt, ot + J * 2 + 1, none⟩ = some (.bool x.2) ∧ w'.cell? ⟨bt, ot + (J + 1) * 2, none⟩ = some (.int .i64 y.1) ∧ w'.cell? ⟨bt, ot + (J + 1) * 2 + 1, none⟩ = some (.bool y.2))
                  (first
                    | go_keep
                    | (go_split_ands
                       refine ⟨?_, ?_, ?_, ?_⟩ <;> (rw [hb'.cell (p := ⟨bt, _, none⟩) hbt]; assumption)))
                  ((refine step_push_sync (x := x) (y := y) (by rfl) _ _ (by rfl) (by rfl) wr.heap.size (by rfl) (heap_alloc_new wr _) (HH.out.2 _) (HH.out.1 _).size (by omega) ?_; intro v' w' hown' hb'))
                all_goals
                  have H3 := Lib.hid (And.intro hown' ((HH.out.1 _).trans hb'))
                  clear hown' hb'
                  go_wp2
                  go_roundw
                  case rel => exact ⟨k + 1, by omega, vint (by have := HJ.out; omega), by rw [HS.out]; exact H3.out.1, H3.out.2⟩
                  case measure => simp [intOf]; omega
              · have hk2 : k * 2 = A.length := by omega
                have HG := Lib.hid (pu_good Hval.out HD.out hA12 hth)
                have HK := Lib.hid (show A.length / 2 = k by omega)
                rw [← hJ] at ⊢ hlt
                have hJA : ¬ J < A.length := hlt
                clear hk2 hB hJ hth
                go_wp2
                go_ret2
                exact ⟨_, ret2 rfl (vint HG.out.1.symm), by rw [HG.out.2.1, HG.out.2.2, HK.out]; exact (ownT_of (by rw [puT_length]) (by omega) HOWN.out.1).mono (Nat.le_trans hbU hbR) (Nat.le_refl _), below_step HBU.out (below_step HBR.out HOWN.out.2 hbR) hbU⟩
      · have HA12 : Hid (12 < (p ++ p).length) := by show 12 < (p ++ p).length; rw [HL.out]; omega
        have HR := Lib.hid (pu_full Hval.out (by rw [← HD.out]; exact HA12.out))
        clear h6
        go_enter Try.func7, Try.ntmps7
        go_wp2_with fail
        refine hv.out.mono ?_
        rintro e w' ⟨rfl, hb0⟩
        go_wp2_with fail
        refine (hrep.out h12 _ hb0).mono ?_
        rintro e wU ⟨u, rfl, hu, hb1⟩
        have HBU := Lib.hid (below_step hb0 hb1 hb0.size)
        obtain ⟨A, hA⟩ : ∃ A, A = p ++ p := ⟨_, rfl⟩
        rw [← hA] at hu HBD HD HL HA12
        have hA12 := HA12.out
        obtain ⟨laA, ga, gc, hvA, haA⟩ := hu.rd
        subst hvA
        clear hb0 hb1 hu hA
        go_wp2
        go_ret2
        exact ⟨_, ret2 rfl (vint HR.out.1.symm), by rw [HR.out.2.1, HR.out.2.2]; exact ownT_nil _ _ _ _ _, HBU.out⟩
    · have HBD := Lib.hid hbd
      have HD := Lib.hid (dbl_even hodd)
      have he2 : p.length % 2 = 0 := by omega
      rw [he2, Int.natCast_zero] at hm2
      have hE := Lib.hid he2
      have h1A := Lib.hid h1
      have hA12 := h12
      clear hodd he2 hbd
      go_enter Try.func7, Try.ntmps7
      go_wp2_with fail
      refine hv.out.mono ?_
      rintro e wU ⟨rfl, hb0⟩
      have HBU := Lib.hid hb0
      have haA : p.length ≠ 0 → ∃ b o, a0 = some ⟨b, o, none⟩ ∧ b < wU.heap.size ∧ ∀ j, j < p.length → wU.cell? ⟨b, o + j, none⟩ = some (.int .i64 (gi p j)) := fun hn => by
        obtain ⟨b, o, he, hlt, hc⟩ := ha hn
        exact ⟨b, o, he, Nat.lt_of_lt_of_le hlt hb0.size, fun j hj => (hb0.cell (p := ⟨b, o + j, none⟩) hlt).trans (hc j hj)⟩
      clear ha hb0 la h1
      obtain ⟨ba, oa, hga, hba, hca⟩ := haA (by have := h1A.out; omega)
      subst hga
      have HCA := Lib.hid hca
      have hbU := HBU.out.size
      clear haA hca
      go_wp2
      go_loopw [4, 25] (fun o i wr => ∃ k : Nat, k ≤ p.length ∧ i = .int .i64 k ∧ (∀ j, j < k → thS (bkV (gi p j) (decide (j % 2 = 1))) = true) ∧ wr.ownsRow wU.heap.size 36 2 o k (cT (puT p k)) ∧ Below wU.heap.size wU wr) (fun _ i _ => p.length - (intOf i).toNat)
      case atStart => exact ⟨0, by omega, rfl, fun j hj => absurd hj (by omega), throw_made wU, (Below.refl _ _).alloc (Nat.le_refl _) _⟩
      case round =>
        obtain ⟨k, hk, rfl, hth, hown, hB⟩ := hrel
        have HTH := Lib.hid hth
        have HOWN := Lib.hid (And.intro hown hB)
        clear hth hown
        by_cases hlt : k < p.length
        · have p1 := (hB.cell (p := ⟨ba, oa + k, none⟩) hba).trans (HCA.out _ hlt)
          have b1 := HBD.out _ hlt
          have HS := Lib.hid (puT_one p k)
          have hkm := nm2 k
          have e1 : (gi p k).tmod 2 = gi p k % 2 := Int.tmod_eq_emod_of_nonneg b1.1
          have e3 : gi p k % 2 = 1 ∨ gi p k % 2 = 0 := by omega
          have LX : Hid (thS (bkV (gi p k) (decide (k % 2 = 1))) = false → puC p = 10 ∧ puN p = 0 ∧ puL p = []) := fun h => pu_lost Hval.out HD.out hA12 hlt h
          have TS : Hid (∀ j, j < k + 1 → thS (bkV (gi p k) (decide (k % 2 = 1))) = true → thS (bkV (gi p j) (decide (j % 2 = 1))) = true) := fun j hj h => by
            by_cases hj1 : j < k
            · exact HTH.out j hj1
            · rw [show j = k by omega]; exact h
          obtain ⟨x, hx⟩ : ∃ x, x = bkV (gi p k) (decide (k % 2 = 1)) := ⟨_, rfl⟩
          have t1 := Lib.hid (fun W => isSyncThrow_any x.1 x.2 W)
          rw [← hx] at LX TS HS
          have HX := Lib.hid hx
          rw [bkV] at hx
          have HK := Lib.hid b1
          obtain ⟨V, hV⟩ : ∃ V, V = gi p k := ⟨_, rfl⟩
          rw [← hV] at p1 e1 e3 hx b1
          clear hV hB HK
          cases hb1 : thS x
          · rw [show thS (x.1, x.2) = _ from hb1] at t1
            have HB1 := Lib.hid hb1
            clear hb1
            rcases e3 with e3 | e3
            · rcases Nat.mod_two_eq_zero_or_one k with hk2 | hk2
              · rw [e3] at e1
                rw [hk2] at hkm
                rw [e3, hk2] at hx
                simp at hx
                obtain ⟨x1, x2⟩ := x
                simp only [Prod.mk.injEq] at hx
                obtain ⟨hx1, hx2⟩ := hx
                have HH := Lib.hid (And.intro e3 hk2)
                clear e3 hk2
                have hx1' : x1 = V + -1 := by omega
                clear hx1
                subst hx1' hx2
                go_wp2_with fail
                generalize hW : World.alloc wr _ = w1
                have c1 : w1.cell? ⟨wr.heap.size, 0, none⟩ = some (.int .i64 (V + -1)) := by rw [← hW]; simp
                have c2 : w1.cell? ⟨wr.heap.size, 1, none⟩ = some (.bool true) := by rw [← hW]; simp
                have hlt1 : wr.heap.size < w1.heap.size := by rw [← hW]; simp
                have hB1 : Below wr.heap.size wr w1 := by rw [← hW]; exact (Below.refl _ _).alloc (Nat.le_refl _) _
                clear hW
                refine (t1.out _).mono ?_
                rintro e w2 ⟨rfl, hb⟩
                have d1 := (hb.cell (p := ⟨wr.heap.size, 0, none⟩) hlt1).trans c1
                have d2 := (hb.cell (p := ⟨wr.heap.size, 1, none⟩) hlt1).trans c2
                have HB2 := Lib.hid (below_step hB1 hb hB1.size)
                have HB3 := Lib.hid (below_step HOWN.out.2 HB2.out HOWN.out.2.size)
                have HR3 := Lib.hid (row_below HOWN.out.1 HB2.out)
                clear hb hB1 c1 c2 p1
                go_wp2
                go_ret2
                exact ⟨_, ret2 rfl (vint (LX.out HB1.out).1.symm), by rw [(LX.out HB1.out).2.1, (LX.out HB1.out).2.2]; exact ownT_nil _ _ _ _ _, below_step HBU.out HB3.out HBU.out.size⟩
              · rw [e3] at e1
                rw [hk2] at hkm
                rw [e3, hk2] at hx
                simp at hx
                obtain ⟨x1, x2⟩ := x
                simp only [Prod.mk.injEq] at hx
                obtain ⟨hx1, hx2⟩ := hx
                have HH := Lib.hid (And.intro e3 hk2)
                clear e3 hk2
                have hx1' : x1 = V + 1 := by omega
                clear hx1
                subst hx1' hx2
                go_wp2_with fail
                generalize hW : World.alloc wr _ = w1
                have c1 : w1.cell? ⟨wr.heap.size, 0, none⟩ = some (.int .i64 (V + 1)) := by rw [← hW]; simp
                have c2 : w1.cell? ⟨wr.heap.size, 1, none⟩ = some (.bool true) := by rw [← hW]; simp
                have hlt1 : wr.heap.size < w1.heap.size := by rw [← hW]; simp
                have hB1 : Below wr.heap.size wr w1 := by rw [← hW]; exact (Below.refl _ _).alloc (Nat.le_refl _) _
                clear hW
                refine (t1.out _).mono ?_
                rintro e w2 ⟨rfl, hb⟩
                have d1 := (hb.cell (p := ⟨wr.heap.size, 0, none⟩) hlt1).trans c1
                have d2 := (hb.cell (p := ⟨wr.heap.size, 1, none⟩) hlt1).trans c2
                have HB2 := Lib.hid (below_step hB1 hb hB1.size)
                have HB3 := Lib.hid (below_step HOWN.out.2 HB2.out HOWN.out.2.size)
                have HR3 := Lib.hid (row_below HOWN.out.1 HB2.out)
                clear hb hB1 c1 c2 p1
                go_wp2
                go_ret2
                exact ⟨_, ret2 rfl (vint (LX.out HB1.out).1.symm), by rw [(LX.out HB1.out).2.1, (LX.out HB1.out).2.2]; exact ownT_nil _ _ _ _ _, below_step HBU.out HB3.out HBU.out.size⟩
            · rcases Nat.mod_two_eq_zero_or_one k with hk2 | hk2
              · rw [e3] at e1
                rw [hk2] at hkm
                rw [e3, hk2] at hx
                simp at hx
                obtain ⟨x1, x2⟩ := x
                simp only [Prod.mk.injEq] at hx
                obtain ⟨hx1, hx2⟩ := hx
                have HH := Lib.hid (And.intro e3 hk2)
                clear e3 hk2
                have hx1' : V = x1 := by omega
                clear hx1
                subst hx1' hx2
                go_wp2_with fail
                generalize hW : World.alloc wr _ = w1
                have c1 : w1.cell? ⟨wr.heap.size, 0, none⟩ = some (.int .i64 (V)) := by rw [← hW]; simp
                have c2 : w1.cell? ⟨wr.heap.size, 1, none⟩ = some (.bool false) := by rw [← hW]; simp
                have hlt1 : wr.heap.size < w1.heap.size := by rw [← hW]; simp
                have hB1 : Below wr.heap.size wr w1 := by rw [← hW]; exact (Below.refl _ _).alloc (Nat.le_refl _) _
                clear hW
                refine (t1.out _).mono ?_
                rintro e w2 ⟨rfl, hb⟩
                have d1 := (hb.cell (p := ⟨wr.heap.size, 0, none⟩) hlt1).trans c1
                have d2 := (hb.cell (p := ⟨wr.heap.size, 1, none⟩) hlt1).trans c2
                have HB2 := Lib.hid (below_step hB1 hb hB1.size)
                have HB3 := Lib.hid (below_step HOWN.out.2 HB2.out HOWN.out.2.size)
                have HR3 := Lib.hid (row_below HOWN.out.1 HB2.out)
                clear hb hB1 c1 c2 p1
                go_wp2
                go_ret2
                exact ⟨_, ret2 rfl (vint (LX.out HB1.out).1.symm), by rw [(LX.out HB1.out).2.1, (LX.out HB1.out).2.2]; exact ownT_nil _ _ _ _ _, below_step HBU.out HB3.out HBU.out.size⟩
              · rw [e3] at e1
                rw [hk2] at hkm
                rw [e3, hk2] at hx
                simp at hx
                obtain ⟨x1, x2⟩ := x
                simp only [Prod.mk.injEq] at hx
                obtain ⟨hx1, hx2⟩ := hx
                have HH := Lib.hid (And.intro e3 hk2)
                clear e3 hk2
                have hx1' : V = x1 := by omega
                clear hx1
                subst hx1' hx2
                go_wp2_with fail
                generalize hW : World.alloc wr _ = w1
                have c1 : w1.cell? ⟨wr.heap.size, 0, none⟩ = some (.int .i64 (V)) := by rw [← hW]; simp
                have c2 : w1.cell? ⟨wr.heap.size, 1, none⟩ = some (.bool false) := by rw [← hW]; simp
                have hlt1 : wr.heap.size < w1.heap.size := by rw [← hW]; simp
                have hB1 : Below wr.heap.size wr w1 := by rw [← hW]; exact (Below.refl _ _).alloc (Nat.le_refl _) _
                clear hW
                refine (t1.out _).mono ?_
                rintro e w2 ⟨rfl, hb⟩
                have d1 := (hb.cell (p := ⟨wr.heap.size, 0, none⟩) hlt1).trans c1
                have d2 := (hb.cell (p := ⟨wr.heap.size, 1, none⟩) hlt1).trans c2
                have HB2 := Lib.hid (below_step hB1 hb hB1.size)
                have HB3 := Lib.hid (below_step HOWN.out.2 HB2.out HOWN.out.2.size)
                have HR3 := Lib.hid (row_below HOWN.out.1 HB2.out)
                clear hb hB1 c1 c2 p1
                go_wp2
                go_ret2
                exact ⟨_, ret2 rfl (vint (LX.out HB1.out).1.symm), by rw [(LX.out HB1.out).2.1, (LX.out HB1.out).2.2]; exact ownT_nil _ _ _ _ _, below_step HBU.out HB3.out HBU.out.size⟩
          · rw [show thS (x.1, x.2) = _ from hb1] at t1
            have HB1 := Lib.hid hb1
            clear hb1
            rcases e3 with e3 | e3
            · rcases Nat.mod_two_eq_zero_or_one k with hk2 | hk2
              · rw [e3] at e1
                rw [hk2] at hkm
                rw [e3, hk2] at hx
                simp at hx
                obtain ⟨x1, x2⟩ := x
                simp only [Prod.mk.injEq] at hx
                obtain ⟨hx1, hx2⟩ := hx
                have HH := Lib.hid (And.intro e3 hk2)
                clear e3 hk2
                have hx1' : x1 = V + -1 := by omega
                clear hx1
                subst hx1' hx2
                go_wp2_with fail
                generalize hW : World.alloc wr _ = w1
                have c1 : w1.cell? ⟨wr.heap.size, 0, none⟩ = some (.int .i64 (V + -1)) := by rw [← hW]; simp
                have c2 : w1.cell? ⟨wr.heap.size, 1, none⟩ = some (.bool true) := by rw [← hW]; simp
                have hlt1 : wr.heap.size < w1.heap.size := by rw [← hW]; simp
                have hB1 : Below wr.heap.size wr w1 := by rw [← hW]; exact (Below.refl _ _).alloc (Nat.le_refl _) _
                clear hW
                refine (t1.out _).mono ?_
                rintro e w2 ⟨rfl, hb⟩
                have d1 := (hb.cell (p := ⟨wr.heap.size, 0, none⟩) hlt1).trans c1
                have d2 := (hb.cell (p := ⟨wr.heap.size, 1, none⟩) hlt1).trans c2
                have HB2 := Lib.hid (below_step hB1 hb hB1.size)
                have HB3 := Lib.hid (below_step HOWN.out.2 HB2.out HOWN.out.2.size)
                have HR3 := Lib.hid (row_below HOWN.out.1 HB2.out)
                clear hb hB1 c1 c2 p1
                go_wp2_with (at_builtin; refine push_throw (x := (V + -1, true)) rfl _ _ rfl rfl w2.heap.size rfl rfl HR3.out HB3.out.size (by omega) ?_; intro v' w' hown' hb')
                go_roundw
                case rel => exact ⟨k + 1, by omega, by go_num, fun j hj => TS.out j hj HB1.out, by rw [HS.out]; exact hown', HB3.out.trans hb'⟩
                case measure => simp [intOf]; omega
              · rw [e3] at e1
                rw [hk2] at hkm
                rw [e3, hk2] at hx
                simp at hx
                obtain ⟨x1, x2⟩ := x
                simp only [Prod.mk.injEq] at hx
                obtain ⟨hx1, hx2⟩ := hx
                have HH := Lib.hid (And.intro e3 hk2)
                clear e3 hk2
                have hx1' : x1 = V + 1 := by omega
                clear hx1
                subst hx1' hx2
                go_wp2_with fail
                generalize hW : World.alloc wr _ = w1
                have c1 : w1.cell? ⟨wr.heap.size, 0, none⟩ = some (.int .i64 (V + 1)) := by rw [← hW]; simp
                have c2 : w1.cell? ⟨wr.heap.size, 1, none⟩ = some (.bool true) := by rw [← hW]; simp
                have hlt1 : wr.heap.size < w1.heap.size := by rw [← hW]; simp
                have hB1 : Below wr.heap.size wr w1 := by rw [← hW]; exact (Below.refl _ _).alloc (Nat.le_refl _) _
                clear hW
                refine (t1.out _).mono ?_
                rintro e w2 ⟨rfl, hb⟩
                have d1 := (hb.cell (p := ⟨wr.heap.size, 0, none⟩) hlt1).trans c1
                have d2 := (hb.cell (p := ⟨wr.heap.size, 1, none⟩) hlt1).trans c2
                have HB2 := Lib.hid (below_step hB1 hb hB1.size)
                have HB3 := Lib.hid (below_step HOWN.out.2 HB2.out HOWN.out.2.size)
                have HR3 := Lib.hid (row_below HOWN.out.1 HB2.out)
                clear hb hB1 c1 c2 p1
                go_wp2_with (at_builtin; refine push_throw (x := (V + 1, true)) rfl _ _ rfl rfl w2.heap.size rfl rfl HR3.out HB3.out.size (by omega) ?_; intro v' w' hown' hb')
                go_roundw
                case rel => exact ⟨k + 1, by omega, by go_num, fun j hj => TS.out j hj HB1.out, by rw [HS.out]; exact hown', HB3.out.trans hb'⟩
                case measure => simp [intOf]; omega
            · rcases Nat.mod_two_eq_zero_or_one k with hk2 | hk2
              · rw [e3] at e1
                rw [hk2] at hkm
                rw [e3, hk2] at hx
                simp at hx
                obtain ⟨x1, x2⟩ := x
                simp only [Prod.mk.injEq] at hx
                obtain ⟨hx1, hx2⟩ := hx
                have HH := Lib.hid (And.intro e3 hk2)
                clear e3 hk2
                have hx1' : V = x1 := by omega
                clear hx1
                subst hx1' hx2
                go_wp2_with fail
                generalize hW : World.alloc wr _ = w1
                have c1 : w1.cell? ⟨wr.heap.size, 0, none⟩ = some (.int .i64 (V)) := by rw [← hW]; simp
                have c2 : w1.cell? ⟨wr.heap.size, 1, none⟩ = some (.bool false) := by rw [← hW]; simp
                have hlt1 : wr.heap.size < w1.heap.size := by rw [← hW]; simp
                have hB1 : Below wr.heap.size wr w1 := by rw [← hW]; exact (Below.refl _ _).alloc (Nat.le_refl _) _
                clear hW
                refine (t1.out _).mono ?_
                rintro e w2 ⟨rfl, hb⟩
                have d1 := (hb.cell (p := ⟨wr.heap.size, 0, none⟩) hlt1).trans c1
                have d2 := (hb.cell (p := ⟨wr.heap.size, 1, none⟩) hlt1).trans c2
                have HB2 := Lib.hid (below_step hB1 hb hB1.size)
                have HB3 := Lib.hid (below_step HOWN.out.2 HB2.out HOWN.out.2.size)
                have HR3 := Lib.hid (row_below HOWN.out.1 HB2.out)
                clear hb hB1 c1 c2 p1
                go_wp2_with (at_builtin; refine push_throw (x := (V, false)) rfl _ _ rfl rfl w2.heap.size rfl rfl HR3.out HB3.out.size (by omega) ?_; intro v' w' hown' hb')
                go_roundw
                case rel => exact ⟨k + 1, by omega, by go_num, fun j hj => TS.out j hj HB1.out, by rw [HS.out]; exact hown', HB3.out.trans hb'⟩
                case measure => simp [intOf]; omega
              · rw [e3] at e1
                rw [hk2] at hkm
                rw [e3, hk2] at hx
                simp at hx
                obtain ⟨x1, x2⟩ := x
                simp only [Prod.mk.injEq] at hx
                obtain ⟨hx1, hx2⟩ := hx
                have HH := Lib.hid (And.intro e3 hk2)
                clear e3 hk2
                have hx1' : V = x1 := by omega
                clear hx1
                subst hx1' hx2
                go_wp2_with fail
                generalize hW : World.alloc wr _ = w1
                have c1 : w1.cell? ⟨wr.heap.size, 0, none⟩ = some (.int .i64 (V)) := by rw [← hW]; simp
                have c2 : w1.cell? ⟨wr.heap.size, 1, none⟩ = some (.bool false) := by rw [← hW]; simp
                have hlt1 : wr.heap.size < w1.heap.size := by rw [← hW]; simp
                have hB1 : Below wr.heap.size wr w1 := by rw [← hW]; exact (Below.refl _ _).alloc (Nat.le_refl _) _
                clear hW
                refine (t1.out _).mono ?_
                rintro e w2 ⟨rfl, hb⟩
                have d1 := (hb.cell (p := ⟨wr.heap.size, 0, none⟩) hlt1).trans c1
                have d2 := (hb.cell (p := ⟨wr.heap.size, 1, none⟩) hlt1).trans c2
                have HB2 := Lib.hid (below_step hB1 hb hB1.size)
                have HB3 := Lib.hid (below_step HOWN.out.2 HB2.out HOWN.out.2.size)
                have HR3 := Lib.hid (row_below HOWN.out.1 HB2.out)
                clear hb hB1 c1 c2 p1
                go_wp2_with (at_builtin; refine push_throw (x := (V, false)) rfl _ _ rfl rfl w2.heap.size rfl rfl HR3.out HB3.out.size (by omega) ?_; intro v' w' hown' hb')
                go_roundw
                case rel => exact ⟨k + 1, by omega, by go_num, fun j hj => TS.out j hj HB1.out, by rw [HS.out]; exact hown', HB3.out.trans hb'⟩
                case measure => simp [intOf]; omega
        · obtain rfl : k = p.length := by omega
          have hth := HTH.out
          rename World => wV
          obtain ⟨hT, lT, aT, cT0, hvT, xT⟩ := (ownT_of (m := 1) (by rw [puT_length]; omega) (by omega) HOWN.out.1).rd
          subst hvT
          obtain ⟨bt, ot, rfl, hbt, hct⟩ := xT (by have := h1A.out; omega)
          have HCT := Lib.hid hct
          have HBR := Lib.hid HOWN.out.2
          have hbR := HBR.out.size
          clear hct xT HOWN hB
          go_wp2
          go_loopw [8, 9] (fun o i wr => ∃ k : Nat, k * 2 ≤ p.length ∧ i = .int .i64 ((k * 2 : Nat) : Int) ∧ wr.ownsRow wV.heap.size 40 4 o k (cT (puT p (k * 2))) ∧ Below wV.heap.size wV wr) (fun _ i _ => p.length - (intOf i).toNat)
          case atStart => exact ⟨0, by omega, rfl, sync_made wV, below_sync wV⟩
          case round =>
            obtain ⟨k, hk, rfl, hown, hB⟩ := hrel
            have HOWN := Lib.hid (And.intro hown hB)
            clear hown
            obtain ⟨J, hJ⟩ : ∃ J, J = k * 2 := ⟨_, rfl⟩
            by_cases hlt : k * 2 < p.length
            · have hlt1 : k * 2 + 1 < p.length := by have := hE.out; omega
              have q1 := HCT.out (k * 2) (by omega)
              have q2 := HCT.out (k * 2 + 1) (by omega)
              rw [gt_puT hlt, decide_eq_false (show ¬ k * 2 % 2 = 1 by omega)] at q1
              rw [gt_puT hlt1, decide_eq_true (show (k * 2 + 1) % 2 = 1 by omega)] at q2
              have HS := Lib.hid (puT_two p k)
              obtain ⟨x, hx⟩ : ∃ x, x = bkV (gi p (k * 2)) false := ⟨_, rfl⟩
              obtain ⟨y, hy⟩ : ∃ y, y = bkV (gi p (k * 2 + 1)) true := ⟨_, rfl⟩
              rw [← hx] at q1 HS
              rw [← hy] at q2 HS
              have f := fun o => hB.cell (p := ⟨bt, o, none⟩) hbt
              have r1 := (f _).trans q1.1
              have r2 := (f _).trans q1.2
              have r3 := (f _).trans q2.1
              have r4 := (f _).trans q2.2
              rw [show 2 * (k * 2) = k * 2 * 2 by omega, ← hJ] at r1
              rw [show ot + (2 * (k * 2) + 1) = ot + k * 2 * 2 + 1 by omega, ← hJ] at r2
              rw [show 2 * (k * 2 + 1) = (k * 2 + 1) * 2 by omega, ← hJ] at r3
              rw [show ot + (2 * (k * 2 + 1) + 1) = ot + (k * 2 + 1) * 2 + 1 by omega, ← hJ] at r4
              rw [← hJ]
              have hJ1 : J < p.length := by omega
              have hJ2 : J + 1 < p.length := by omega
              have hi0' : (0 : Int) ≤ (J : Int) := Int.natCast_nonneg _
              have hi1 : (J : Int) < (p.length : Int) := by omega
              have hi2 : (J : Int) + 1 < (p.length : Int) := by omega
              have hi3 : (0 : Int) ≤ (J : Int) + 1 := by omega
              have hw1 : IntKind.i64.wrap ((J : Int) + 1) = (J : Int) + 1 := IntWalk.i64_in _ (by omega)
              have ht1 : ((J : Int) + 1).toNat = J + 1 := by omega
              have HJ := Lib.hid hJ
              have hbr : bt < wr.heap.size := Nat.lt_of_lt_of_le hbt hB.size
              have hrw : ∀ o : Obj, (wr.alloc o).drew.ownsRow wV.heap.size 40 4 u8 k (cT (puT p (k * 2))) := fun o => row_below HOWN.out.1 (((Below.refl _ _).alloc (Nat.le_refl _) o).drew)
              have hBd : ∀ o : Obj, Below wV.heap.size wV (wr.alloc o).drew := fun o => (HOWN.out.2.alloc HOWN.out.2.size o).drew
              have HH := Lib.hid (And.intro hBd hrw)
              clear q1 q2 hx hy hB hJ f hrw hBd
              go_wp2
              go_region_held3 (fun w' => w'.cell? ⟨bt, ot + J * 2, none⟩ = some (.int .i64 x.1) ∧ w'.cell? ⟨bt, ot + J * 2 + 1, none⟩ = some (.bool x.2) ∧ w'.cell? ⟨bt, ot + (J + 1) * 2, none⟩ = some (.int .i64 y.1) ∧ w'.cell? ⟨bt, ot + (J + 1) * 2 + 1, none⟩ = some (.bool y.2))
                (first
                  | go_keep
                  | (go_split_ands
                     refine ⟨?_, ?_, ?_, ?_⟩ <;> (rw [hb'.cell (p := ⟨bt, _, none⟩) hbt]; assumption)))
                ((refine step_push_sync (x := x) (y := y) (by rfl) _ _ (by rfl) (by rfl) wr.heap.size (by rfl) (heap_alloc_new wr _) (HH.out.2 _) (HH.out.1 _).size (by omega) ?_; intro v' w' hown' hb'))
              all_goals
                have H3 := Lib.hid (And.intro hown' ((HH.out.1 _).trans hb'))
                clear hown' hb'
                go_wp2
                go_roundw
                case rel => exact ⟨k + 1, by omega, vint (by have := HJ.out; omega), by rw [HS.out]; exact H3.out.1, H3.out.2⟩
                case measure => simp [intOf]; omega
            · have hk2 : k * 2 = p.length := by omega
              have HG := Lib.hid (pu_good Hval.out HD.out hA12 hth)
              have HK := Lib.hid (show p.length / 2 = k by omega)
              rw [← hJ] at ⊢ hlt
              have hJA : ¬ J < p.length := hlt
              clear hk2 hB hJ hth
              go_wp2
              go_ret2
              exact ⟨_, ret2 rfl (vint HG.out.1.symm), by rw [HG.out.2.1, HG.out.2.2, HK.out]; exact (ownT_of (by rw [puT_length]) (by omega) HOWN.out.1).mono (Nat.le_trans hbU hbR) (Nat.le_refl _), below_step HBU.out (below_step HBR.out HOWN.out.2 hbR) hbU⟩
end Go.Proofs.Ytncfnbkddpdedaa
