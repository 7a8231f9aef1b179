/-
  The reference's sorting of the throws of a beat (chapter 4). No condition beyond each contract's own.
-/
import Derived.Test.YtloebbeaccjgjaaL02
import Derived.Deep.RegionLaw
import Derived.Deep.RegionHeld3
import Derived.Lib.SmallJoins
import Derived.Deep.AppendLies
namespace Go.Proofs.Ytloebbeaccjgjaa
open Go.ChangeShapes Go.WideShapes Go.ChangeAt Go.RowKit


/-- The throws that are not 0. -/
def nzL (L : List Int) : List Int := L.filter fun x => decide (0 < x)
/-- .. in falling order. -/
def srtL (L : List Int) : List Int := (nzL L).mergeSort fun x y => decide (y ≤ x)
/-- A beat's throws: 0 alone if there are no others. -/
def srtB (L : List Int) : List Int := if srtL L = [] then [0] else srtL L
def Desc (M : List Int) : Prop := M.Pairwise fun a b => b ≤ a
theorem nz_pos {L : List Int} {k : Nat} (h : k < L.length) (hp : 0 < gi L k) : nzL (L.take (k + 1)) = nzL (L.take k) ++ [gi L k] := by
  rw [take_gi h, nzL, List.filter_append, nzL]
  simp [hp]
theorem nz_zero {L : List Int} {k : Nat} (h : k < L.length) (hp : ¬ 0 < gi L k) : nzL (L.take (k + 1)) = nzL (L.take k) := by
  rw [take_gi h, nzL, List.filter_append, nzL]
  simp [hp]
theorem nz_len (L : List Int) (k : Nat) : (nzL (L.take k)).length ≤ L.length := by
  have h1 := List.length_filter_le (fun x => decide (0 < x)) (L.take k)
  have h2 : (L.take k).length ≤ L.length := by simp; omega
  unfold nzL
  omega
theorem srt_unique {M L : List Int} (h : Desc M) (hp : M.Perm (nzL L)) : M = srtL L := by
  refine List.Perm.eq_of_pairwise (le := fun a b => b ≤ a) (fun a b _ _ h1 h2 => by omega) h ?_ (hp.trans (List.mergeSort_perm _ _).symm)
  have := List.pairwise_mergeSort (le := fun x y => decide (y ≤ x)) (fun a b c h1 h2 => by simp at h1 h2 ⊢; omega) (fun a b => by simp; omega) (nzL L)
  exact this.imp (fun h => by simpa using h)
theorem desc_at {M : List Int} (h : Desc M) {i j : Nat} (hij : i < j) (hj : j < M.length) : gi M j ≤ gi M i := by
  rw [gi_eq hj, gi_eq (by omega)]
  exact List.pairwise_iff_getElem.1 h i j (by omega) hj hij
/-- A throw put in behind all that are not smaller. -/
theorem desc_ins {M : List Int} {x : Int} {j : Nat} (h : Desc M) (hj : j ≤ M.length) (hl : j = 0 ∨ x ≤ gi M (j - 1)) (hr : ∀ m, j ≤ m → m < M.length → gi M m < x) : Desc ((M.take j ++ [x]) ++ M.drop j) := by
  have h' := h
  unfold Desc at h h' ⊢
  rw [← List.take_append_drop j M, List.pairwise_append] at h
  obtain ⟨h1, h2, h3⟩ := h
  have hx : ∀ a ∈ M.take j, x ≤ a := by
    intro a ha
    obtain ⟨m, hm, rfl⟩ := List.mem_iff_getElem.1 ha
    have hm' : m < j := by simp at hm; omega
    rw [List.getElem_take, ← gi_eq (by omega)]
    rcases hl with hl | hl
    · omega
    · by_cases e : m = j - 1
      · rw [e]; exact hl
      · exact Int.le_trans hl (desc_at h' (by omega) (by omega))
  have hy : ∀ b ∈ M.drop j, b ≤ x := by
    intro b hb
    obtain ⟨m, hm, rfl⟩ := List.mem_iff_getElem.1 hb
    have hm' : j + m < M.length := by simp at hm; omega
    rw [List.getElem_drop, ← gi_eq hm']
    exact Int.le_of_lt (hr _ (by omega) hm')
  rw [List.pairwise_append, List.pairwise_append]
  refine ⟨⟨h1, by simp, fun a ha b hb => by simp at hb; subst hb; exact hx a ha⟩, h2, fun a ha b hb => ?_⟩
  rcases List.mem_append.1 ha with ha | ha
  · exact h3 a ha b hb
  · simp at ha; subst ha; exact hy b hb
theorem perm_ins {M N : List Int} {x : Int} (j : Nat) (h : M.Perm N) : ((M.take j ++ [x]) ++ M.drop j).Perm (N ++ [x]) := by
  have h1 : ((M.take j ++ [x]) ++ M.drop j).Perm ((M.take j ++ M.drop j) ++ [x]) := by
    rw [List.append_assoc, List.append_assoc]
    exact List.Perm.append_left _ List.perm_append_comm
  rw [List.take_append_drop] at h1
  exact h1.trans (h.append_right _)

/-- 'append(s, x)' of one number, as a step of a region that draws its order. -/
theorem step_push_i {ops : Array Oper} {o : Oper} {a : Act} {K : Act → World → Prop} {Q : Exit → Act → World → Prop} {E : Prop} {w : World} {lo n : Nat} {v : Value} {zs : List Int} {x : Int}
    (hgd : o.guard = none) (s xo : Operand) (ho : o.op = .call { callee := .builtin .append, args := #[s, xo], argTypes := #[22, 22] })
    (hs : a.eval s = v) (B : Nat) (hx : a.eval xo = .slice (some ⟨B, 0, none⟩) 1 1) (hB : w.heap[B]? = some (.cells #[.int .i64 x] 2 (0, 0)))
    (hown : w.ownsRow lo 2 1 v n (zs.map (Value.int .i64))) (hlo : lo ≤ w.heap.size) (hl : n ≤ 1000000000)
    (h : ∀ v' w', w'.ownsRow lo 2 1 v' (n + 1) ((zs ++ [x]).map (Value.int .i64)) → Below lo w w' → K (a.put o.dst v') w') :
    if Region.wanted o (yielded ops a.tmps) = true then Oper.wp Try.prog o a w K Q else E := by
  obtain ⟨i0, hi, hz0, hz1, hz2⟩ := info_parts Try.infoInt64
  have hw : Region.wanted o (yielded ops a.tmps) = true := by simp [Region.wanted, hgd]
  rw [if_pos hw]
  refine wp_append_own w s xo 22 ho lo 2 i0 (.int .i64 0) 1 8 Try.underlying22 hi hz0 hz1 hz2 rfl (by decide) v n _ hs hown ⟨B, 0, none⟩ 1 1 [.int .i64 x] hx rfl (World.news_of_block hB) (by intro u hu; simp at hu; subst hu; rfl) (by unfold maxLen; omega) (by omega) (by omega) ?_
  intro v' w' hown' hg _
  refine h v' w' (by simpa using hown') ?_
  exact (Below.refl _ _).grown hg (by omega) (fun k hk => by have := (hown.lt k hk).1; omega)

theorem own_one1 (w : World) (x : Int) : (w.alloc (.cells #[.int .i64 x] 2)).ownsRow w.heap.size 2 1 (.slice (some ⟨w.heap.size, 0, none⟩) [x].length 1) [x].length ([x].map (Value.int .i64)) :=
  ⟨by simp, .inr ⟨w.heap.size, 1, #[.int .i64 x], rfl, Nat.le_refl _, heap_alloc_new w _, by simp, by decide, by simp, by simp⟩⟩

theorem hn1 (w : World) (o : Obj) (B : Nat) (h : B = w.heap.size) : (w.alloc o).heap[B]? = some o := by subst h; exact heap_alloc_new _ _
/-- 'append(out, ys...)', the number of what is appended told apart. -/
theorem push_slice_n {ops : Array Oper} {rest : List Oper} {o : Oper} {a : Act} {Q : Exit → Act → World → Prop} {w : World} {lo : Nat} {v : Value} {zs ys : List Int} {b off c : Nat} (m : Nat) (hm : ys.length = m)
    (hgd : o.guard = none) (s xo : Operand) (ho : o.op = .call { callee := .builtin .append, args := #[s, xo], argTypes := #[22, 22] })
    (hs : a.eval s = v) (hx : a.eval xo = .slice (some ⟨b, off, none⟩) m c) (hown : w.ownsRow lo 2 1 v zs.length (zs.map (Value.int .i64)))
    (hc : ∀ j, j < ys.length → w.cell? ⟨b, off + j, none⟩ = some (.int .i64 (gi ys j))) (hlo : lo ≤ w.heap.size) (hl : zs.length + ys.length ≤ 17592186044416)
    (h : ∀ v' w', w'.ownsRow lo 2 1 v' (zs ++ ys).length ((zs ++ ys).map (Value.int .i64)) → Below lo w w' → wpList Try.prog ops Q rest (a.put o.dst v') w') :
    wpList Try.prog ops Q (o :: rest) a w := by
  subst hm
  exact push_slice hgd s xo ho hs hx hown hc hlo hl h
theorem own_cap {w : World} {lo g n c : Nat} {xs : List Value} (h : w.ownsRow lo 2 1 (.slice (some ⟨g, 0, none⟩) n c) n xs) : n ≤ c := by
  obtain ⟨_, h2⟩ := h
  rcases h2 with ⟨h2, _⟩ | ⟨g', cap, cur, e, hb, hg, hn, hm, hs, ht⟩
  · cases h2
  · cases e
    omega

set_option maxHeartbeats 1000000 in
theorem l00Own_at (ba oa c : Nat) (p : List Int) (w : World) (hba : ba < w.heap.size) (hca : ∀ j, j < p.length → w.cell? ⟨ba, oa + j, none⟩ = some (.int .i64 (gi p j))) (la : p.length ≤ 1048576) :
    Calls Try.prog 27 #[.slice (some ⟨ba, oa, none⟩) p.length c] w fun e w' => ∃ u, e = .returned u ∧ w'.ownsRow w.heap.size 2 1 u p.length (p.map (Value.int .i64)) ∧ Below w.heap.size w w' := by
  have hB1 := below_made w
  have hc1 : ∀ j, j < p.length → (w.alloc (.cells #[] 2)).cell? ⟨ba, oa + j, none⟩ = some (.int .i64 (gi p j)) := fun j hj => (hB1.cell (p := ⟨ba, oa + j, none⟩) hba).trans (hca j hj)
  have hown := own_made w
  have hB2 := Lib.hid hB1
  have hc2 := Lib.hid hc1
  clear hB1 hc1 hca
  go_enter Try.func27, Try.ntmps27
  go_wp2_with (at_builtin; refine push_slice (zs := []) (ys := p) rfl _ _ rfl rfl rfl hown hc2.out hB2.out.size (by simp; omega) ?_; intro v' w' hown' hb')
  go_ret
  exact ⟨_, rfl, by simpa using hown', hB2.out.trans hb'⟩

set_option maxRecDepth 20000 in
set_option maxHeartbeats 4000000 in
theorem l04Sort_any (v : Value) (L : List Int) (w : World) (hL : Rd w v L) (h0 : ∀ j, j < L.length → 0 ≤ gi L j) (hl : L.length ≤ 1048576) :
    Calls Try.prog 22 #[v] w fun e w' => ∃ u, e = .returned u ∧ Own w' w.heap.size w'.heap.size u (srtB L) ∧ Below w.heap.size w w' := by
  obtain ⟨_, a, ca, rfl, ha⟩ := hL
  go_enter Try.func22, Try.ntmps22
  go_wp2
  go_loopw [3, 4] (fun o i wr => ∃ (k g c : Nat) (M : List Int), k ≤ L.length ∧ i = .int .i64 k ∧ o = .slice (some ⟨g, 0, none⟩) M.length c ∧ Desc M ∧ M.Perm (nzL (L.take k)) ∧ wr.ownsRow w.heap.size 2 1 (.slice (some ⟨g, 0, none⟩) M.length c) M.length (M.map (Value.int .i64)) ∧ Below w.heap.size w wr) (fun _ i _ => L.length - (intOf i).toNat)
  case atStart => exact ⟨0, w.heap.size, 0, [], Nat.zero_le _, rfl, rfl, List.Pairwise.nil, by simp [nzL], own_made w, below_made w⟩
  case round =>
    obtain ⟨k, g, c, M, hk, rfl, rfl, hd, hp, hown, hB⟩ := hrel
    have hM : M.length ≤ 1048576 := by have h1 := hp.length_eq; have h2 := nz_len L k; omega
    by_cases hlt : k < L.length
    · obtain ⟨ba, oa, rfl, hba, hca⟩ := ha (by omega)
      have p1 := (hB.cell (p := ⟨ba, oa + k, none⟩) hba).trans (hca k hlt)
      have ht0 := h0 k hlt
      have HN1 := Lib.hid (fun hz => nz_zero (L := L) (k := k) hlt hz)
      have HN2 := Lib.hid (fun hz => nz_pos (L := L) (k := k) hlt hz)
      obtain ⟨t, ht⟩ : ∃ t, t = gi L k := ⟨_, rfl⟩
      rw [← ht] at p1 ht0 HN1 HN2
      have H := Lib.hid (And.intro hd (And.intro hp (And.intro hown hB)))
      have hbw := Nat.lt_of_lt_of_le hba hB.size
      clear hd hp hown hB hca ha h0 ht
      by_cases hz : t = 0
      · subst hz
        go_wp2
        go_roundw
        case rel => exact ⟨k + 1, g, c, M, by omega, by go_num, rfl, H.out.1, by rw [HN1.out (by omega)]; exact H.out.2.1, H.out.2.2.1, H.out.2.2.2⟩
        case measure => simp [intOf]; omega
      · have hcM : Hid (∀ m, m < M.length → wr.cell? ⟨g, m, none⟩ = some (.int .i64 (gi M m))) := fun m hm => by rw [H.out.2.2.1.cellAt m (by simpa using hm)]; simp [gi, hm]
        go_wp2
        go_loopw [5] (fun j wr2 => ∃ jn n : Nat, jn ≤ M.length ∧ j = .int .i64 jn ∧ (∀ m, jn ≤ m → m < M.length → gi M m < t) ∧ wr2 = wr.drewN n) (fun j _ => (intOf j).toNat)
        case atStart => exact ⟨M.length, 0, Nat.le_refl _, rfl, fun m h1 h2 => by omega, rfl⟩
        case round =>
          obtain ⟨jn, n, hj, rfl, hlow, rfl⟩ := hrel
          by_cases hj0 : jn = 0
          · subst hj0
            go_wp2
            go_quiet (fail)
            have hBW := below_step H.out.2.2.2 (below_dn2 wr n nq) H.out.2.2.2.size
            have hownW : ((wr.drewN n).drewN nq).ownsRow w.heap.size 2 1 (.slice (some ⟨g, 0, none⟩) M.length c) M.length (M.map (Value.int .i64)) := H.out.2.2.1
            have q1 : ((wr.drewN n).drewN nq).cell? ⟨ba, oa + k, none⟩ = some (.int .i64 t) := p1
            have hbw2 : ba < ((wr.drewN n).drewN nq).heap.size := hbw
            have hcW : ∀ m, m < M.length → ((wr.drewN n).drewN nq).cell? ⟨g, m, none⟩ = some (.int .i64 (gi M m)) := hcM.out
            have HD := Lib.hid (And.intro H.out.1 H.out.2.1)
            clear H p1 hcM
            generalize (wr.drewN n).drewN nq = W2 at *
            have hgW := hownW.lt g rfl
            have hcap := own_cap hownW
            have HOWN : Hid (∀ W, Below W2.heap.size W2 W → Calls Try.prog 27 #[.slice (some ⟨g, 0, none⟩) 0 c] W fun e w' => ∃ u, e = .returned u ∧ w'.ownsRow W.heap.size 2 1 u 0 ((M.take 0).map (Value.int .i64)) ∧ Below W.heap.size W w') := fun W hW => by
              have := l00Own_at g 0 c (M.take 0) W (Nat.lt_of_lt_of_le hgW.2 hW.size) (fun m hm => by
                have hm' : m < 0 ∧ m < M.length := by simp at hm; try omega
                rw [Nat.zero_add, gi_take hm'.1, hW.cell (p := ⟨g, m, none⟩) hgW.2]
                exact hcW m hm'.2) (by simp; try omega)
              rwa [show (M.take 0).length = 0 by simp; try omega] at this
            have j0 : (0 : Int) ≤ ((0 : Nat) : Int) := Int.natCast_nonneg _
            have j1 : ((0 : Nat) : Int) ≤ (M.length : Int) := by omega
            have j2 : ((0 : Nat) : Int) ≤ (c : Int) := by omega
            have HLOW := Lib.hid hlow
            have HW := Lib.hid (And.intro hBW (And.intro hownW hcW))
            clear hBW hownW hcW hlow
            all_goals
              go_wp2
              go_region_held3 (fun w' => w'.cell? ⟨ba, oa + k, none⟩ = some (.int .i64 t))
                (first | go_keep | exact (HV.out.2.cell (p := ⟨ba, oa + k, none⟩) hbw2).trans q1 | exact (HU.out.2.cell (p := ⟨ba, oa + k, none⟩) hbw2).trans q1)
                ((first
                  | (go_at_call 27; refine (HOWN.out _ (by first | exact (Below.refl _ _).drew | exact ((Below.refl _ _).alloc (Nat.le_refl _) _).drew)).mono ?_; rintro e w3 ⟨u, rfl, hu, hb3⟩; have HU := Lib.hid (And.intro (Go.Joins.ownsRow_le hu (base' := W2.heap.size) (by simp)) (show Below W2.heap.size W2 w3 from (by first | exact below_step (Below.refl _ _).drew hb3 (Nat.le_refl _) | exact below_step ((Below.refl _ _).alloc (Nat.le_refl _) _).drew hb3 (by simp)))); clear hu)
                  | (refine step_push_i (x := t) (lo := W2.heap.size) (zs := M.take 0) (n := 0) (by rfl) _ _ (by rfl) (by rfl) _ (by rfl) (by first | exact hn1 _ _ _ (by simp) | exact (hb3.block _ (by simp)).trans (hn1 _ _ _ (by simp))) (by first | exact HU.out.1 | exact HU.out.1.alloc _) (by first | exact HU.out.2.size | (simp; have := HU.out.2.size; omega)) (by omega) ?_; intro v' w4 hown' hb'; have HV := Lib.hid (And.intro hown' (show Below W2.heap.size W2 w4 from (by first | exact HU.out.2.trans hb' | exact (HU.out.2.alloc HU.out.2.size _).trans hb'))); clear hown' hb')))
              all_goals
                have hown4 := Lib.hid (show w4.ownsRow W2.heap.size 2 1 v' (M.take 0 ++ [t]).length ((M.take 0 ++ [t]).map (Value.int .i64)) by have := HV.out.1; rwa [show 0 + 1 = (M.take 0 ++ [t]).length by simp; try omega] at this)
                have hcD : Hid (∀ m, m < (M.drop 0).length → w4.cell? ⟨g, 0 + m, none⟩ = some (.int .i64 (gi (M.drop 0) m))) := fun m hm => by
                  have hm' : 0 + m < M.length := by simp at hm; omega
                  rw [HV.out.2.cell (p := ⟨g, 0 + m, none⟩) hgW.2, HW.out.2.2 _ hm']
                  simp [gi]
                clear HU
                go_wp2_with (at_builtin; refine push_slice_n (lo := W2.heap.size) (zs := M.take 0 ++ [t]) (ys := M.drop 0) (M.length - 0) (by simp) rfl _ _ rfl rfl rfl hown4.out (by first | exact hcD.out | exact fun m hm => absurd hm (by simp; omega)) HV.out.2.size (by simp; omega) ?_; intro v5 w5 hown5 hb5)
                obtain ⟨g5, c5, rfl⟩ := Go.Joins.ownsRow_form hown5 (by simp <;> omega)
                exact ⟨⟨k + 1, g5, c5, (M.take 0 ++ [t]) ++ M.drop 0, by omega, by go_num, rfl, desc_ins HD.out.1 (by omega) (.inl rfl) HLOW.out, by rw [HN2.out (by omega)]; exact perm_ins 0 HD.out.2, Go.Joins.ownsRow_le hown5 HW.out.1.size, below_step HW.out.1 (HV.out.2.trans hb5) HW.out.1.size⟩, by simp [intOf]; omega⟩
          · obtain ⟨j', rfl⟩ : ∃ j', jn = j' + 1 := ⟨jn - 1, by omega⟩
            have c1 := hcM.out j' (by omega)
            obtain ⟨y, hy⟩ : ∃ y, y = gi M j' := ⟨_, rfl⟩
            rw [← hy] at c1
            by_cases hge : y < t
            · go_wp2
              go_quiet (fail)
              go_wp2
              go_roundw
              case rel => exact ⟨j', n + nq, by omega, by go_num, fun m h1 h2 => by
                by_cases hm : m = j'
                · rw [hm, ← hy]; exact hge
                · exact hlow m (by omega) h2, by first | rfl | rw [dd2]⟩
              case measure => simp [intOf]
            · have HY := Lib.hid hy
              clear hy
              go_wp2
              go_quiet (fail)
              obtain ⟨J, hJ⟩ : ∃ J, J = j' + 1 := ⟨_, rfl⟩
              have hge2 : t ≤ gi M (J - 1) := by rw [hJ, Nat.add_sub_cancel, ← HY.out]; omega
              rw [show (j' : Int) + 1 = (J : Int) by omega]
              rw [← hJ] at hlow hj
              clear hJ c1 HY
              have HLEFT : Hid (J = 0 ∨ t ≤ gi M (J - 1)) := .inr hge2
              have hBW := below_step H.out.2.2.2 (below_dn2 wr n nq) H.out.2.2.2.size
              have hownW : ((wr.drewN n).drewN nq).ownsRow w.heap.size 2 1 (.slice (some ⟨g, 0, none⟩) M.length c) M.length (M.map (Value.int .i64)) := H.out.2.2.1
              have q1 : ((wr.drewN n).drewN nq).cell? ⟨ba, oa + k, none⟩ = some (.int .i64 t) := p1
              have hbw2 : ba < ((wr.drewN n).drewN nq).heap.size := hbw
              have hcW : ∀ m, m < M.length → ((wr.drewN n).drewN nq).cell? ⟨g, m, none⟩ = some (.int .i64 (gi M m)) := hcM.out
              have HD := Lib.hid (And.intro H.out.1 H.out.2.1)
              clear H p1 hcM
              generalize (wr.drewN n).drewN nq = W2 at *
              have hgW := hownW.lt g rfl
              have hcap := own_cap hownW
              have HOWN : Hid (∀ W, Below W2.heap.size W2 W → Calls Try.prog 27 #[.slice (some ⟨g, 0, none⟩) J c] W fun e w' => ∃ u, e = .returned u ∧ w'.ownsRow W.heap.size 2 1 u J ((M.take J).map (Value.int .i64)) ∧ Below W.heap.size W w') := fun W hW => by
                have := l00Own_at g 0 c (M.take J) W (Nat.lt_of_lt_of_le hgW.2 hW.size) (fun m hm => by
                  have hm' : m < J ∧ m < M.length := by simp at hm; try omega
                  rw [Nat.zero_add, gi_take hm'.1, hW.cell (p := ⟨g, m, none⟩) hgW.2]
                  exact hcW m hm'.2) (by simp; try omega)
                rwa [show (M.take J).length = J by simp; try omega] at this
              have j0 : (0 : Int) ≤ ((J : Nat) : Int) := Int.natCast_nonneg _
              have j1 : ((J : Nat) : Int) ≤ (M.length : Int) := by omega
              have j2 : ((J : Nat) : Int) ≤ (c : Int) := by omega
              have HLOW := Lib.hid hlow
              have HW := Lib.hid (And.intro hBW (And.intro hownW hcW))
              clear hBW hownW hcW hlow
              by_cases hjc : c ≤ J
              all_goals
                go_wp2
                go_region_held3 (fun w' => w'.cell? ⟨ba, oa + k, none⟩ = some (.int .i64 t))
                  (first | go_keep | exact (HV.out.2.cell (p := ⟨ba, oa + k, none⟩) hbw2).trans q1 | exact (HU.out.2.cell (p := ⟨ba, oa + k, none⟩) hbw2).trans q1)
                  ((first
                    | (go_at_call 27; refine (HOWN.out _ (by first | exact (Below.refl _ _).drew | exact ((Below.refl _ _).alloc (Nat.le_refl _) _).drew)).mono ?_; rintro e w3 ⟨u, rfl, hu, hb3⟩; have HU := Lib.hid (And.intro (Go.Joins.ownsRow_le hu (base' := W2.heap.size) (by simp)) (show Below W2.heap.size W2 w3 from (by first | exact below_step (Below.refl _ _).drew hb3 (Nat.le_refl _) | exact below_step ((Below.refl _ _).alloc (Nat.le_refl _) _).drew hb3 (by simp)))); clear hu)
                    | (refine step_push_i (x := t) (lo := W2.heap.size) (zs := M.take J) (n := J) (by rfl) _ _ (by rfl) (by rfl) _ (by rfl) (by first | exact hn1 _ _ _ (by simp) | exact (hb3.block _ (by simp)).trans (hn1 _ _ _ (by simp))) (by first | exact HU.out.1 | exact HU.out.1.alloc _) (by first | exact HU.out.2.size | (simp; have := HU.out.2.size; omega)) (by omega) ?_; intro v' w4 hown' hb'; have HV := Lib.hid (And.intro hown' (show Below W2.heap.size W2 w4 from (by first | exact HU.out.2.trans hb' | exact (HU.out.2.alloc HU.out.2.size _).trans hb'))); clear hown' hb')))
                all_goals
                  have hown4 := Lib.hid (show w4.ownsRow W2.heap.size 2 1 v' (M.take J ++ [t]).length ((M.take J ++ [t]).map (Value.int .i64)) by have := HV.out.1; rwa [show J + 1 = (M.take J ++ [t]).length by simp; try omega] at this)
                  have hcD : Hid (∀ m, m < (M.drop J).length → w4.cell? ⟨g, J + m, none⟩ = some (.int .i64 (gi (M.drop J) m))) := fun m hm => by
                    have hm' : J + m < M.length := by simp at hm; omega
                    rw [HV.out.2.cell (p := ⟨g, J + m, none⟩) hgW.2, HW.out.2.2 _ hm']
                    simp [gi]
                  clear HU
                  go_wp2_with (at_builtin; refine push_slice_n (lo := W2.heap.size) (zs := M.take J ++ [t]) (ys := M.drop J) (M.length - J) (by simp) rfl _ _ rfl rfl rfl hown4.out (by first | exact hcD.out | exact fun m hm => absurd hm (by simp; omega)) HV.out.2.size (by simp; omega) ?_; intro v5 w5 hown5 hb5)
                  obtain ⟨g5, c5, rfl⟩ := Go.Joins.ownsRow_form hown5 (by simp <;> omega)
                  exact ⟨⟨k + 1, g5, c5, (M.take J ++ [t]) ++ M.drop J, by omega, by go_num, rfl, desc_ins HD.out.1 (by omega) HLEFT.out HLOW.out, by rw [HN2.out (by omega)]; exact perm_ins J HD.out.2, Go.Joins.ownsRow_le hown5 HW.out.1.size, below_step HW.out.1 (HV.out.2.trans hb5) HW.out.1.size⟩, by simp [intOf]; omega⟩
    · obtain rfl : k = L.length := by omega
      have hsr := srt_unique hd (by rwa [List.take_length] at hp)
      have HS : Hid (srtB L = if M = [] then [0] else M) := by show srtB L = _; rw [srtB, ← hsr]
      clear hd hp hsr ha h0
      by_cases hM0 : M = []
      · subst hM0
        rw [if_pos rfl] at HS
        go_wp2
        go_ret
        exact ⟨_, rfl, by rw [HS.out]; exact (own_of (by simp) (own_one1 wr 0)).mono hB.size (Nat.le_refl _), hB.alloc hB.size _⟩
      · have hlM : 1 ≤ M.length := by cases M with
          | nil => exact absurd rfl hM0
          | cons _ _ => simp
        rw [if_neg hM0] at HS
        go_wp2
        go_ret
        exact ⟨_, rfl, by rw [HS.out]; exact own_of (by omega) hown, hB⟩
end Go.Proofs.Ytloebbeaccjgjaa
