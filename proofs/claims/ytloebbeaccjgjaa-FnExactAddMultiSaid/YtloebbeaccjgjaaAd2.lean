/-
  Contracts of AddMulti (chapter 4). No condition beyond each contract's own.
-/
import Derived.Test.YtloebbeaccjgjaaAd1
import Derived.Test.YtloebbeaccjgjaaSo3
import Derived.Test.YtloebbeaccjgjaaM10
import Derived.Deep.RegionHeld3
import Derived.Deep.RegionLaw
namespace Go.Proofs.Ytloebbeaccjgjaa
open Go.ChangeShapes Go.WideShapes Go.ChangeAt Go.RowKit


def adC (R S : List (List Int)) : Int := if vmB R && vmB S then (if S.length = R.length then (if fitB R S then 0 else 5) else 6) else 1
def adL (R S : List (List Int)) : List (List Int) := if vmB R && vmB S && decide (S.length = R.length) && fitB R S then mgM R S R.length else []
theorem mg_len {R S : List (List Int)} (hR : okM R = true) (hS : okM S = true) (hl : S.length = R.length) {i : Nat} (hi : i < R.length) : 1 ≤ (mg R S i).length ∧ (mg R S i).length ≤ 9 := by
  have h1 := (stB_true ((okM_true hR).2.2 i hi)).2.1
  have h2 := (stB_true ((okM_true hS).2.2 i (by omega))).2.1
  have h3 := srtB_len (gr R i ++ gr S i)
  rw [List.length_append] at h3
  unfold mg
  omega
theorem mgM_sum {R S : List (List Int)} (hR : okM R = true) (hS : okM S = true) (hl : S.length = R.length) : ∀ k, k ≤ R.length → sumLen (mgM R S k) (mgM R S k).length ≤ 9 * k
  | 0, _ => by simp [mgM, sumLen]
  | k + 1, hk => by
    have h1 := mgM_sum hR hS hl k (by omega)
    have h2 := mg_len hR hS hl (show k < R.length by omega)
    rw [mgM_succ, sumLen_app]
    omega

theorem alloc_old (w : World) (o : Obj) (k : Nat) (h : k < w.heap.size) : (w.alloc o).heap[k]? = w.heap[k]? := ((Below.refl w.heap.size w).alloc (Nat.le_refl _) o).block _ h
theorem heap3a (w : World) (o0 o1 o2 : Obj) : (((w.alloc o0).alloc o1).alloc o2).heap[w.heap.size]? = some o0 := by
  rw [alloc_old _ _ _ (by simp; omega), alloc_old _ _ _ (by simp)]; exact heap_alloc_new _ _
theorem heap3b (w : World) (o0 o1 o2 : Obj) : (((w.alloc o0).alloc o1).alloc o2).heap[w.heap.size + 1]? = some o1 := by
  rw [alloc_old _ _ _ (by simp)]
  have := heap_alloc_new (w.alloc o0) o1
  rwa [show (w.alloc o0).heap.size = w.heap.size + 1 by simp] at this
theorem heap3c (w : World) (o0 o1 o2 : Obj) : (((w.alloc o0).alloc o1).alloc o2).heap[w.heap.size + 1 + 1]? = some o2 := by
  have := heap_alloc_new ((w.alloc o0).alloc o1) o2
  rwa [show ((w.alloc o0).alloc o1).heap.size = w.heap.size + 1 + 1 by simp] at this

/-- 'append(s, ys...)', as a step of a region that draws its order. -/
theorem step_push_s {ops : Array Oper} {o : Oper} {a : Act} {K : Act → World → Prop} {Q : Exit → Act → World → Prop} {E : Prop} {w : World} {lo b off c : Nat} {v : Value} {zs ys : List Int}
    (hgd : o.guard = none) (s xo : Operand) (ho : o.op = .call { callee := .builtin .append, args := #[s, xo], argTypes := #[22, 22] })
    (hs : a.eval s = v) (hx : a.eval xo = .slice (some ⟨b, off, none⟩) ys.length c)
    (hown : w.ownsRow lo 2 1 v zs.length (zs.map (Value.int .i64))) (hc : ∀ j, j < ys.length → w.cell? ⟨b, off + j, none⟩ = some (.int .i64 (gi ys j))) (hlo : lo ≤ w.heap.size) (hl : zs.length + ys.length ≤ 1000000)
    (h : ∀ v' w', w'.ownsRow lo 2 1 v' (zs ++ ys).length ((zs ++ ys).map (Value.int .i64)) → Below lo w w' → K (a.put o.dst v') w') :
    if Region.wanted o (yielded ops a.tmps) = true then Oper.wp Try.prog o a w K Q else E := by
  obtain ⟨i0, hi, hz0, hz1, hz2⟩ := info_parts Try.infoInt64
  have hw : Region.wanted o (yielded ops a.tmps) = true := by simp [Region.wanted, hgd]
  rw [if_pos hw]
  refine wp_append_own w s xo 22 ho lo 2 i0 (.int .i64 0) 1 8 Try.underlying22 hi hz0 hz1 hz2 rfl (by decide) v zs.length _ hs hown ⟨b, off, none⟩ ys.length c (ys.map (Value.int .i64)) hx (by simp) ?_ (ints_oneCell _ _) (by unfold maxLen; omega) (by omega) hlo ?_
  · intro j u hu
    have hj : j < ys.length := by
      have := (List.getElem?_eq_some_iff.1 hu).1
      simpa using this
    rw [Addr.add_lit, hc j hj]
    rw [← hu]
    simp [hj, gi]
  intro v' w' hown' hg _
  refine h v' w' (by simpa using hown') ?_
  exact (Below.refl _ _).grown hg (by omega) (fun k hk => by have := (hown.lt k hk).1; omega)

set_option maxRecDepth 20000 in
set_option maxHeartbeats 8000000 in
theorem specAdd_any (a : Value) (R : List (List Int)) (b : Value) (S : List (List Int)) (w : World) (h : RdR w a R) (h' : RdR w b S) :
    Calls Try.prog 13 #[.agg #[a], .agg #[b]] w fun e w' => ∃ u, e = .returned (.tuple #[.agg #[u], .int .i64 (adC R S)]) ∧ OwnR w' w.heap.size w'.heap.size u (adL R S) ∧ Below w.heap.size w w' := by
  obtain ⟨s1, c1, rfl⟩ := h.form
  obtain ⟨s2, c2, rfl⟩ := h'.form
  have hv0 : Hid (∀ W, Below w.heap.size w W → W.cell? ⟨w.heap.size, 0, none⟩ = some (.slice s1 R.length c1) → w.heap.size < W.heap.size → Calls Try.prog 26 #[.pointer (some ⟨w.heap.size, 0, none⟩)] W fun e w' => e = .returned (.bool (vmB R)) ∧ Below W.heap.size W w') := fun W hW hc hl => l04Ok_any _ R W ⟨w.heap.size, s1, c1, rfl, hl, hc, h.below hW⟩
  have hv1 : Hid (∀ W, Below w.heap.size w W → W.cell? ⟨w.heap.size + 1, 0, none⟩ = some (.slice s2 S.length c2) → w.heap.size + 1 < W.heap.size → Calls Try.prog 26 #[.pointer (some ⟨w.heap.size + 1, 0, none⟩)] W fun e w' => e = .returned (.bool (vmB S)) ∧ Below W.heap.size W w') := fun W hW hc hl => l04Ok_any _ S W ⟨w.heap.size + 1, s2, c2, rfl, hl, hc, h'.below hW⟩
  have HR0 := Lib.hid (And.intro h h')
  clear h h'
  go_enter Try.func13, Try.ntmps13
  go_wp2_with fail
  generalize hW : (World.alloc (World.alloc (World.alloc w _) _) _) = w0
  have k0 : w0.cell? ⟨w.heap.size, 0, none⟩ = some (.slice s1 R.length c1) := by rw [← hW, Go.Joins.cell_of_block (heap3a w _ _ _)]; rfl
  have k1 : w0.cell? ⟨w.heap.size + 1, 0, none⟩ = some (.slice s2 S.length c2) := by rw [← hW, Go.Joins.cell_of_block (heap3b w _ _ _)]; rfl
  have r0 : w0.cell? ⟨w.heap.size + 1 + 1, 0, none⟩ = some (.slice none 0 0) := by rw [← hW, Go.Joins.cell_of_block (heap3c w _ _ _)]; rfl
  have z0 : w0.frozen? ⟨w.heap.size + 1 + 1, 0, none⟩ = false := by rw [← hW]; exact Go.Joins.unfrozen_of_block (heap3c w _ _ _) 0
  have hlt : w.heap.size + 1 + 1 < w0.heap.size := by rw [← hW]; simp
  have hB : Below w.heap.size w w0 := by rw [← hW]; exact ((box_below _ _).alloc (by simp) _).alloc (by simp; omega) _
  clear hW
  refine (hv0.out _ hB k0 (by omega)).mono ?_
  rintro e w1 ⟨rfl, hb⟩
  replace k0 := (hb.cell (p := ⟨w.heap.size, 0, none⟩) (by show w.heap.size < _; omega)).trans k0
  replace k1 := (hb.cell (p := ⟨w.heap.size + 1, 0, none⟩) (by show w.heap.size + 1 < _; omega)).trans k1
  replace r0 := (hb.cell (p := ⟨w.heap.size + 1 + 1, 0, none⟩) (by show w.heap.size + 1 + 1 < _; omega)).trans r0
  replace z0 := (hb.frozen (p := ⟨w.heap.size + 1 + 1, 0, none⟩) hlt).trans z0
  replace hlt := Nat.lt_of_lt_of_le hlt hb.size
  replace hB := below_step hB hb hB.size
  clear hb
  clear hv0
  cases hval : vmB R
  · have HC := Lib.hid (show adC R S = 1 by rw [adC, hval]; rfl)
    have HL := Lib.hid (show adL R S = [] by rw [adL, hval]; rfl)
    clear hval
    go_wp2
    refine bodyPost_ret (v := .tuple #[.agg #[.slice none 0 0], .int .i64 (adC R S)]) (by simp [results, Try.results13, go_sem, r0]; exact HC.out.symm) rfl ⟨_, rfl, by rw [HL.out]; exact ownR_nil _ _ _, hB.setCell (p := ⟨w.heap.size + 1 + 1, 0, none⟩) (by show w.heap.size ≤ w.heap.size + 1 + 1; omega) _⟩
  go_wp2_with fail
  refine (hv1.out _ hB k1 (by omega)).mono ?_
  rintro e w2 ⟨rfl, hb⟩
  replace k0 := (hb.cell (p := ⟨w.heap.size, 0, none⟩) (by show w.heap.size < _; omega)).trans k0
  replace k1 := (hb.cell (p := ⟨w.heap.size + 1, 0, none⟩) (by show w.heap.size + 1 < _; omega)).trans k1
  replace r0 := (hb.cell (p := ⟨w.heap.size + 1 + 1, 0, none⟩) (by show w.heap.size + 1 + 1 < _; omega)).trans r0
  replace z0 := (hb.frozen (p := ⟨w.heap.size + 1 + 1, 0, none⟩) hlt).trans z0
  replace hlt := Nat.lt_of_lt_of_le hlt hb.size
  replace hB := below_step hB hb hB.size
  clear hb
  clear hv1
  cases hval2 : vmB S
  · have HC := Lib.hid (show adC R S = 1 by rw [adC, hval, hval2]; rfl)
    have HL := Lib.hid (show adL R S = [] by rw [adL, hval, hval2]; rfl)
    clear hval hval2
    go_wp2
    refine bodyPost_ret (v := .tuple #[.agg #[.slice none 0 0], .int .i64 (adC R S)]) (by simp [results, Try.results13, go_sem, r0]; exact HC.out.symm) rfl ⟨_, rfl, by rw [HL.out]; exact ownR_nil _ _ _, hB.setCell (p := ⟨w.heap.size + 1 + 1, 0, none⟩) (by show w.heap.size ≤ w.heap.size + 1 + 1; omega) _⟩
  by_cases hl : S.length = R.length
  rotate_left
  · have HC := Lib.hid (show adC R S = 6 by rw [adC, hval, hval2]; simp [hl])
    have HL := Lib.hid (show adL R S = [] by rw [adL, hval, hval2]; simp [hl])
    clear hval hval2
    have hl1 : ¬ (R.length : Int) = (S.length : Int) := by omega
    have hl2 : ¬ R.length = S.length := fun e => hl e.symm
    go_wp2
    refine bodyPost_ret (v := .tuple #[.agg #[.slice none 0 0], .int .i64 (adC R S)]) (by simp [results, Try.results13, go_sem, r0]; exact HC.out.symm) rfl ⟨_, rfl, by rw [HL.out]; exact ownR_nil _ _ _, hB.setCell (p := ⟨w.heap.size + 1 + 1, 0, none⟩) (by show w.heap.size ≤ w.heap.size + 1 + 1; omega) _⟩
  have HCE := Lib.hid (show adC R S = (if fitB R S = true then 0 else 5) by rw [adC, hval, hval2]; simp [hl])
  have HLE := Lib.hid (show adL R S = (if fitB R S = true then mgM R S R.length else []) by rw [adL, hval, hval2]; simp [hl])
  have HVM := Lib.hid (vm_mg hval hval2 hl)
  have hoR := vmB_ok hval
  have hoS := vmB_ok hval2
  obtain ⟨h1, h12, hst⟩ := okM_true hoR
  have hst2 := (okM_true hoS).2.2
  have HST := Lib.hid (fun j hj => stB_true (hst j hj))
  have HST2 := Lib.hid (fun j (hj : j < R.length) => stB_true (hst2 j (by omega)))
  have HSN := Lib.hid (fun j (hj : j < R.length) x (hx : x ∈ gr R j ++ gr S j) => (List.mem_append.1 hx).elim (fun h => (stB_mem (hst j hj) x h).1) (fun h => (stB_mem (hst2 j (by omega)) x h).1))
  have hsm := Lib.hid (fun k (hk : k ≤ R.length) => mgM_sum hoR hoS hl k hk)
  have hml := Lib.hid (fun k (hk : k < R.length) => mg_len hoR hoS hl hk)
  have HL := Lib.hid hl
  clear hval hval2 hst hst2 hoR hoS
  obtain ⟨h, h'⟩ := HR0.out
  clear HR0
  obtain ⟨la, a, ca, hv', ha⟩ := h
  cases hv'
  obtain ⟨ba, oa, cs, rfl, hba, hca⟩ := ha (by omega)
  obtain ⟨lb, a, ca, hv', ha'⟩ := h'
  cases hv'
  obtain ⟨bb, ob, cs2, rfl, hbb, hcb⟩ := ha' (by omega)
  have HCA := Lib.hid hca
  have HCB := Lib.hid hcb
  clear ha hca ha' hcb
  rw [hl] at k1
  clear hl
  have HB := Lib.hid hB
  have HK := Lib.hid (And.intro r0 z0)
  clear hB r0 z0
  go_wp2
  generalize hWb : w2 = wb at *
  clear hWb
  go_loopw [7] (fun i wr => ∃ (k : Nat) (o : Value), k ≤ R.length ∧ i = .int .i64 k ∧ OutN wb wr o (mgM R S k)) (fun i _ => R.length - (intOf i).toNat)
  case atStart => exact ⟨0, _, Nat.zero_le _, rfl, outN_start wb _⟩
  case round =>
    obtain ⟨k, o, hk, rfl, hout⟩ := hrel
    obtain ⟨qa, g, cc, rfl, qb⟩ := hout.2.2.1.rd
    clear qa qb
    rw [mgM_length] at hout
    have hB2 := below_step HB.out hout.2.2.2.1 HB.out.size
    have k2 : wr.cell? ⟨w.heap.size, 0, none⟩ = some (.slice (some ⟨ba, oa, none⟩) R.length c1) := (hout.2.2.2.1.cell (p := ⟨w.heap.size, 0, none⟩) (by show w.heap.size < _; omega)).trans k0
    have k3 : wr.cell? ⟨w.heap.size + 1, 0, none⟩ = some (.slice (some ⟨bb, ob, none⟩) R.length c2) := (hout.2.2.2.1.cell (p := ⟨w.heap.size + 1, 0, none⟩) (by show w.heap.size + 1 < _; omega)).trans k1
    by_cases hlt2 : k < R.length
    · have p0 : wr.cell? ⟨ba, oa + k, none⟩ = some (cs k) := (hB2.cell (p := ⟨ba, oa + k, none⟩) hba).trans (HCA.out _ hlt2).1
      have q0 : wr.cell? ⟨bb, ob + k, none⟩ = some (cs2 k) := (hB2.cell (p := ⟨bb, ob + k, none⟩) hbb).trans (HCB.out k (by have := HL.out; omega)).1
      have hrr := (HCA.out _ hlt2).2.below hB2
      have hrs := (HCB.out k (by have := HL.out; omega)).2.below hB2
      obtain ⟨qa, aL, cL, hvL, qb⟩ := hrr
      clear qa qb
      rw [hvL] at p0
      have hrr := (HCA.out _ hlt2).2.below hB2
      rw [hvL] at hrr
      have bst := HST.out _ hlt2
      have bst2 := HST2.out _ hlt2
      obtain ⟨lM, aM, cM, hvM, haM⟩ := hrs
      rw [hvM] at q0
      obtain ⟨bM, oM, rfl, hbM, hcM⟩ := haM (by omega)
      clear haM
      have z1 := hout.1
      have HO := Lib.hid hout
      have HS := Lib.hid (mgM_succ R S k)
      have hsl := Lib.hid (mgM_length R S k)
      have hsn := Lib.hid (HSN.out k hlt2)
      have hm9 := Lib.hid (hml.out k hlt2)
      have HMG := Lib.hid (show mg R S k = srtB (gr R k ++ gr S k) from rfl)
      obtain ⟨L, hL⟩ : ∃ L, L = gr R k := ⟨_, rfl⟩
      obtain ⟨M, hM⟩ : ∃ M, M = gr S k := ⟨_, rfl⟩
      obtain ⟨N, hN⟩ : ∃ N, N = mg R S k := ⟨_, rfl⟩
      rw [← hL] at hrr p0 bst hsn HMG
      rw [← hM] at q0 bst2 lM hcM hsn HMG
      rw [← hN] at HS hm9 HMG
      have HOWN : Hid (∀ W, Below wr.heap.size wr W → Calls Try.prog 27 #[.slice aL L.length cL] W fun e w' => ∃ u, e = .returned u ∧ Own w' wr.heap.size w'.heap.size u L ∧ Below wr.heap.size wr w') := fun W hBW => (l00Own_any _ L W (hrr.below hBW) bst.1).mono fun e w' ⟨u, he, ho, hb⟩ => ⟨u, he, ho.mono hBW.size (Nat.le_refl _), below_step hBW hb hBW.size⟩
      have HSORT : Hid (∀ W v, Below wr.heap.size wr W → Own W wr.heap.size W.heap.size v (L ++ M) → Calls Try.prog 22 #[v] W fun e w' => ∃ u, e = .returned u ∧ Own w' wr.heap.size w'.heap.size u N ∧ Below wr.heap.size wr w') := fun W v hBW hv => (l04Sort_any v (L ++ M) W hv.rd (fun j hj => hsn.out _ (by rw [gi_eq hj]; exact List.getElem_mem hj)) (by rw [List.length_append]; omega)).mono fun e w' ⟨u, he, ho, hb⟩ => ⟨u, he, by rw [HMG.out]; exact ho.mono hBW.size (Nat.le_refl _), below_step hBW hb hBW.size⟩
      have hlL := bst.2.1
      have hlM := bst2.2.1
      have hi0' : (0 : Int) ≤ (k : Int) := Int.natCast_nonneg _
      have hi1 : (k : Int) < (R.length : Int) := by omega
      have hba' : ba < wr.heap.size := Nat.lt_of_lt_of_le hba hB2.size
      have hbb' : bb < wr.heap.size := Nat.lt_of_lt_of_le hbb hB2.size
      have hwr : w.heap.size + 1 < wr.heap.size := by have := HO.out.2.2.2.1.size; omega
      have hHB2 := Lib.hid hB2
      have HSTR := Lib.hid (And.intro bst bst2)
      have hkM := Lib.hid (fun W (hW : Below wr.heap.size wr W) j (hj : j < M.length) => (hW.cell (p := ⟨bM, oM + j, none⟩) hbM).trans (hcM j hj))
      clear hL hM hN hout hrr hvL hvM bst bst2 hB2 hcM
      go_wp2
      go_region_held3 (fun w' => w'.cell? ⟨w.heap.size, 0, none⟩ = some (.slice (some ⟨ba, oa, none⟩) R.length c1) ∧ w'.cell? ⟨w.heap.size + 1, 0, none⟩ = some (.slice (some ⟨bb, ob, none⟩) R.length c2) ∧ w'.cell? ⟨ba, oa + k, none⟩ = some (.slice aL L.length cL) ∧ w'.cell? ⟨bb, ob + k, none⟩ = some (.slice (some ⟨bM, oM, none⟩) M.length cM))
        (first | exact ⟨(HV.out.2.cell (p := ⟨w.heap.size, 0, none⟩) (by show w.heap.size < _; omega)).trans k2, (HV.out.2.cell (p := ⟨w.heap.size + 1, 0, none⟩) hwr).trans k3, (HV.out.2.cell (p := ⟨ba, oa + k, none⟩) hba').trans p0, (HV.out.2.cell (p := ⟨bb, ob + k, none⟩) hbb').trans q0⟩ | exact ⟨(HU.out.2.cell (p := ⟨w.heap.size, 0, none⟩) (by show w.heap.size < _; omega)).trans k2, (HU.out.2.cell (p := ⟨w.heap.size + 1, 0, none⟩) hwr).trans k3, (HU.out.2.cell (p := ⟨ba, oa + k, none⟩) hba').trans p0, (HU.out.2.cell (p := ⟨bb, ob + k, none⟩) hbb').trans q0⟩ | exact ⟨k2, k3, p0, q0⟩)
        ((first
          | (go_at_call 27; refine (HOWN.out _ (Below.refl _ _).drew).mono ?_; rintro e w3 ⟨u, rfl, hu, hb3⟩; have HU := Lib.hid (And.intro hu hb3); clear hu hb3)
          | (refine step_push_s (lo := wr.heap.size) (zs := L) (ys := M) (by rfl) _ _ (by rfl) (by rfl) (by rfl) HU.out.1.2.1 (hkM.out _ HU.out.2) HU.out.2.size (by omega) ?_; intro v4 w4 hown' hb'; have HV := Lib.hid (And.intro (own_of (by simp; omega) hown') (HU.out.2.trans hb')); clear hown' hb')
          | fail))
      all_goals
        obtain ⟨qa, a4, c4, hv4, qb⟩ := HV.out.1.rd
        clear qa qb
        subst hv4
        have z2 : w4.cell? ⟨wb.heap.size, 0, none⟩ = _ := (HV.out.2.cell (p := ⟨wb.heap.size, 0, none⟩) HO.out.2.2.2.2).trans z1
        have hqs := HSORT.out w4.drew (.slice a4 (L ++ M).length c4) HV.out.2.drew (HV.out.1.below (Below.refl _ _).drew)
        rw [List.length_append] at hqs
        have HQS := Lib.hid hqs
        clear hqs
        go_wp2
        go_region_law ((first
          | (go_simp; refine HQS.out.mono ?_; rintro e w5 ⟨u, rfl, hu, hb2⟩; obtain ⟨qa, gu, cu, hvu, qb⟩ := hu.rd; clear qa qb; subst hvu; have hn := outN_row HO.out hb2 hu (.cells #[.slice gu N.length cu] 22); have hn4 := hn.2.2.2.1; have hn8 := hn.2.2.2.2.2.2.2; have HNR := Lib.hid hn; clear hn hu hb2)
          | (refine step_push_row (by rfl) _ _ (by rfl) (by rfl) _ (by rfl) HNR.out.2.2.1 HNR.out.1 HNR.out.2.1 ⟨by rw [hsl.out]; omega, Nat.le_trans (hsm.out k (by omega)) (by omega)⟩ (by have := hm9.out.2; omega) HO.out.2.2.2.2 HNR.out.2.2.2.2.2.2.1 ?_; intro v' w' hown' hb'; obtain ⟨qa, g', cc', hv', qb⟩ := hown'.rd; clear qa qb; rw [List.length_append, List.length_singleton, hsl.out] at hv'; subst hv'; have f1 := (hb'.cell (p := ⟨wb.heap.size, 0, none⟩) (Nat.lt_succ_self _)).trans HNR.out.2.2.2.1; have f2 := (hb'.frozen (p := ⟨wb.heap.size, 0, none⟩) (Nat.lt_succ_self _)).trans HNR.out.2.2.2.2.1; have HN := Lib.hid (And.intro hown' hb'); clear hown' hb')
          | fail))
        all_goals
          go_wp2
          go_roundw
          case rel => exact ⟨k + 1, _, by omega, by go_num, by rw [HS.out]; exact outN_next HNR.out.2.2.2.2.2.1 (Nat.le_trans HO.out.2.2.2.2 HNR.out.2.2.2.2.2.2.1) HNR.out.2.2.2.1 HNR.out.2.2.2.2.1 HN.out.2 HN.out.1⟩
          case measure => simp [intOf]; omega
    · obtain rfl : k = R.length := by omega
      have z1 := hout.1
      have HO := Lib.hid hout
      have HB2 := Lib.hid hB2
      clear hB2
      have r1 := (hout.2.2.2.1.cell (p := ⟨w.heap.size + 1 + 1, 0, none⟩) hlt).trans HK.out.1
      have q1 := (hout.2.2.2.1.frozen (p := ⟨w.heap.size + 1 + 1, 0, none⟩) hlt).trans HK.out.2
      have hwb := hout.2.2.2.2
      have hok := l04Ok_any (.pointer (some ⟨wb.heap.size, 0, none⟩)) (mgM R S R.length) wr ⟨wb.heap.size, g, cc, rfl, Nat.lt_of_lt_of_le (Nat.lt_succ_self _) hwb, by rw [mgM_length]; exact z1, by rw [mgM_length]; exact hout.2.2.1.rd⟩
      rw [HVM.out] at hok
      have HOK := Lib.hid hok
      clear hok hout HVM hsm hml HSN HST HST2
      go_wp2_with fail
      refine HOK.out.mono ?_
      rintro e w7 ⟨rfl, hb⟩
      replace r1 := (hb.cell (p := ⟨w.heap.size + 1 + 1, 0, none⟩) (by show w.heap.size + 1 + 1 < _; omega)).trans r1
      replace q1 := (hb.frozen (p := ⟨w.heap.size + 1 + 1, 0, none⟩) (by show w.heap.size + 1 + 1 < _; omega)).trans q1
      replace z1 := (hb.cell (p := ⟨wb.heap.size, 0, none⟩) hwb).trans z1
      have hsz := hb.size
      have HB3 := Lib.hid (below_step HB2.out hb HB2.out.size)
      have HB7 := Lib.hid hb
      clear hb
      cases hf : fitB R S
      · have HC := Lib.hid (show adC R S = 5 by rw [HCE.out, hf]; rfl)
        have HLL := Lib.hid (show adL R S = [] by rw [HLE.out, hf]; rfl)
        clear hf
        go_wp2
        refine bodyPost_ret (v := .tuple #[.agg #[.slice none 0 0], .int .i64 (adC R S)]) (by simp [results, Try.results13, go_sem, r1]; exact HC.out.symm) rfl ⟨_, rfl, by rw [HLL.out]; exact ownR_nil _ _ _, HB3.out.setCell (p := ⟨w.heap.size + 1 + 1, 0, none⟩) (by show w.heap.size ≤ w.heap.size + 1 + 1; omega) _⟩
      · have HC := Lib.hid (show adC R S = 0 by rw [HCE.out, hf]; rfl)
        have HLL := Lib.hid (show adL R S = mgM R S R.length by rw [HLE.out, hf]; rfl)
        clear hf
        go_wp2
        refine bodyPost_ret (v := .tuple #[.agg #[.slice g R.length cc], .int .i64 (adC R S)]) (by simp [results, Try.results13, go_sem, r1]; exact HC.out.symm) rfl ⟨_, rfl, ?_, HB3.out.setCell (p := ⟨w.heap.size + 1 + 1, 0, none⟩) (by show w.heap.size ≤ w.heap.size + 1 + 1; omega) _⟩
        rw [HLL.out]
        have ho := (HO.out.2.2.1.below HB7.out).mono (lo' := w.heap.size + 1 + 1 + 1) (Nat.le_trans hlt (Nat.le_succ _)) hsz
        exact (ho.kept ((Chg.refl _ _ _).setCell (p := ⟨w.heap.size + 1 + 1, 0, none⟩) _ (Nat.le_refl _) (Nat.lt_succ_self _)) (.inr (Nat.le_refl _))).mono (by omega) (by simp)

theorem fitB_iff {R S : List (List Int)} : fitB R S = true ↔ ∀ i, i < R.length → (mg R S i).length ≤ 4 := by
  unfold fitB
  exact decide_eq_true_iff

set_option maxRecDepth 20000 in
set_option maxHeartbeats 8000000 in
theorem implAdd_any (a : Value) (R : List (List Int)) (b : Value) (S : List (List Int)) (w : World) (h : RdR w a R) (h' : RdR w b S) :
    Calls Try.prog 15 #[.agg #[a], .agg #[b]] w fun e w' => ∃ u, e = .returned (.tuple #[.agg #[u], .int .i64 (adC R S)]) ∧ OwnR w' w.heap.size w'.heap.size u (adL R S) ∧ Below w.heap.size w w' := by
  obtain ⟨s1, c1, rfl⟩ := h.form
  obtain ⟨s2, c2, rfl⟩ := h'.form
  have hv0 : Hid (∀ W, Below w.heap.size w W → W.cell? ⟨w.heap.size, 0, none⟩ = some (.slice s1 R.length c1) → w.heap.size < W.heap.size → Calls Try.prog 29 #[.agg #[.slice s1 R.length c1]] W fun e w' => e = .returned (.bool (vmB R)) ∧ Below W.heap.size W w') := fun W hW _ _ => implValidM_any _ R W (h.below hW)
  have hv1 : Hid (∀ W, Below w.heap.size w W → W.cell? ⟨w.heap.size + 1, 0, none⟩ = some (.slice s2 S.length c2) → w.heap.size + 1 < W.heap.size → Calls Try.prog 29 #[.agg #[.slice s2 S.length c2]] W fun e w' => e = .returned (.bool (vmB S)) ∧ Below W.heap.size W w') := fun W hW _ _ => implValidM_any _ S W (h'.below hW)
  have HR0 := Lib.hid (And.intro h h')
  clear h h'
  go_enter Try.func15, Try.ntmps15
  go_wp2_with fail
  generalize hW : (World.alloc (World.alloc (World.alloc w _) _) _) = w0
  have k0 : w0.cell? ⟨w.heap.size, 0, none⟩ = some (.slice s1 R.length c1) := by rw [← hW, Go.Joins.cell_of_block (heap3a w _ _ _)]; rfl
  have k1 : w0.cell? ⟨w.heap.size + 1, 0, none⟩ = some (.slice s2 S.length c2) := by rw [← hW, Go.Joins.cell_of_block (heap3b w _ _ _)]; rfl
  have r0 : w0.cell? ⟨w.heap.size + 1 + 1, 0, none⟩ = some (.slice none 0 0) := by rw [← hW, Go.Joins.cell_of_block (heap3c w _ _ _)]; rfl
  have z0 : w0.frozen? ⟨w.heap.size + 1 + 1, 0, none⟩ = false := by rw [← hW]; exact Go.Joins.unfrozen_of_block (heap3c w _ _ _) 0
  have hlt : w.heap.size + 1 + 1 < w0.heap.size := by rw [← hW]; simp
  have hB : Below w.heap.size w w0 := by rw [← hW]; exact ((box_below _ _).alloc (by simp) _).alloc (by simp; omega) _
  clear hW
  refine (hv0.out _ hB k0 (by omega)).mono ?_
  rintro e w1 ⟨rfl, hb⟩
  replace k0 := (hb.cell (p := ⟨w.heap.size, 0, none⟩) (by show w.heap.size < _; omega)).trans k0
  replace k1 := (hb.cell (p := ⟨w.heap.size + 1, 0, none⟩) (by show w.heap.size + 1 < _; omega)).trans k1
  replace r0 := (hb.cell (p := ⟨w.heap.size + 1 + 1, 0, none⟩) (by show w.heap.size + 1 + 1 < _; omega)).trans r0
  replace z0 := (hb.frozen (p := ⟨w.heap.size + 1 + 1, 0, none⟩) hlt).trans z0
  replace hlt := Nat.lt_of_lt_of_le hlt hb.size
  replace hB := below_step hB hb hB.size
  clear hb
  clear hv0
  cases hval : vmB R
  · have HC := Lib.hid (show adC R S = 1 by rw [adC, hval]; rfl)
    have HL := Lib.hid (show adL R S = [] by rw [adL, hval]; rfl)
    clear hval
    go_wp2
    refine bodyPost_ret (v := .tuple #[.agg #[.slice none 0 0], .int .i64 (adC R S)]) (by simp [results, Try.results15, go_sem, r0]; exact HC.out.symm) rfl ⟨_, rfl, by rw [HL.out]; exact ownR_nil _ _ _, hB.setCell (p := ⟨w.heap.size + 1 + 1, 0, none⟩) (by show w.heap.size ≤ w.heap.size + 1 + 1; omega) _⟩
  go_wp2_with fail
  refine (hv1.out _ hB k1 (by omega)).mono ?_
  rintro e w2 ⟨rfl, hb⟩
  replace k0 := (hb.cell (p := ⟨w.heap.size, 0, none⟩) (by show w.heap.size < _; omega)).trans k0
  replace k1 := (hb.cell (p := ⟨w.heap.size + 1, 0, none⟩) (by show w.heap.size + 1 < _; omega)).trans k1
  replace r0 := (hb.cell (p := ⟨w.heap.size + 1 + 1, 0, none⟩) (by show w.heap.size + 1 + 1 < _; omega)).trans r0
  replace z0 := (hb.frozen (p := ⟨w.heap.size + 1 + 1, 0, none⟩) hlt).trans z0
  replace hlt := Nat.lt_of_lt_of_le hlt hb.size
  replace hB := below_step hB hb hB.size
  clear hb
  clear hv1
  cases hval2 : vmB S
  · have HC := Lib.hid (show adC R S = 1 by rw [adC, hval, hval2]; rfl)
    have HL := Lib.hid (show adL R S = [] by rw [adL, hval, hval2]; rfl)
    clear hval hval2
    go_wp2
    refine bodyPost_ret (v := .tuple #[.agg #[.slice none 0 0], .int .i64 (adC R S)]) (by simp [results, Try.results15, go_sem, r0]; exact HC.out.symm) rfl ⟨_, rfl, by rw [HL.out]; exact ownR_nil _ _ _, hB.setCell (p := ⟨w.heap.size + 1 + 1, 0, none⟩) (by show w.heap.size ≤ w.heap.size + 1 + 1; omega) _⟩
  by_cases hl : S.length = R.length
  rotate_left
  · have HC := Lib.hid (show adC R S = 6 by rw [adC, hval, hval2]; simp [hl])
    have HL := Lib.hid (show adL R S = [] by rw [adL, hval, hval2]; simp [hl])
    clear hval hval2
    have hl1 : ¬ (R.length : Int) = (S.length : Int) := by omega
    have hl2 : ¬ R.length = S.length := fun e => hl e.symm
    go_wp2
    refine bodyPost_ret (v := .tuple #[.agg #[.slice none 0 0], .int .i64 (adC R S)]) (by simp [results, Try.results15, go_sem, r0]; exact HC.out.symm) rfl ⟨_, rfl, by rw [HL.out]; exact ownR_nil _ _ _, hB.setCell (p := ⟨w.heap.size + 1 + 1, 0, none⟩) (by show w.heap.size ≤ w.heap.size + 1 + 1; omega) _⟩
  have HCE := Lib.hid (show adC R S = (if fitB R S = true then 0 else 5) by rw [adC, hval, hval2]; simp [hl])
  have HLE := Lib.hid (show adL R S = (if fitB R S = true then mgM R S R.length else []) by rw [adL, hval, hval2]; simp [hl])
  have HVM := Lib.hid (vm_mg hval hval2 hl)
  have hoR := vmB_ok hval
  have hoS := vmB_ok hval2
  obtain ⟨h1, h12, hst⟩ := okM_true hoR
  have hst2 := (okM_true hoS).2.2
  have HST := Lib.hid (fun j hj => stB_true (hst j hj))
  have HST2 := Lib.hid (fun j (hj : j < R.length) => stB_true (hst2 j (by omega)))
  have HSN := Lib.hid (fun j (hj : j < R.length) x (hx : x ∈ gr R j ++ gr S j) => (List.mem_append.1 hx).elim (fun h => (stB_mem (hst j hj) x h).1) (fun h => (stB_mem (hst2 j (by omega)) x h).1))
  have hsm := Lib.hid (fun k (hk : k ≤ R.length) => mgM_sum hoR hoS hl k hk)
  have hml := Lib.hid (fun k (hk : k < R.length) => mg_len hoR hoS hl hk)
  have HL := Lib.hid hl
  clear hval hval2 hst hst2 hoR hoS
  obtain ⟨h, h'⟩ := HR0.out
  clear HR0
  obtain ⟨la, a, ca, hv', ha⟩ := h
  cases hv'
  obtain ⟨ba, oa, cs, rfl, hba, hca⟩ := ha (by omega)
  obtain ⟨lb, a, ca, hv', ha'⟩ := h'
  cases hv'
  obtain ⟨bb, ob, cs2, rfl, hbb, hcb⟩ := ha' (by omega)
  have HCA := Lib.hid hca
  have HCB := Lib.hid hcb
  clear ha hca ha' hcb
  rw [hl] at k1
  clear hl
  have HB := Lib.hid hB
  have HK := Lib.hid (And.intro r0 z0)
  have k0a := (((Below.refl w2.heap.size w2).alloc (Nat.le_refl _) (.cells #[.slice none 0 0] 33)).cell (p := ⟨w.heap.size, 0, none⟩) (by show w.heap.size < _; omega)).trans k0
  clear hB r0 z0
  go_wp2
  clear k0a
  generalize hWb : w2 = wb at *
  clear hWb
  go_loopw [30] (fun i wr => ∃ (k : Nat) (o : Value), k ≤ R.length ∧ i = .int .i64 k ∧ OutN wb wr o (mgM R S k) ∧ Hid (∀ i, i < k → (mg R S i).length ≤ 4)) (fun i _ => R.length - (intOf i).toNat)
  case atStart => exact ⟨0, _, Nat.zero_le _, rfl, outN_start wb _, Lib.hid (fun i hi => absurd hi (Nat.not_lt_zero i))⟩
  case round =>
    obtain ⟨k, o, hk, rfl, hout, HFT⟩ := hrel
    obtain ⟨qa, g, cc, rfl, qb⟩ := hout.2.2.1.rd
    clear qa qb
    rw [mgM_length] at hout
    have hB2 := below_step HB.out hout.2.2.2.1 HB.out.size
    have k2 : wr.cell? ⟨w.heap.size, 0, none⟩ = some (.slice (some ⟨ba, oa, none⟩) R.length c1) := (hout.2.2.2.1.cell (p := ⟨w.heap.size, 0, none⟩) (by show w.heap.size < _; omega)).trans k0
    have k3 : wr.cell? ⟨w.heap.size + 1, 0, none⟩ = some (.slice (some ⟨bb, ob, none⟩) R.length c2) := (hout.2.2.2.1.cell (p := ⟨w.heap.size + 1, 0, none⟩) (by show w.heap.size + 1 < _; omega)).trans k1
    by_cases hlt2 : k < R.length
    · have p0 : wr.cell? ⟨ba, oa + k, none⟩ = some (cs k) := (hB2.cell (p := ⟨ba, oa + k, none⟩) hba).trans (HCA.out _ hlt2).1
      have q0 : wr.cell? ⟨bb, ob + k, none⟩ = some (cs2 k) := (hB2.cell (p := ⟨bb, ob + k, none⟩) hbb).trans (HCB.out k (by have := HL.out; omega)).1
      have hrr := (HCA.out _ hlt2).2.below hB2
      have hrs := (HCB.out k (by have := HL.out; omega)).2.below hB2
      obtain ⟨qa, aL, cL, hvL, qb⟩ := hrr
      clear qa qb
      rw [hvL] at p0
      have hrr := (HCA.out _ hlt2).2.below hB2
      rw [hvL] at hrr
      have bst := HST.out _ hlt2
      have bst2 := HST2.out _ hlt2
      obtain ⟨lM, aM, cM, hvM, haM⟩ := hrs
      rw [hvM] at q0
      obtain ⟨bM, oM, rfl, hbM, hcM⟩ := haM (by omega)
      clear haM
      have z1 := hout.1
      have HO := Lib.hid hout
      have HS := Lib.hid (mgM_succ R S k)
      have hsl := Lib.hid (mgM_length R S k)
      have hsn := Lib.hid (HSN.out k hlt2)
      have hm9 := Lib.hid (hml.out k hlt2)
      have HMG := Lib.hid (show mg R S k = srtB (gr R k ++ gr S k) from rfl)
      obtain ⟨L, hL⟩ : ∃ L, L = gr R k := ⟨_, rfl⟩
      obtain ⟨M, hM⟩ : ∃ M, M = gr S k := ⟨_, rfl⟩
      obtain ⟨N, hN⟩ : ∃ N, N = mg R S k := ⟨_, rfl⟩
      rw [← hL] at hrr p0 bst hsn HMG
      rw [← hM] at q0 bst2 lM hcM hsn HMG
      rw [← hN] at HS hm9 HMG
      have HOWN : Hid (∀ W, Below wr.heap.size wr W → Calls Try.prog 30 #[.slice aL L.length cL] W fun e w' => ∃ u, e = .returned u ∧ Own w' wr.heap.size w'.heap.size u L ∧ Below wr.heap.size wr w') := fun W hBW => (copyNumbers_any _ L W (hrr.below hBW) bst.1).mono fun e w' ⟨u, he, ho, hb⟩ => ⟨u, he, ho.mono hBW.size (Nat.le_refl _), below_step hBW hb hBW.size⟩
      have HSORT : Hid (∀ W v, Below wr.heap.size wr W → Own W wr.heap.size W.heap.size v (L ++ M) → Calls Try.prog 24 #[v] W fun e w' => ∃ u, e = .returned u ∧ Own w' wr.heap.size w'.heap.size u N ∧ Below wr.heap.size wr w') := fun W v hBW hv => (sortBeat_any v (L ++ M) W hv.rd (by rw [List.length_append]; omega)).mono fun e w' ⟨u, he, ho, hb⟩ => ⟨u, he, by rw [HMG.out]; exact ho.mono hBW.size (Nat.le_refl _), below_step hBW hb hBW.size⟩
      have hlL := bst.2.1
      have hlM := bst2.2.1
      have hi0' : (0 : Int) ≤ (k : Int) := Int.natCast_nonneg _
      have hi1 : (k : Int) < (R.length : Int) := by omega
      have hba' : ba < wr.heap.size := Nat.lt_of_lt_of_le hba hB2.size
      have hbb' : bb < wr.heap.size := Nat.lt_of_lt_of_le hbb hB2.size
      have hwr : w.heap.size + 1 < wr.heap.size := by have := HO.out.2.2.2.1.size; omega
      have hHB2 := Lib.hid hB2
      have HSTR := Lib.hid (And.intro bst bst2)
      have hkM := Lib.hid (fun W (hW : Below wr.heap.size wr W) j (hj : j < M.length) => (hW.cell (p := ⟨bM, oM + j, none⟩) hbM).trans (hcM j hj))
      have HNE := Lib.hid hN
      have HR1 := Lib.hid (And.intro ((hout.2.2.2.1.cell (p := ⟨w.heap.size + 1 + 1, 0, none⟩) hlt).trans HK.out.1) ((hout.2.2.2.1.frozen (p := ⟨w.heap.size + 1 + 1, 0, none⟩) hlt).trans HK.out.2))
      have hwr2 : w.heap.size + 1 + 1 < wr.heap.size := by have := HO.out.2.2.2.1.size; omega
      clear hL hM hN hout hrr hvL hvM bst bst2 hB2 hcM
      go_wp2
      go_region_held3 (fun w' => w'.cell? ⟨w.heap.size, 0, none⟩ = some (.slice (some ⟨ba, oa, none⟩) R.length c1) ∧ w'.cell? ⟨w.heap.size + 1, 0, none⟩ = some (.slice (some ⟨bb, ob, none⟩) R.length c2) ∧ w'.cell? ⟨ba, oa + k, none⟩ = some (.slice aL L.length cL) ∧ w'.cell? ⟨bb, ob + k, none⟩ = some (.slice (some ⟨bM, oM, none⟩) M.length cM))
        (first | exact ⟨(HW.out.2.cell (p := ⟨w.heap.size, 0, none⟩) (by show w.heap.size < _; omega)).trans k2, (HW.out.2.cell (p := ⟨w.heap.size + 1, 0, none⟩) hwr).trans k3, (HW.out.2.cell (p := ⟨ba, oa + k, none⟩) hba').trans p0, (HW.out.2.cell (p := ⟨bb, ob + k, none⟩) hbb').trans q0⟩ | exact ⟨(HV.out.2.cell (p := ⟨w.heap.size, 0, none⟩) (by show w.heap.size < _; omega)).trans k2, (HV.out.2.cell (p := ⟨w.heap.size + 1, 0, none⟩) hwr).trans k3, (HV.out.2.cell (p := ⟨ba, oa + k, none⟩) hba').trans p0, (HV.out.2.cell (p := ⟨bb, ob + k, none⟩) hbb').trans q0⟩ | exact ⟨(HU.out.2.cell (p := ⟨w.heap.size, 0, none⟩) (by show w.heap.size < _; omega)).trans k2, (HU.out.2.cell (p := ⟨w.heap.size + 1, 0, none⟩) hwr).trans k3, (HU.out.2.cell (p := ⟨ba, oa + k, none⟩) hba').trans p0, (HU.out.2.cell (p := ⟨bb, ob + k, none⟩) hbb').trans q0⟩ | exact ⟨k2, k3, p0, q0⟩)
        ((first
          | (go_at_call 30; refine (HOWN.out _ (Below.refl _ _).drew).mono ?_; rintro e w3 ⟨u, rfl, hu, hb3⟩; have HU := Lib.hid (And.intro hu hb3); clear hu hb3)
          | (refine step_push_s (lo := wr.heap.size) (zs := L) (ys := M) (by rfl) _ _ (by rfl) (by rfl) (by rfl) HU.out.1.2.1 (hkM.out _ HU.out.2) HU.out.2.size (by omega) ?_; intro v4 w4 hown' hb'; have HV := Lib.hid (And.intro (own_of (by simp; omega) hown') (HU.out.2.trans hb')); clear hown' hb')
          | (go_at_call 24; refine (HSORT.out _ _ HV.out.2 HV.out.1).mono ?_; rintro e w5 ⟨u5, rfl, hu, hb5⟩; have HW := Lib.hid (And.intro hu hb5); clear hu hb5)
          | fail))
      all_goals
        obtain ⟨qa, gu, cu, hvu, qb⟩ := HW.out.1.rd
        clear qa qb
        subst hvu
        by_cases h4 : N.length ≤ 4
        · have hn := outN_row HO.out HW.out.2 HW.out.1 (.cells #[.slice gu N.length cu] 22)
          have hn4 := hn.2.2.2.1
          have hn8 := hn.2.2.2.2.2.2.2
          have HNR := Lib.hid hn
          clear hn
          go_wp2_with (at_builtin; refine push_row rfl _ _ rfl rfl _ rfl HNR.out.2.2.1 HNR.out.1 HNR.out.2.1 ⟨by rw [hsl.out]; omega, Nat.le_trans (hsm.out k (by omega)) (by omega)⟩ (by have := hm9.out.2; omega) HO.out.2.2.2.2 HNR.out.2.2.2.2.2.2.1 ?_; intro v' w' hown' hb'; obtain ⟨qa, g', cc', hv', qb⟩ := hown'.rd; clear qa qb; rw [List.length_append, List.length_singleton, hsl.out] at hv'; subst hv'; have f1 := (hb'.cell (p := ⟨wb.heap.size, 0, none⟩) (Nat.lt_succ_self _)).trans HNR.out.2.2.2.1; have f2 := (hb'.frozen (p := ⟨wb.heap.size, 0, none⟩) (Nat.lt_succ_self _)).trans HNR.out.2.2.2.2.1; have HN := Lib.hid (And.intro hown' hb'); clear hown' hb')
          go_roundw
          case rel => exact ⟨k + 1, _, by omega, by go_num, by rw [HS.out]; exact outN_next HNR.out.2.2.2.2.2.1 (Nat.le_trans HO.out.2.2.2.2 HNR.out.2.2.2.2.2.2.1) HNR.out.2.2.2.1 HNR.out.2.2.2.2.1 HN.out.2 HN.out.1, Lib.hid (fun i hi => by
            by_cases hik : i = k
            · rw [hik, ← HNE.out]; exact h4
            · exact HFT.out i (by omega))⟩
          case measure => simp [intOf]; omega
        · have r1 := (HW.out.2.cell (p := ⟨w.heap.size + 1 + 1, 0, none⟩) hwr2).trans HR1.out.1
          have q1 := (HW.out.2.frozen (p := ⟨w.heap.size + 1 + 1, 0, none⟩) hwr2).trans HR1.out.2
          have HC := Lib.hid (show adC R S = 5 by rw [HCE.out, if_neg (fun h => h4 (by rw [HNE.out]; exact (fitB_iff.1 h) k hlt2))])
          have HLL := Lib.hid (show adL R S = [] by rw [HLE.out, if_neg (fun h => h4 (by rw [HNE.out]; exact (fitB_iff.1 h) k hlt2))])
          have HB3 := Lib.hid (below_step hHB2.out HW.out.2 hHB2.out.size)
          have h4' : (4 : Int) < (N.length : Int) := by omega
          go_wp2
          refine bodyPost_ret (v := .tuple #[.agg #[.slice none 0 0], .int .i64 (adC R S)]) (by simp [results, Try.results15, go_sem, r1]; exact HC.out.symm) rfl ⟨_, rfl, by rw [HLL.out]; exact ownR_nil _ _ _, HB3.out.setCell (p := ⟨w.heap.size + 1 + 1, 0, none⟩) (by show w.heap.size ≤ w.heap.size + 1 + 1; omega) _⟩
    · obtain rfl : k = R.length := by omega
      have z1 := hout.1
      have HO := Lib.hid hout
      have HB2 := Lib.hid hB2
      clear hB2
      have r1 := (hout.2.2.2.1.cell (p := ⟨w.heap.size + 1 + 1, 0, none⟩) hlt).trans HK.out.1
      have q1 := (hout.2.2.2.1.frozen (p := ⟨w.heap.size + 1 + 1, 0, none⟩) hlt).trans HK.out.2
      have hf : fitB R S = true := fitB_iff.2 (fun i hi => HFT.out i hi)
      have HC := Lib.hid (show adC R S = 0 by rw [HCE.out, hf]; rfl)
      have HLL := Lib.hid (show adL R S = mgM R S R.length by rw [HLE.out, hf]; rfl)
      clear hf hout HVM hsm hml HSN HST HST2
      go_wp2
      refine bodyPost_ret (v := .tuple #[.agg #[.slice g R.length cc], .int .i64 (adC R S)]) (by simp [results, Try.results15, go_sem, r1]; exact HC.out.symm) rfl ⟨_, rfl, ?_, HB2.out.setCell (p := ⟨w.heap.size + 1 + 1, 0, none⟩) (by show w.heap.size ≤ w.heap.size + 1 + 1; omega) _⟩
      rw [HLL.out]
      have ho := HO.out.2.2.1.mono (lo' := w.heap.size + 1 + 1 + 1) (Nat.le_trans hlt (Nat.le_succ _)) (Nat.le_refl _)
      exact (ho.kept ((Chg.refl _ _ _).setCell (p := ⟨w.heap.size + 1 + 1, 0, none⟩) _ (Nat.le_refl _) (Nat.lt_succ_self _)) (.inr (Nat.le_refl _))).mono (by omega) (by simp)
end Go.Proofs.Ytloebbeaccjgjaa
