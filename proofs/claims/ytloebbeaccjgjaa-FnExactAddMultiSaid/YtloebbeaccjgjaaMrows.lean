/-
  Slices of slices of numbers: what they read as, what they own; the laws' own helpers on them. No condition.
-/
import Derived.Test.YtloebbeaccjgjaaInts
namespace Go.Proofs.Ytloebbeaccjgjaa
open Go.ChangeShapes Go.WideShapes Go.ChangeAt Go.RowKit


/-- Row j of a list of rows. -/
def gr (R : List (List Int)) (j : Nat) : List Int := R.getD j []
theorem gr_eq {R : List (List Int)} {j : Nat} (h : j < R.length) : gr R j = R[j] := by simp [gr, h]
theorem gr_ext {R S : List (List Int)} (hl : R.length = S.length) (h : ∀ j, j < R.length → gr R j = gr S j) : R = S := by
  apply List.ext_getElem hl
  intro j h1 h2
  have := h j h1
  rwa [gr_eq h1, gr_eq h2] at this
/-- The lengths of the first k rows, summed. -/
def sumLen (R : List (List Int)) : Nat → Nat
  | 0 => 0
  | k + 1 => sumLen R k + (gr R k).length
theorem sumLen_mono (R : List (List Int)) : ∀ {k m : Nat}, k ≤ m → sumLen R k ≤ sumLen R m
  | k, 0, h => by obtain rfl : k = 0 := by omega
                  exact Nat.le_refl _
  | k, m + 1, h => by
    by_cases he : k = m + 1
    · subst he; exact Nat.le_refl _
    · have := sumLen_mono R (show k ≤ m by omega)
      simp only [sumLen]; omega

/-- The value v is a slice that reads as rows of numbers. -/
def RdR (w : World) (v : Value) (R : List (List Int)) : Prop :=
  R.length ≤ 17592186044416 ∧ ∃ a c, v = .slice a R.length c ∧ (R.length ≠ 0 → ∃ b o, ∃ cs : Nat → Value, a = some ⟨b, o, none⟩ ∧ b < w.heap.size ∧ ∀ j, j < R.length → w.cell? ⟨b, o + j, none⟩ = some (cs j) ∧ Rd w (cs j) (gr R j))

theorem RdR.below {w w' : World} {v : Value} {R : List (List Int)} (h : RdR w v R) (hb : Below w.heap.size w w') : RdR w' v R := by
  obtain ⟨hl, a, c, hv, ha⟩ := h
  refine ⟨hl, a, c, hv, fun hn => ?_⟩
  obtain ⟨b, o, cs, he, hlt, hc⟩ := ha hn
  exact ⟨b, o, cs, he, Nat.lt_of_lt_of_le hlt hb.size, fun j hj => ⟨(hb.cell (p := ⟨b, o + j, none⟩) hlt).trans (hc j hj).1, (hc j hj).2.below hb⟩⟩

/-- The slice value v owns its row of slices, and these own theirs, all in blocks of their own from lo on and below hi. -/
def OwnR (w : World) (lo hi : Nat) (v : Value) (R : List (List Int)) : Prop :=
  (R.length ≤ 17592186044416 ∧ sumLen R R.length ≤ 17592186044416) ∧ ∃ cs : Nat → Value, w.ownsRow lo 22 1 v R.length ((List.range R.length).map cs) ∧ (∀ k, v.ownBlock = some k → k < hi) ∧
    (∀ j, j < R.length → Own w lo hi (cs j) (gr R j)) ∧ (∀ j b, j < R.length → v.ownBlock = some b → (cs j).ownBlock ≠ some b) ∧
    (∀ i j b, i < R.length → j < R.length → i ≠ j → (cs i).ownBlock = some b → (cs j).ownBlock ≠ some b)

theorem OwnR.rd {w : World} {lo hi : Nat} {v : Value} {R : List (List Int)} (h : OwnR w lo hi v R) : RdR w v R := by
  obtain ⟨hl, cs, h, _, hr, _, _⟩ := h
  have h' := h
  obtain ⟨h1, h2⟩ := h
  rcases h2 with ⟨rfl, h0⟩ | ⟨g, cap, cur, rfl, hb, hg, hn, hm, hs, ht⟩
  · refine ⟨hl.1, none, 0, by rw [h0], fun hn => absurd h0 hn⟩
  · refine ⟨hl.1, _, cap, rfl, fun _ => ⟨g, 0, cs, rfl, (Array.getElem?_eq_some_iff.1 hg).1, fun j hj => ⟨?_, (hr j hj).rd⟩⟩⟩
    rw [Nat.zero_add, h'.cellAt j (by omega)]
    simp [hj]

theorem Own.keptAt {w w' : World} {lo hi l h : Nat} {v : Value} {zs : List Int} (ho : Own w lo hi v zs) (hc : Chg w w' l h) (hne : ∀ b, v.ownBlock = some b → b < l ∨ h ≤ b) : Own w' lo hi v zs := by
  obtain ⟨hl, ⟨h1, h2⟩, h3⟩ := ho
  refine ⟨hl, ⟨h1, ?_⟩, h3⟩
  rcases h2 with h2 | ⟨g, cap, cur, rfl, hb', hg, r⟩
  · exact .inl h2
  · exact .inr ⟨g, cap, cur, rfl, hb', by rw [hc.block g (Array.getElem?_eq_some_iff.1 hg).1 (hne g rfl)]; exact hg, r⟩

theorem OwnR.kept {w w' : World} {lo hi lo' hi' : Nat} {v : Value} {R : List (List Int)} (h : OwnR w lo hi v R) (hc : Chg w w' lo' hi') (hne : hi ≤ lo' ∨ hi' ≤ lo) : OwnR w' lo hi v R := by
  obtain ⟨hl, cs, ⟨h1, h2⟩, h3, hr, s1, s2⟩ := h
  refine ⟨hl, cs, ⟨h1, ?_⟩, h3, fun j hj => (hr j hj).kept hc hne, s1, s2⟩
  rcases h2 with h2 | ⟨g, cap, cur, rfl, hb', hg, r⟩
  · exact .inl h2
  · have := h3 g rfl
    exact .inr ⟨g, cap, cur, rfl, hb', by rw [hc.block g (Array.getElem?_eq_some_iff.1 hg).1 (by omega)]; exact hg, r⟩

theorem OwnR.below {w w' : World} {lo hi : Nat} {v : Value} {R : List (List Int)} (h : OwnR w lo hi v R) (hb : Below w.heap.size w w') : OwnR w' lo hi v R :=
  h.kept (below_chg hb hi hi) (.inl (Nat.le_refl _))

theorem OwnR.mono {w : World} {lo hi lo' hi' : Nat} {v : Value} {R : List (List Int)} (h : OwnR w lo hi v R) (h1 : lo' ≤ lo) (h2 : hi ≤ hi') : OwnR w lo' hi' v R := by
  obtain ⟨hl, cs, ⟨a1, a2⟩, h3, hr, s1, s2⟩ := h
  refine ⟨hl, cs, ⟨a1, ?_⟩, fun k hk => Nat.lt_of_lt_of_le (h3 k hk) h2, fun j hj => (hr j hj).mono h1 h2, s1, s2⟩
  rcases a2 with a2 | ⟨g, cap, cur, e, hb', r⟩
  · exact .inl a2
  · exact .inr ⟨g, cap, cur, e, by omega, r⟩

theorem ownR_nil (w : World) (lo hi : Nat) : OwnR w lo hi (.slice none 0 0) [] :=
  ⟨by simp [sumLen], fun _ => undef, World.ownsRow_nil _ _ _ _, fun k hk => by (cases hk), fun j hj => absurd hj (Nat.not_lt_zero j), fun j _ hj => absurd hj (Nat.not_lt_zero j), fun i _ _ hi => absurd hi (Nat.not_lt_zero i)⟩

theorem Try.infoInts : (Try.prog.info? 22).map (fun i => (i.zero, i.size, i.bytes)) = some (some (.slice none 0 0), 1, 24) := by kernel_rfl

set_option maxHeartbeats 400000 in
theorem szInt64S_any (va : Value) (A : List Int) (q : Int) (w : World) (hA : Rd w va A) (h0 : -1 ≤ q) (h1 : q ≤ 1048576) :
    Calls Try.prog 38 #[va, .int .i64 q] w fun e w' => e = .returned (.int .i64 (if (A.length : Int) ≤ q then q - A.length else -1)) ∧ w = w' := by
  obtain ⟨la, a, ca, rfl, ha⟩ := hA
  clear ha
  by_cases hle : (A.length : Int) ≤ q
  · rw [if_pos hle]
    go_enter Try.func38, Try.ntmps38
    go_wp2
    go_ret
    exact ⟨rfl, rfl⟩
  · rw [if_neg hle]
    go_enter Try.func38, Try.ntmps38
    go_wp2
    go_ret
    exact ⟨rfl, rfl⟩

theorem eqInt64S_true (va vb : Value) (A : List Int) (w : World) (hA : Rd w va A) (hB : Rd w vb A) :
    Calls Try.prog 9 #[va, vb] w fun e w' => e = .returned (.bool true) ∧ ∃ n, w' = w.drewN n :=
  (eqInt64S_any va vb A A w hA hB).mono fun e w' ⟨he, hw⟩ => ⟨by rw [he]; simp, hw⟩

set_option maxHeartbeats 1000000 in
theorem eqInt64SS_same (va vb : Value) (R : List (List Int)) (w : World) (hA : RdR w va R) (hB : RdR w vb R) :
    Calls Try.prog 31 #[va, vb] w fun e w' => e = .returned (.bool true) ∧ Below w.heap.size w w' := by
  obtain ⟨la, a, ca, rfl, ha⟩ := hA
  obtain ⟨lb, b, cb, rfl, hb⟩ := hB
  go_enter Try.func31, Try.ntmps31
  go_wp2
  go_loopw [5] (fun i wr => ∃ k n : Nat, k ≤ R.length ∧ i = .int .i64 k ∧ wr = w.drewN n) (fun i _ => R.length - (intOf i).toNat)
  case atStart => exact ⟨0, 0, Nat.zero_le _, rfl, rfl⟩
  case round =>
    obtain ⟨k, n, hk, rfl, hwr⟩ := hrel
    by_cases hlt : k < R.length
    · obtain ⟨ba, oa, csa, rfl, hba, hca⟩ := ha (by omega)
      obtain ⟨bb, ob, csb, rfl, hbb, hcb⟩ := hb (by omega)
      have h1 : wr.cell? ⟨ba, oa + k, none⟩ = some (csa k) := by rw [hwr]; exact (hca k hlt).1
      have h2 : wr.cell? ⟨bb, ob + k, none⟩ = some (csb k) := by rw [hwr]; exact (hcb k hlt).1
      have heq : Hid (∀ m, Calls Try.prog 9 #[csa k, csb k] (wr.drewN m) fun e w' => e = .returned (.bool true) ∧ ∃ q, w' = (wr.drewN m).drewN q) := by
        intro m
        rw [hwr]
        exact eqInt64S_true _ _ (gr R k) _ (((hca k hlt).2.drewN n).drewN m) (((hcb k hlt).2.drewN n).drewN m)
      have Hwr := Lib.hid hwr
      clear hca hcb ha hb hwr
      go_wp2
      go_quiet ((go_at_call 9; exact Calls.quiet_of (heq.out _)))
      go_wp2
      go_roundw
      case rel => exact ⟨k + 1, _, by omega, by go_num, by rw [Hwr.out]; exact dd2 _ _ _⟩
      case measure => simp [intOf]; omega
    · have Hwr := Lib.hid hwr
      clear hwr
      go_wp2
      go_ret
      exact ⟨rfl, by rw [Hwr.out]; exact below_dn _ _⟩

/-- What is left of q when all rows and numbers are taken off; -1 if q does not suffice. -/
def szV (R : List (List Int)) (q : Int) : Int := if (R.length : Int) + sumLen R R.length ≤ q then q - (R.length + sumLen R R.length) else -1

set_option maxHeartbeats 1000000 in
theorem szInt64SS_any (va : Value) (R : List (List Int)) (q : Int) (w : World) (hA : RdR w va R) (h0 : -1 ≤ q) (h1 : q ≤ 1048576) :
    Calls Try.prog 25 #[va, .int .i64 q] w fun e w' => e = .returned (.int .i64 (szV R q)) ∧ w = w' := by
  obtain ⟨la, a, ca, rfl, ha⟩ := hA
  by_cases hle : (R.length : Int) ≤ q
  · go_enter Try.func25, Try.ntmps25
    go_wp2
    go_loop [1, 5] (fun s i => ∃ k : Nat, k ≤ R.length ∧ i = .int .i64 k ∧ s = .int .i64 (q - R.length - sumLen R k) ∧ (R.length : Int) + sumLen R k ≤ q) (fun _ i => R.length - (intOf i).toNat)
    case atStart => exact ⟨0, Nat.zero_le _, rfl, by simp [sumLen], by simp [sumLen]; omega⟩
    case round =>
      obtain ⟨k, hk, rfl, rfl, hs⟩ := hrel
      by_cases hlt : k < R.length
      · obtain ⟨ba, oa, csa, rfl, hba, hca⟩ := ha (by omega)
        have hc1 := (hca k hlt).1
        have hc2 := (hca k hlt).2
        have hmono := sumLen_mono R (show k + 1 ≤ R.length by omega)
        have hst : sumLen R (k + 1) = sumLen R k + (gr R k).length := rfl
        have Hst := Lib.hid hst
        clear hca ha hst
        by_cases hf : ((gr R k).length : Int) ≤ q - R.length - sumLen R k
        · have hz := fun W (h : Rd W (csa k) (gr R k)) => szInt64S_any (csa k) (gr R k) (q - R.length - sumLen R k) W h (by omega) (by omega)
          rw [if_pos hf] at hz
          have Hz := Lib.hid hz
          clear hz
          go_wp2_with fail
          refine (Hz.out _ hc2).mono ?_
          rintro e w' ⟨rfl, rfl⟩
          go_wp2
          go_round
          case rel => exact ⟨k + 1, by omega, by go_num, by rw [Hst.out]; exact vint (by omega), by rw [Hst.out]; omega⟩
          case measure => simp [intOf]; omega
        · have hz := fun W (h : Rd W (csa k) (gr R k)) => szInt64S_any (csa k) (gr R k) (q - R.length - sumLen R k) W h (by omega) (by omega)
          rw [if_neg hf] at hz
          have Hz := Lib.hid hz
          have hno : ¬ ((R.length : Int) + sumLen R R.length ≤ q) := by rw [Hst.out] at hmono; omega
          have hv : Hid (szV R q = -1) := by show szV R q = -1; rw [szV, if_neg hno]
          clear hz hno
          go_wp2_with fail
          refine (Hz.out _ hc2).mono ?_
          rintro e w' ⟨rfl, rfl⟩
          go_wp2
          go_ret
          exact ⟨ret_int hv.out.symm, rfl⟩
      · obtain rfl : k = R.length := by omega
        have hyes : Hid (szV R q = q - R.length - sumLen R R.length) := by show szV R q = _; rw [szV, if_pos hs]; omega
        go_wp2
        go_ret
        exact ⟨ret_int hyes.out.symm, rfl⟩
  · have hv : szV R q = -1 := by rw [szV, if_neg (by omega)]
    rw [hv]
    clear hv
    go_enter Try.func25, Try.ntmps25
    go_wp2
    go_ret
    exact ⟨rfl, rfl⟩

/-- The places of a slice of n slices of which the first k are filled. -/
def part (cs : Nat → Value) (k n : Nat) : List Value := (List.range n).map fun (j : Nat) => if j < k then cs j else .slice none 0 0
theorem part_length (cs : Nat → Value) (k n : Nat) : (part cs k n).length = n := by simp [part]
theorem part_at (cs : Nat → Value) (k n : Nat) (h : k < n) : (part cs k n)[k]? = some (.slice none 0 0) := by simp [part, h]
theorem part_set (cs : Nat → Value) (u : Value) (k n : Nat) : (part cs k n).set k u = part (fun j => if j = k then u else cs j) (k + 1) n := by
  apply List.ext_getElem
  · simp [part]
  · intro j h1 h2
    simp only [part, List.length_map, List.length_range] at h2
    rw [List.getElem_set]
    simp only [part, List.getElem_map, List.getElem_range]
    by_cases h : k = j
    · subst h; simp
    · rw [if_neg h]
      by_cases hj : j < k
      · rw [if_pos hj, if_pos (by omega), if_neg (fun e => h e.symm)]
      · rw [if_neg hj, if_neg (by omega)]
theorem part_full (cs : Nat → Value) (n : Nat) : part cs n n = (List.range n).map cs := by
  unfold part
  apply List.map_congr_left
  intro j hj
  rw [if_pos (List.mem_range.1 hj)]

set_option maxRecDepth 100000 in
set_option maxHeartbeats 1000000 in
theorem toInt64SS_any (va : Value) (R : List (List Int)) (w : World) (hA : RdR w va R) (hsm : R.length + sumLen R R.length ≤ 1048576) :
    Calls Try.prog 28 #[va] w fun e w' => ∃ v, e = .returned v ∧ OwnR w' w.heap.size w'.heap.size v R ∧ Below w.heap.size w w' := by
  obtain ⟨i0, hi, hz0, hz1, hz2⟩ := info_parts Try.infoInts
  have hA0 := hA
  obtain ⟨la, a, ca, rfl, ha⟩ := hA
  go_enter Try.func28, Try.ntmps28
  go_wp2_with (at_make; refine wpList_make_full _ rfl _ _ 29 rfl w.heap.size 22 i0 (.slice none 0 0) 1 Try.underlying29 hi hz0 hz1 _ _ _ _ R.length rfl rfl rfl rfl ?c1 ?c2 ?c3 ?_)
  case c1 => rw [hz2]; omega
  case c2 => unfold maxLen; omega
  case c3 => exact Nat.le_refl _
  intro w1 hown1 hgrow1
  have hB1 : Below w.heap.size w w1 := (Below.refl _ _).grown hgrow1 (Nat.le_refl _) (by intro k hk; cases hk)
  have hs1 : w.heap.size < w1.heap.size := (hown1.lt _ rfl).2
  have hown2 : w1.ownsRow w.heap.size 22 1 (.slice (some ⟨w.heap.size, 0, none⟩) R.length R.length) R.length (part (fun _ => undef) 0 R.length) := by
    have e : (madeCells #[Value.slice none 0 0] R.length).toList = part (fun _ => undef) 0 R.length := by
      apply List.ext_getElem
      · simp [madeCells, part]
      · intro j h1 h2
        simp [madeCells, Nat.mod_one, part]
    rw [← e]; exact hown1
  clear hown1 hgrow1
  go_wp2
  go_loopw [4] (fun i wr => ∃ (k : Nat) (cs : Nat → Value), k ≤ R.length ∧ i = .int .i64 k ∧ wr.ownsRow w.heap.size 22 1 (.slice (some ⟨w.heap.size, 0, none⟩) R.length R.length) R.length (part cs k R.length) ∧ Below w.heap.size w wr ∧ w.heap.size < wr.heap.size ∧
      (∀ j, j < k → Own wr (w.heap.size + 1) wr.heap.size (cs j) (gr R j)) ∧ (∀ i j b, i < k → j < k → i ≠ j → (cs i).ownBlock = some b → (cs j).ownBlock ≠ some b)) (fun i _ => R.length - (intOf i).toNat)
  case atStart => exact ⟨0, _, Nat.zero_le _, rfl, hown2, hB1, hs1, fun j hj => absurd hj (Nat.not_lt_zero j), fun i _ _ hi => absurd hi (Nat.not_lt_zero i)⟩
  case round =>
    obtain ⟨k, cs, hk, rfl, hown, hB, hsz, hrows, hsep⟩ := hrel
    have HR := Lib.hid (And.intro hrows hsep)
    clear hrows hsep
    by_cases hlt : k < R.length
    · obtain ⟨ba, oa, csa, rfl, hba, hca⟩ := ha (by omega)
      have h1 : wr.cell? ⟨ba, oa + k, none⟩ = some (csa k) := (hB.cell (p := ⟨ba, oa + k, none⟩) hba).trans (hca k hlt).1
      have h2 := (hca k hlt).2.below hB
      clear hca ha
      go_wp2_with fail
      refine (toInt64S_any _ (gr R k) _ h2).mono ?_
      rintro e w2 ⟨u, rfl, hu, hb2⟩
      obtain ⟨_, ga, gc, hgv, _⟩ := hu.rd
      subst hgv
      have hs2 := hb2.size
      have hown3 := row_below hown hb2
      have hfz := hown3.frozenAt k
      have hc0 : w2.cell? ⟨w.heap.size, k, none⟩ = some (.slice none 0 0) := by
        rw [hown3.cellAt k (by omega)]
        exact part_at _ _ _ hlt
      have hB2 := below_step hB hb2 hB.size
      have hst := hown3.stored k (.slice ga (gr R k).length gc)
      have hB3 := hB2.setCell (p := ⟨w.heap.size, k, none⟩) (Nat.le_refl _) (.slice ga (gr R k).length gc)
      have hch : Chg w2 (w2.setCell ⟨w.heap.size, k, none⟩ (.slice ga (gr R k).length gc)) w.heap.size (w.heap.size + 1) := (Chg.refl _ _ _).setCell _ _ (Nat.le_refl _) (Nat.lt_succ_self _)
      have HS := Lib.hid (And.intro hst.1 (And.intro hB3 hch))
      have HU := Lib.hid hu
      have HB2 := Lib.hid hb2
      clear hst hB3 hch hown hown3 hB2 hu hb2 h1 h2
      go_wp2
      go_roundw
      case rel =>
        refine ⟨k + 1, fun j => if j = k then .slice ga (gr R k).length gc else cs j, by omega, by go_num, by rw [← part_set]; exact HS.out.1, HS.out.2.1, by simp; omega, fun j hj => ?_, fun i j b hi hj hij hb => ?_⟩
        · by_cases hjk : j = k
          · subst hjk
            simp only [if_true]
            exact (HU.out.kept HS.out.2.2 (.inr hsz)).mono hsz (by simp)
          · simp only [if_neg hjk]
            exact (((HR.out.1 j (by omega)).below HB2.out).kept HS.out.2.2 (.inr (Nat.le_refl _))).mono (Nat.le_refl _) (by simp; omega)
        · by_cases hik : i = k
          · subst hik
            simp only [if_true] at hb
            have hji : ¬ j = i := fun e => hij e.symm
            simp only [if_neg hji]
            intro he
            have h1 := (HU.out.2.1.lt b hb).1
            have h2 := (HR.out.1 j (by omega)).2.2 b he
            omega
          · simp only [if_neg hik] at hb
            by_cases hjk : j = k
            · subst hjk
              simp only [if_true]
              intro he
              have h1 := (HU.out.2.1.lt b he).1
              have h2 := (HR.out.1 i (by omega)).2.2 b hb
              omega
            · simp only [if_neg hjk]
              exact HR.out.2 i j b (by omega) (by omega) hij hb
      case measure => simp [intOf]; omega
    · go_wp2
      go_ret
      obtain rfl : k = R.length := by omega
      rw [part_full] at hown
      refine ⟨_, rfl, ⟨⟨la, by omega⟩, cs, hown, fun b hb => by cases hb; exact hsz, fun j hj => (HR.out.1 j hj).mono (Nat.le_succ _) (Nat.le_refl _), fun j b hj hb he => ?_, fun i j b hi hj hij hb => HR.out.2 i j b hi hj hij hb⟩, hB⟩
      have hbe : b = w.heap.size := by cases hb; rfl
      have hlo := ((HR.out.1 j hj).2.1.lt _ he).1
      omega

/-- What a marked slice of slices holds behind its first k rows. -/
def markR (q : Int) (R : List (List Int)) (k : Nat) : List (List Int) := (List.range R.length).map fun (j : Nat) => if j < k then marks (q + sumLen R j) (gr R j).length else gr R j
theorem markR_length (q : Int) (R : List (List Int)) (k : Nat) : (markR q R k).length = R.length := by simp [markR]
theorem markR_gr (q : Int) (R : List (List Int)) (k j : Nat) (h : j < R.length) : gr (markR q R k) j = if j < k then marks (q + sumLen R j) (gr R j).length else gr R j := by
  rw [gr_eq (by rw [markR_length]; exact h)]
  simp [markR]
theorem markR_zero (q : Int) (R : List (List Int)) : markR q R 0 = R := by
  apply gr_ext (markR_length _ _ _)
  intro j hj
  rw [markR_length] at hj
  rw [markR_gr _ _ _ _ hj, if_neg (Nat.not_lt_zero j)]

/-- The blocks of a slice: none, or one. -/
theorem Own.tight {w : World} {lo hi : Nat} {v : Value} {zs : List Int} (h : Own w lo hi v zs) : ∃ l u, lo ≤ u ∧ Own w l u v zs ∧ (∀ b, v.ownBlock = some b → l = b ∧ u = b + 1) ∧ (∀ b, v.ownBlock ≠ some b → b < l ∨ u ≤ b) ∧ (l = u ∨ lo ≤ l ∧ u ≤ hi) := by
  have h0 := h
  obtain ⟨hl, ⟨h1, h2⟩, h3⟩ := h
  rcases h2 with ⟨rfl, hz⟩ | ⟨g, cap, cur, rfl, hb, hg, r⟩
  · refine ⟨lo, lo, Nat.le_refl _, ⟨hl, ⟨h1, .inl ⟨rfl, hz⟩⟩, fun k hk => by cases hk⟩, fun b hb => by (cases hb), fun b _ => by omega, .inl rfl⟩
  · have hgh := h3 g rfl
    refine ⟨g, g + 1, by omega, ⟨hl, ⟨h1, .inr ⟨g, cap, cur, rfl, Nat.le_refl _, hg, r⟩⟩, fun k hk => by cases hk; exact Nat.lt_succ_self _⟩, fun b hb => by cases hb; exact ⟨rfl, rfl⟩, fun b hb => ?_, .inr ⟨hb, by omega⟩⟩
    have : b ≠ g := fun e => hb (by rw [e]; rfl)
    omega

theorem gr_set {R : List (List Int)} {i j : Nat} {x : List Int} (hi : i < R.length) : gr (R.set i x) j = if j = i then x else gr R j := by
  unfold gr
  by_cases h : j = i
  · subst h; simp [hi]
  · have h' : ¬ i = j := fun e => h e.symm
    simp [h, h']
theorem sumLen_congr {R S : List (List Int)} : ∀ {k : Nat}, (∀ j, j < k → (gr R j).length = (gr S j).length) → sumLen R k = sumLen S k
  | 0, _ => rfl
  | k + 1, h => by simp only [sumLen]; rw [sumLen_congr (fun j hj => h j (by omega)), h k (by omega)]
theorem markR_lens (q : Int) (R : List (List Int)) (k : Nat) : sumLen (markR q R k) R.length = sumLen R R.length := by
  apply sumLen_congr
  intro j hj
  rw [markR_gr _ _ _ _ hj]
  by_cases h : j < k
  · rw [if_pos h, marks_length]
  · rw [if_neg h]

set_option maxHeartbeats 1000000 in
theorem markInt64SS_any (va : Value) (R : List (List Int)) (q : Int) (lo hi : Nat) (w : World) (hA : OwnR w lo hi va R) (h0 : 0 ≤ q) (h1 : q ≤ 1000000000000) :
    Calls Try.prog 32 #[va, .int .i64 q] w fun e w' => e = .returned (.int .i64 (q + sumLen R R.length)) ∧ OwnR w' lo hi va (markR q R R.length) ∧ Chg w w' lo hi := by
  obtain ⟨⟨hl, hsum⟩, cs, hrow, hhi, hrows, s1, s2⟩ := hA
  have hrow2 := hrow
  obtain ⟨hlen, hcase⟩ := hrow2
  rcases hcase with ⟨rfl, hn⟩ | ⟨g, cap, cur, rfl, hb, hg, hnc, hm, hs, ht⟩
  · obtain rfl : R = [] := List.length_eq_zero_iff.1 hn
    go_enter Try.func32, Try.ntmps32
    go_wp2
    refine wp_loop_rounds 1 ?_
    rw [rounds_succ]
    go_wp2
    go_ret
    exact ⟨by simp [sumLen], ownR_nil _ _ _, Chg.refl _ _ _⟩
  · clear hlen hg hs ht
    have S1 := Lib.hid s1
    have S2 := Lib.hid s2
    have HH := Lib.hid hhi
    clear s1 s2 hhi
    go_enter Try.func32, Try.ntmps32
    go_wp2
    go_loopw [1, 5] (fun q' i wr => ∃ k : Nat, k ≤ R.length ∧ i = .int .i64 k ∧ q' = .int .i64 (q + sumLen R k) ∧ wr.ownsRow lo 22 1 (.slice (some ⟨g, 0, none⟩) R.length cap) R.length ((List.range R.length).map cs) ∧ (∀ j, j < R.length → Own wr lo hi (cs j) (gr (markR q R k) j)) ∧ Chg w wr lo hi) (fun _ i _ => R.length - (intOf i).toNat)
    case atStart => exact ⟨0, Nat.zero_le _, rfl, by simp [sumLen], hrow, by rw [markR_zero]; exact hrows, Chg.refl _ _ _⟩
    case round =>
      obtain ⟨k, hk, rfl, rfl, hown, hrs, hgr⟩ := hrel
      have hmono := sumLen_mono R (show k ≤ R.length by omega)
      by_cases hlt : k < R.length
      · have hc0 : wr.cell? ⟨g, k, none⟩ = some (cs k) := by
          rw [hown.cellAt k (by omega)]
          simp [hlt]
        have hk0 := hrs k hlt
        rw [markR_gr _ _ _ _ hlt, if_neg (Nat.lt_irrefl k)] at hk0
        have HRS := Lib.hid hrs
        have HOWN := Lib.hid hown
        clear hrs
        obtain ⟨l, u, hlu, htight, t1, t2, t3⟩ := hk0.tight
        have T := Lib.hid (And.intro t1 (And.intro t2 t3))
        clear t1 t2 t3 hk0
        go_wp2_with fail
        with_reducible refine (markInt64S_any _ (gr R k) _ l u _ htight (by omega) (by omega)).mono ?_
        rintro e w2 ⟨rfl, hm2, hc2⟩
        have hchg : Chg wr w2 lo hi := by
          rcases T.out.2.2 with h | ⟨h, h'⟩
          · subst h
            exact ⟨hc2.os, hc2.tape, hc2.output, hc2.size, fun i hi _ => hc2.block i hi (by omega)⟩
          · exact hc2.mono h h'
        have hnone : ∀ b, (cs k).ownBlock ≠ some b → b < l ∨ u ≤ b := T.out.2.1
        have hrow3 : w2.ownsRow lo 22 1 (.slice (some ⟨g, 0, none⟩) R.length cap) R.length ((List.range R.length).map cs) := by
          obtain ⟨a1, a2⟩ := HOWN.out
          refine ⟨a1, ?_⟩
          rcases a2 with ⟨a2, _⟩ | ⟨g', cap', cur', e, hb', hg', r⟩
          · cases a2
          · cases e
            exact .inr ⟨g, cap, cur', rfl, hb', by rw [hc2.block g (Array.getElem?_eq_some_iff.1 hg').1 (hnone g (S1.out k g hlt rfl))]; exact hg', r⟩
        have hrs3 : ∀ j, j < R.length → Own w2 lo hi (cs j) (gr (markR q R (k + 1)) j) := by
          intro j hj
          rw [markR_gr _ _ _ _ hj]
          by_cases hjk : j = k
          · subst hjk
            rw [if_pos (Nat.lt_succ_self _)]
            have h5 := HRS.out j hj
            obtain ⟨b1, ⟨b2, b3⟩, b4⟩ := hm2
            refine ⟨b1, ⟨b2, ?_⟩, h5.2.2⟩
            rcases b3 with b3 | ⟨g', cap', cur', e, hb', hg', r⟩
            · exact .inl b3
            · exact .inr ⟨g', cap', cur', e, (h5.2.1.lt g' (by rw [e]; rfl)).1, hg', r⟩
          · have h5 := HRS.out j hj
            rw [markR_gr _ _ _ _ hj] at h5
            have e5 : (if j < k + 1 then marks (q + sumLen R j) (gr R j).length else gr R j) = (if j < k then marks (q + sumLen R j) (gr R j).length else gr R j) := by
              by_cases h : j < k
              · rw [if_pos h, if_pos (by omega)]
              · rw [if_neg h, if_neg (by omega)]
            rw [e5]
            exact h5.keptAt hc2 (fun b hb => hnone b (fun he => S2.out k j b hlt hj (fun e => hjk e.symm) he hb))
        have H3 := Lib.hid (And.intro hrs3 hchg)
        have HG := Lib.hid hgr
        clear hm2 hc2 hchg hnone hrs3 hown hgr
        go_wp2
        go_roundw
        case rel => exact ⟨k + 1, by omega, by go_num, by simp only [sumLen]; exact vint (by omega), hrow3, H3.out.1, HG.out.trans H3.out.2⟩
        case measure => simp [intOf]; omega
      · go_wp2
        go_ret
        obtain rfl : k = R.length := by omega
        refine ⟨rfl, ⟨⟨by rw [markR_length]; exact hl, by rw [markR_length, markR_lens]; exact hsum⟩, cs, by rw [markR_length]; exact hown, HH.out, by rw [markR_length]; exact hrs, by rw [markR_length]; exact S1.out, by rw [markR_length]; exact S2.out⟩, hgr⟩

set_option maxHeartbeats 1000000 in
theorem heldInt64SS_same (va : Value) (R : List (List Int)) (q : Int) (lo hi : Nat) (w : World) (hA : OwnR w lo hi va (markR q R R.length)) (h0 : 0 ≤ q) (h1 : q ≤ 1000000000000) :
    Calls Try.prog 33 #[va, .int .i64 q] w fun e w' => e = .returned (.int .i64 (q + sumLen R R.length)) ∧ Below w.heap.size w w' := by
  have hsum : sumLen R R.length ≤ 17592186044416 := by have := hA.1.2; rwa [markR_length, markR_lens] at this
  have hA0 := hA.rd
  obtain ⟨la, a, ca, rfl, ha⟩ := hA0
  rw [markR_length] at ha la
  rw [markR_length]
  clear hA
  go_enter Try.func33, Try.ntmps33
  go_wp2
  go_loop [1, 5] (fun q' i => ∃ k : Nat, k ≤ R.length ∧ i = .int .i64 k ∧ q' = .int .i64 (q + sumLen R k)) (fun _ i => R.length - (intOf i).toNat)
  case atStart => exact ⟨0, Nat.zero_le _, rfl, by simp [sumLen]⟩
  case round =>
    obtain ⟨k, hk, rfl, rfl⟩ := hrel
    have hmono := sumLen_mono R (show k ≤ R.length by omega)
    by_cases hlt : k < R.length
    · obtain ⟨ba, oa, csa, rfl, hba, hca⟩ := ha (by omega)
      have hc1 := (hca k hlt).1
      have hc2 := (hca k hlt).2
      rw [markR_gr _ _ _ _ hlt, if_pos hlt] at hc2
      have hmono2 := sumLen_mono R (show k + 1 ≤ R.length by omega)
      have hst : sumLen R (k + 1) = sumLen R k + (gr R k).length := rfl
      have Hst := Lib.hid hst
      rw [hst] at hmono2
      clear hca ha hst
      go_wp2_with fail
      with_reducible refine (heldInt64S_any _ _ _ _ hc2 (by omega) (by omega)).mono ?_
      rintro e w2 ⟨rfl, rfl⟩
      rw [held_marks _ _ _ rfl]
      go_wp2
      go_round
      case rel => exact ⟨k + 1, by omega, by go_num, by rw [Hst.out]; exact vint (by omega)⟩
      case measure => simp [intOf]; omega
    · go_wp2
      go_ret
      obtain rfl : k = R.length := by omega
      exact ⟨rfl, Below.refl _ _⟩
end Go.Proofs.Ytloebbeaccjgjaa
