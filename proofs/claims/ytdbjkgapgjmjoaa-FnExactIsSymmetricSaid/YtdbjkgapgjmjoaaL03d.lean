/-
  Contracts of the operations on patterns (chapter 3), fourth part: roots and canonical patterns. No condition beyond each contract's own.
-/
import Derived.Test.YtdbjkgapgjmjoaaL03b
import Derived.Test.YtdbjkgapgjmjoaaMore
import Derived.Test.YtdbjkgapgjmjoaaCmp
import Derived.Deep.RegionWith
import Derived.Deep.RegionHeld3
namespace Go.Proofs.Ytdbjkgapgjmjoaa
open Go.ChangeShapes Go.WideShapes Go.ChangeAt Go.RowKit


theorem repeated_int (v : Value) (p : List Int) (t : Int) (w : World) (hp : Rd w v p) (hn : 1 ≤ p.length) (h0 : 0 ≤ t) (ht : t ≤ 1000) (htp : t.toNat * p.length ≤ 1000) :
    Calls Try.prog 107 #[v, .int .i64 t] w fun e w' => ∃ u, e = .returned u ∧ Own w' w.heap.size w'.heap.size u (repL p t.toNat) ∧ Below w.heap.size w w' := by
  obtain ⟨n, rfl⟩ : ∃ n : Nat, t = n := ⟨t.toNat, by omega⟩
  exact repeated_any v p n w hp hn (by omega) (by simpa using htp)
theorem l03Repeat_int (v : Value) (p : List Int) (t : Int) (w : World) (hp : Rd w v p) (hn : 1 ≤ p.length) (h0 : 0 ≤ t) (ht : t ≤ 1000) (htp : t.toNat * p.length ≤ 1000) :
    Calls Try.prog 104 #[v, .int .i64 t] w fun e w' => ∃ u, e = .returned u ∧ Own w' w.heap.size w'.heap.size u (repL p t.toNat) ∧ Below w.heap.size w w' := by
  obtain ⟨n, rfl⟩ : ∃ n : Nat, t = n := ⟨t.toNat, by omega⟩
  exact l03Repeat_any v p n w hp hn (by omega) (by simpa using htp)

/-- The first k throws, repeated, are the list. -/
def rtP (p : List Int) (k : Nat) : Bool := ((p.length : Int) % (k : Int) == 0) && decide (repL (p.take k) ((p.length : Int) / (k : Int)).toNat = p)
def rtK (p : List Int) : Nat := match findI (fun j => rtP p (j + 1)) p.length with | some j => j + 1 | none => p.length
def rootL (p : List Int) : List Int := p.take (rtK p)
theorem rt_at {p : List Int} {k : Nat} (h1 : 1 ≤ k) (hk : k ≤ p.length) (h : rtP p k = true) (hb : ∀ j, 1 ≤ j → j < k → rtP p j = false) : rtK p = k := by
  have e : findI (fun j => rtP p (j + 1)) p.length = some (k - 1) := findI_some (i := k - 1) (by rw [show k - 1 + 1 = k by omega]; exact h) (fun j hj => hb (j + 1) (by omega) (by omega)) (by omega)
  simp only [rtK, e]
  omega
theorem rt_self {p : List Int} (h1 : 1 ≤ p.length) : rtP p p.length = true := by
  have e1 : (p.length : Int) % (p.length : Int) = 0 := Int.emod_self
  have e2 : (p.length : Int) / (p.length : Int) = 1 := Int.ediv_self (by omega)
  simp [rtP, e2, repL]
theorem rt_div {p : List Int} {k : Nat} (h1 : 1 ≤ k) (hk : k ≤ p.length) (h12 : p.length ≤ 12) : 0 ≤ (p.length : Int) / (k : Int) ∧ (p.length : Int) / (k : Int) ≤ 12 ∧ ((p.length : Int) / (k : Int)).toNat * (p.take k).length ≤ 1000 := by
  have e : (p.take k).length = k := by simp; omega
  have h2 : 0 ≤ (p.length : Int) / (k : Int) := Int.ediv_nonneg (by omega) (by omega)
  have h3 : (p.length : Int) / (k : Int) * (k : Int) ≤ p.length := Int.ediv_mul_le _ (by omega)
  have h4 : (p.length : Int) / (k : Int) * 1 ≤ (p.length : Int) / (k : Int) * (k : Int) := Int.mul_le_mul_of_nonneg_left (by omega) h2
  have h5 : ((((p.length : Int) / (k : Int)).toNat * k : Nat) : Int) = (p.length : Int) / (k : Int) * (k : Int) := by rw [Int.natCast_mul, Int.toNat_of_nonneg h2]
  rw [e]
  omega

theorem rt_yes {p : List Int} {k : Nat} (h1 : 1 ≤ k) (hk : k ≤ p.length) (hb : ∀ j, 1 ≤ j → j < k → rtP p j = false) (c1 : ((p.length : Int) % (k : Int) == 0) = true) (c2 : decide (repL (p.take k) ((p.length : Int) / (k : Int)).toNat = p) = true) : rootL p = p.take k := by
  rw [rootL, rt_at h1 hk (by rw [rtP, c1, c2]; rfl) hb]
theorem rt_no {p : List Int} {k : Nat} (h1 : 1 ≤ k) (hk : k ≤ p.length) (hb : ∀ j, 1 ≤ j → j < k → rtP p j = false) (h : rtP p k = false) : k + 1 ≤ p.length ∧ ∀ j, 1 ≤ j → j < k + 1 → rtP p j = false := by
  refine ⟨?_, fun j h1 h2 => ?_⟩
  · by_cases he : k = p.length
    · rw [he, rt_self (by omega)] at h; cases h
    · omega
  · by_cases he : j = k
    · rw [he]; exact h
    · exact hb j h1 (by omega)

set_option maxHeartbeats 4000000 in
theorem root_any (v : Value) (p : List Int) (w : World) (hp : Rd w v p) (hcp : Cp v) (h1 : 1 ≤ p.length) (h12 : p.length ≤ 12) :
    Calls Try.prog 98 #[v] w fun e w' => ∃ u, e = .returned u ∧ Own w' w.heap.size w'.heap.size u (rootL p) ∧ Below w.heap.size w w' := by
  have hp0 := hp
  obtain ⟨la, a, ca, rfl, ha⟩ := hp
  obtain ⟨ba, oa, rfl, hba, hca⟩ := ha (by omega)
  have hcap : p.length ≤ ca := hcp _ _ _ rfl
  clear ha hca hcp
  go_enter Try.func98, Try.ntmps98
  go_wp2
  go_loopw [3] (fun i wr => ∃ k : Nat, 1 ≤ k ∧ k ≤ p.length ∧ i = .int .i64 k ∧ (∀ j, 1 ≤ j → j < k → rtP p j = false) ∧ Below w.heap.size w wr) (fun i _ => p.length + 1 - (intOf i).toNat)
  case atStart => exact ⟨1, Nat.le_refl _, h1, rfl, fun j hj1 hj2 => by omega, Below.refl _ _⟩
  case round =>
    obtain ⟨k, hk1, hk, rfl, heq, hB⟩ := hrel
    have Heq := Lib.hid heq
    clear heq
    have hp1 := hp0.below hB
    have hd0 := rt_div hk1 hk h12
    obtain ⟨q, hq⟩ : ∃ q : Int, q = (p.length : Int) / (k : Int) := ⟨_, rfl⟩
    obtain ⟨rr, hrr⟩ : ∃ rr : Int, rr = (p.length : Int) % (k : Int) := ⟨_, rfl⟩
    have e1 : (p.length : Int).tmod (k : Int) = rr := by rw [hrr]; exact Int.tmod_eq_emod_of_nonneg (by omega)
    have e2 : (p.length : Int).tdiv (k : Int) = q := by rw [hq]; exact Int.tdiv_eq_ediv_of_nonneg (by omega)
    have e2' : (p.length : Int) / (k : Int) = q := hq.symm
    have e1' : (p.length : Int) % (k : Int) = rr := hrr.symm
    have hd : 0 ≤ q ∧ q ≤ 12 ∧ q.toNat * (p.take k).length ≤ 1000 := by rw [hq]; exact hd0
    have e3 : IntKind.i64.wrap q = q := IntWalk.i64_in _ (by omega)
    have Hq := Lib.hid hq
    have Hr := Lib.hid hrr
    clear hd0 hq hrr
    have hpe : Hid (∀ n, Calls Try.prog 84 #[.slice (some ⟨ba, oa, none⟩) p.length ca] (wr.drewN n) fun e w' => e = .returned (.int .i64 p.length) ∧ w' = wr.drewN n) := fun n => (period_any _ p _ (hp1.drewN n)).mono fun e w' ⟨he, hw⟩ => ⟨he, hw.symm⟩
    have hpt := Lib.hid (rd_take hp1 hk hk1)
    have hlt : Hid (1 ≤ (p.take k).length) := by show 1 ≤ (p.take k).length; simp; omega
    cases c1 : (rr == 0)
    · go_wp2
      go_quiet ((go_at_call 84; exact Calls.quiet_of_same (hpe.out _)))
      go_wp2
      go_roundw
      case rel =>
        obtain ⟨r1, r2⟩ := rt_no hk1 hk Heq.out (by rw [rtP, ← Hr.out, c1]; rfl)
        exact ⟨k + 1, by omega, r1, by go_num, r2, below_step hB (below_dn _ _) hB.size⟩
      case measure => simp [intOf]; omega
    have HP := Lib.hid (And.intro hp0 (And.intro hp1 hB))
    clear hp0 hB hpe hba
    have k0 : (0 : Int) ≤ (k : Int) := Int.natCast_nonneg _
    have k1 : (k : Int) ≤ (ca : Int) := by omega
    have k2 : ¬ (k : Int) = 0 := by omega
    have k3 : ¬ k = 0 := by omega
    go_wp2
    go_region_held3 (fun _ => True) (first | trivial | go_keep) (first | (go_at_call 84; (with_reducible refine (period_any _ p _ ?_).mono ?_); exact rd_drew hp1; rintro e w' ⟨rfl, rfl⟩) | (go_at_call 107; (with_reducible refine (repeated_int _ (p.take k) _ _ (rd_drew hpt.out) hlt.out hd.1 (by omega) hd.2.2).mono ?_); rintro e w2 ⟨u, rfl, hown, hb2⟩) | (go_at_call 82; (with_reducible refine (sameNumbers_any _ _ _ p _ hown.rd ((rd_drew hp1).below hb2)).mono ?_); rintro e w3 ⟨rfl, n, rfl⟩))
    all_goals
      have hB2 := below_step (below_step HP.out.2.2.drew hb2 HP.out.2.2.drew.size) (below_dn w2 n) (below_step HP.out.2.2.drew hb2 HP.out.2.2.drew.size).size
      have HB2 := Lib.hid hB2
      clear hB2 hown hb2 e1 e2 e3 e1' e2' hp1
      cases c2 : decide (repL (p.take k) q.toNat = p)
      · go_wp2
        go_roundw
        case rel =>
          obtain ⟨r1, r2⟩ := rt_no hk1 hk Heq.out (by rw [rtP, ← Hr.out, ← Hq.out, c1, c2]; rfl)
          exact ⟨k + 1, by omega, r1, by go_num, r2, HB2.out⟩
        case measure => simp [intOf]; omega
      · have hr := Lib.hid (rt_yes hk1 hk Heq.out (by rw [← Hr.out]; exact c1) (by rw [← Hq.out]; exact c2))
        go_wp2_with fail
        refine (copyNumbers_any _ (p.take k) _ (rd_take (HP.out.1.below HB2.out) hk hk1) hlt.out).mono ?_
        rintro e w4 ⟨u4, rfl, hown4, hb4⟩
        go_wp2
        go_ret
        exact ⟨_, rfl, by rw [hr.out]; exact hown4.mono HB2.out.size (Nat.le_refl _), below_step HB2.out hb4 HB2.out.size⟩

set_option maxHeartbeats 4000000 in
theorem l03Root_any (v : Value) (p : List Int) (w : World) (hp : Rd w v p) (hcp : Cp v) (h1 : 1 ≤ p.length) (h12 : p.length ≤ 12) :
    Calls Try.prog 92 #[v] w fun e w' => ∃ u, e = .returned u ∧ Own w' w.heap.size w'.heap.size u (rootL p) ∧ Below w.heap.size w w' := by
  have hp0 := hp
  obtain ⟨la, a, ca, rfl, ha⟩ := hp
  obtain ⟨ba, oa, rfl, hba, hca⟩ := ha (by omega)
  have hcap : p.length ≤ ca := hcp _ _ _ rfl
  clear ha hca hcp
  go_enter Try.func92, Try.ntmps92
  go_wp2
  go_loopw [4] (fun i wr => ∃ k : Nat, 1 ≤ k ∧ k ≤ p.length ∧ i = .int .i64 k ∧ (∀ j, 1 ≤ j → j < k → rtP p j = false) ∧ Below w.heap.size w wr) (fun i _ => p.length - (intOf i).toNat)
  case atStart => exact ⟨1, Nat.le_refl _, h1, rfl, fun j hj1 hj2 => by omega, Below.refl _ _⟩
  case round =>
    obtain ⟨k, hk1, hk, rfl, heq, hB⟩ := hrel
    have Heq := Lib.hid heq
    clear heq
    have hp1 := hp0.below hB
    by_cases hlk : k < p.length
    · have hd0 := rt_div hk1 hk h12
      obtain ⟨q, hq⟩ : ∃ q : Int, q = (p.length : Int) / (k : Int) := ⟨_, rfl⟩
      obtain ⟨rr, hrr⟩ : ∃ rr : Int, rr = (p.length : Int) % (k : Int) := ⟨_, rfl⟩
      have e1 : (p.length : Int).tmod (k : Int) = rr := by rw [hrr]; exact Int.tmod_eq_emod_of_nonneg (by omega)
      have e2 : (p.length : Int).tdiv (k : Int) = q := by rw [hq]; exact Int.tdiv_eq_ediv_of_nonneg (by omega)
      have e2' : (p.length : Int) / (k : Int) = q := hq.symm
      have e1' : (p.length : Int) % (k : Int) = rr := hrr.symm
      have hd : 0 ≤ q ∧ q ≤ 12 ∧ q.toNat * (p.take k).length ≤ 1000 := by rw [hq]; exact hd0
      have e3 : IntKind.i64.wrap q = q := IntWalk.i64_in _ (by omega)
      have Hq := Lib.hid hq
      have Hr := Lib.hid hrr
      clear hd0 hq hrr
      have hpt := Lib.hid (rd_take hp1 hk hk1)
      have hlt : Hid (1 ≤ (p.take k).length) := by show 1 ≤ (p.take k).length; simp; omega
      cases c1 : (rr == 0)
      · go_wp2
        go_quiet (fail)
        go_wp2
        go_roundw
        case rel =>
          obtain ⟨r1, r2⟩ := rt_no hk1 hk Heq.out (by rw [rtP, ← Hr.out, c1]; rfl)
          exact ⟨k + 1, by omega, r1, by go_num, r2, below_step hB (below_dn _ _) hB.size⟩
        case measure => simp [intOf]; omega
      have HP := Lib.hid (And.intro hp0 (And.intro hp1 hB))
      clear hp0 hB hba
      have k0 : (0 : Int) ≤ (k : Int) := Int.natCast_nonneg _
      have k1 : (k : Int) ≤ (ca : Int) := by omega
      have k2 : ¬ (k : Int) = 0 := by omega
      have k3 : ¬ k = 0 := by omega
      go_wp2
      go_region_held3 (fun _ => True) (first | trivial | go_keep) (first | (go_at_call 104; (with_reducible refine (l03Repeat_int _ (p.take k) _ _ (rd_drew hpt.out) hlt.out hd.1 (by omega) hd.2.2).mono ?_); rintro e w2 ⟨u, rfl, hown, hb2⟩) | (go_at_call 78; (with_reducible refine (l00Same_any _ _ _ p _ hown.rd ((rd_drew hp1).below hb2)).mono ?_); rintro e w3 ⟨rfl, n, rfl⟩))
      all_goals
        have hB2 := below_step (below_step HP.out.2.2.drew hb2 HP.out.2.2.drew.size) (below_dn w2 n) (below_step HP.out.2.2.drew hb2 HP.out.2.2.drew.size).size
        have HB2 := Lib.hid hB2
        clear hB2 hown hb2 e1 e2 e3 e1' e2' hp1
        cases c2 : decide (repL (p.take k) q.toNat = p)
        · go_wp2
          go_roundw
          case rel =>
            obtain ⟨r1, r2⟩ := rt_no hk1 hk Heq.out (by rw [rtP, ← Hr.out, ← Hq.out, c1, c2]; rfl)
            exact ⟨k + 1, by omega, r1, by go_num, r2, HB2.out⟩
          case measure => simp [intOf]; omega
        · have hr := Lib.hid (rt_yes hk1 hk Heq.out (by rw [← Hr.out]; exact c1) (by rw [← Hq.out]; exact c2))
          go_wp2_with fail
          refine (l00Own_any _ (p.take k) _ (rd_take (HP.out.1.below HB2.out) hk hk1) hlt.out).mono ?_
          rintro e w4 ⟨u4, rfl, hown4, hb4⟩
          go_wp2
          go_ret
          exact ⟨_, rfl, by rw [hr.out]; exact hown4.mono HB2.out.size (Nat.le_refl _), below_step HB2.out hb4 HB2.out.size⟩
    · have hkl : k = p.length := by omega
      have hr : Hid (rootL p = p) := by
        show rootL p = p
        rw [rootL, rt_at hk1 hk (by rw [hkl]; exact rt_self h1) Heq.out, hkl]
        simp
      clear hkl
      go_wp2_with fail
      refine (l00Own_any _ p _ hp1 h1).mono ?_
      rintro e w4 ⟨u4, rfl, hown4, hb4⟩
      go_wp2
      go_ret
      exact ⟨_, rfl, by rw [hr.out]; exact hown4.mono hB.size (Nat.le_refl _), below_step hB hb4 hB.size⟩

/-- RootPattern. -/
def rooL (p : List Int) : List Int := if validB p then rootL p else []
end Go.Proofs.Ytdbjkgapgjmjoaa
