/-
  Contracts of the operations on patterns (chapter 3), seventh part: canonical patterns. No condition beyond each contract's own.
-/
import Derived.Test.YtdbjkgapgjmjoaaL03d
namespace Go.Proofs.Ytdbjkgapgjmjoaa
open Go.ChangeShapes Go.WideShapes Go.ChangeAt Go.RowKit


theorem okT_take {p : List Int} {k : Nat} (h : okT p = true) (h1 : 1 ≤ k) (hk : k ≤ p.length) : okT (p.take k) = true := by
  obtain ⟨h0, h12, hb⟩ := okT_true h
  have e : (p.take k).length = k := by simp; omega
  simp only [okT, decide_eq_true_eq]
  refine ⟨by omega, by omega, fun j hj => ?_⟩
  rw [e] at hj
  rw [gi_take hj]
  exact hb j (by omega)
theorem rtK_bd {p : List Int} (h1 : 1 ≤ p.length) : 1 ≤ rtK p ∧ rtK p ≤ p.length := by
  unfold rtK
  cases hf : findI (fun j => rtP p (j + 1)) p.length with
  | none => simp; omega
  | some j => have := (findI_spec hf).1; simp; omega
theorem rootL_ok {p : List Int} (h : okT p = true) : okT (rootL p) = true := by
  have h1 := (okT_true h).1
  have := rtK_bd h1
  exact okT_take h this.1 this.2
/-- The greatest of the first k rotations of a list. -/
def canTo (r : List Int) : Nat → List Int
  | 0 => r
  | k + 1 => if 0 < cmpL (rotL r k r.length) (canTo r k) then rotL r k r.length else canTo r k
theorem rotL_zero (r : List Int) : rotL r 0 r.length = r := by
  apply gi_ext (rotL_length _ _ _)
  intro k hk
  rw [rotL_length] at hk
  rw [gi_eq (by rw [rotL_length]; exact hk)]
  simp only [rotL, List.getElem_map, List.getElem_range, thV]
  congr 1
  rw [Int.add_zero, Int.emod_eq_of_lt (by omega) (by omega)]
  simp
theorem cmpL_self (A : List Int) : cmpL A A = 0 := by
  rw [cmpL_eq rfl]
  exact cmpE_same A A rfl (fun _ _ => rfl)
theorem canTo_one (r : List Int) : canTo r 1 = r := by
  have e : rotL r ((0 : Nat) : Int) r.length = r := rotL_zero r
  show (if 0 < cmpL (rotL r ((0 : Nat) : Int) r.length) r then rotL r ((0 : Nat) : Int) r.length else r) = r
  rw [if_neg (by rw [e, cmpL_self]; decide)]
theorem canTo_length (r : List Int) : ∀ k, (canTo r k).length = r.length
  | 0 => rfl
  | k + 1 => by
    simp only [canTo]
    split
    · exact rotL_length _ _ _
    · exact canTo_length r k
/-- The canonical pattern. -/
def canL (p : List Int) : List Int := canTo (rootL p) (rootL p).length

set_option maxHeartbeats 4000000 in
theorem canonical_any (v : Value) (p : List Int) (w : World) (hp : Rd w v p) (hcp : Cp v) (hok : okT p = true) :
    Calls Try.prog 83 #[v] w fun e w' => ∃ u, e = .returned u ∧ Own w' w.heap.size w'.heap.size u (canL p) ∧ Below w.heap.size w w' := by
  obtain ⟨h1, h12, _⟩ := okT_true hok
  have hrok := rootL_ok hok
  have Hrok := Lib.hid hrok
  obtain ⟨q1, q12, _⟩ := okT_true hrok
  have hrt := Lib.hid (root_any v p w hp hcp h1 h12)
  clear hrok hok hcp
  obtain ⟨r, hr⟩ : ∃ r, r = rootL p := ⟨_, rfl⟩
  have Hr := Lib.hid hr
  have hcan : Hid (canL p = canTo r r.length) := by show canL p = canTo r r.length; rw [canL, hr]
  rw [← hr] at hrt q1 q12 Hrok
  rw [hcan.out]
  clear hr hcan
  go_enter Try.func83, Try.ntmps83
  go_wp2_with fail
  refine hrt.out.mono ?_
  rintro e w1 ⟨ur, rfl, hown1, hB1⟩
  go_wp2_with fail
  refine (period_any _ r _ hown1.rd).mono ?_
  rintro e w' ⟨rfl, rfl⟩
  go_wp2
  have hs1 := hB1.size
  go_loopw [4, 12] (fun b i wr => ∃ k : Nat, k ≤ r.length ∧ i = .int .i64 k ∧ Own wr w.heap.size wr.heap.size b (canTo r k) ∧ Own wr w.heap.size wr.heap.size ur r ∧ Below w.heap.size w wr) (fun _ i _ => r.length - (intOf i).toNat)
  case atStart => exact ⟨0, Nat.zero_le _, rfl, hown1, hown1, hB1⟩
  case round =>
    obtain ⟨k, hk, rfl, hbest, hroot, hB⟩ := hrel
    by_cases hlt : k < r.length
    · have hstep : Hid (canTo r (k + 1) = if 0 < cmpL (rotL r k r.length) (canTo r k) then rotL r k r.length else canTo r k) := rfl
      go_wp2_with fail
      refine (rotated_any _ r _ _ hroot.rd Hrok.out (by omega) (by omega)).mono ?_
      rintro e w2 ⟨u2, rfl, hown2, hb2⟩
      have hB2 := below_step hB hb2 hB.size
      have hs2 := hb2.size
      have hsB := hB.size
      go_wp2_with fail
      refine (implCompare_any _ (rotL r k r.length) _ (canTo r k) _ hown2.rd (hbest.below hb2).rd).mono ?_
      rintro e w3 ⟨rfl, hb3⟩
      have hs3 := hb3.size
      by_cases hc : 0 < cmpL (rotL r k r.length) (canTo r k)
      · have Hc := Lib.hid hc
        go_wp2
        go_roundw
        case rel => exact ⟨k + 1, by omega, by go_num, by rw [hstep.out, if_pos Hc.out]; exact (hown2.below hb3).mono hsB hs3, ((hroot.below hb2).below hb3).mono (Nat.le_refl _) (Nat.le_trans hs2 hs3), below_step hB2 hb3 hB2.size⟩
        case measure => simp [intOf]; omega
      · have Hc := Lib.hid hc
        go_wp2
        go_roundw
        case rel => exact ⟨k + 1, by omega, by go_num, by rw [hstep.out, if_neg (Int.not_lt.2 Hc.out)]; exact ((hbest.below hb2).below hb3).mono (Nat.le_refl _) (Nat.le_trans hs2 hs3), ((hroot.below hb2).below hb3).mono (Nat.le_refl _) (Nat.le_trans hs2 hs3), below_step hB2 hb3 hB2.size⟩
        case measure => simp [intOf]; omega
    · go_wp2
      go_ret
      obtain rfl : k = r.length := by omega
      exact ⟨_, rfl, hbest, hB⟩

set_option maxHeartbeats 4000000 in
theorem l03Canon_any (v : Value) (p : List Int) (w : World) (hp : Rd w v p) (hcp : Cp v) (hok : okT p = true) :
    Calls Try.prog 79 #[v] w fun e w' => ∃ u, e = .returned u ∧ Own w' w.heap.size w'.heap.size u (canL p) ∧ Below w.heap.size w w' := by
  obtain ⟨h1, h12, _⟩ := okT_true hok
  have hrok := rootL_ok hok
  have Hrok := Lib.hid hrok
  obtain ⟨q1, q12, _⟩ := okT_true hrok
  have hrt := Lib.hid (l03Root_any v p w hp hcp h1 h12)
  clear hrok hok hcp
  obtain ⟨r, hr⟩ : ∃ r, r = rootL p := ⟨_, rfl⟩
  have hcan : Hid (canL p = canTo r r.length) := by show canL p = canTo r r.length; rw [canL, hr]
  rw [← hr] at hrt q1 q12 Hrok
  rw [hcan.out]
  clear hr hcan
  go_enter Try.func79, Try.ntmps79
  go_wp2_with fail
  refine hrt.out.mono ?_
  rintro e w1 ⟨ur, rfl, hown1, hB1⟩
  obtain ⟨gl, ga, gc, hgv, _⟩ := hown1.rd
  subst hgv
  go_wp2
  have hone := Lib.hid (canTo_one r)
  go_loopw [4, 5] (fun b i wr => ∃ k : Nat, 1 ≤ k ∧ k ≤ r.length ∧ i = .int .i64 k ∧ Own wr w.heap.size wr.heap.size b (canTo r k) ∧ Own wr w.heap.size wr.heap.size (.slice ga r.length gc) r ∧ Below w.heap.size w wr) (fun _ i _ => r.length - (intOf i).toNat)
  case atStart => exact ⟨1, Nat.le_refl _, q1, rfl, by rw [hone.out]; exact hown1, hown1, hB1⟩
  case round =>
    obtain ⟨k, hk1, hk, rfl, hbest, hroot, hB⟩ := hrel
    by_cases hlt : k < r.length
    · have hstep : Hid (canTo r (k + 1) = if 0 < cmpL (rotL r k r.length) (canTo r k) then rotL r k r.length else canTo r k) := rfl
      go_wp2_with fail
      refine (l03Rotate_any _ r _ _ hroot.rd Hrok.out (by omega) (by omega)).mono ?_
      rintro e w2 ⟨u2, rfl, hown2, hb2⟩
      have hB2 := below_step hB hb2 hB.size
      have hs2 := hb2.size
      have hsB := hB.size
      go_wp2_with fail
      refine (l02Compare_any _ (rotL r k r.length) _ (canTo r k) _ hown2.rd (hbest.below hb2).rd).mono ?_
      rintro e w3 ⟨rfl, n, hw3⟩
      have hb3 : Below w2.heap.size w2 w3 := by rw [hw3]; exact below_dn _ _
      have hs3 := hb3.size
      clear hw3
      by_cases hc : 0 < cmpL (rotL r k r.length) (canTo r k)
      · have Hc := Lib.hid hc
        go_wp2
        go_roundw
        case rel => exact ⟨k + 1, by omega, by omega, by go_num, by rw [hstep.out, if_pos Hc.out]; exact (hown2.below hb3).mono hsB hs3, ((hroot.below hb2).below hb3).mono (Nat.le_refl _) (Nat.le_trans hs2 hs3), below_step hB2 hb3 hB2.size⟩
        case measure => simp [intOf]; omega
      · have Hc := Lib.hid hc
        go_wp2
        go_roundw
        case rel => exact ⟨k + 1, by omega, by omega, by go_num, by rw [hstep.out, if_neg (Int.not_lt.2 Hc.out)]; exact ((hbest.below hb2).below hb3).mono (Nat.le_refl _) (Nat.le_trans hs2 hs3), ((hroot.below hb2).below hb3).mono (Nat.le_refl _) (Nat.le_trans hs2 hs3), below_step hB2 hb3 hB2.size⟩
        case measure => simp [intOf]; omega
    · go_wp2
      go_ret
      obtain rfl : k = r.length := by omega
      exact ⟨_, rfl, hbest, hB⟩

/-- CanonicalPattern. -/
def caL (p : List Int) : List Int := if validB p then canL p else []

/-- AlikePatterns. -/
def alB (a b : List Int) : Bool := validB a && validB b && decide (canL a = canL b)

set_option maxHeartbeats 2000000 in
theorem implAlike_any (va : Value) (A : List Int) (vb : Value) (B : List Int) (w : World) (hA : Rd w va A) (hB : Rd w vb B) (hca : Cp va) (hcb : Cp vb) :
    Calls Try.prog 64 #[va, vb] w fun e w' => e = .returned (.bool (alB A B)) ∧ Below w.heap.size w w' := by
  have Hca := Lib.hid hca
  have Hcb := Lib.hid hcb
  have hv := Lib.hid (implValid_any va A w hA)
  clear hca hcb
  cases hva : validB A
  · rw [hva] at hv
    go_enter Try.func64, Try.ntmps64
    go_wp2_with fail
    refine hv.out.mono ?_
    rintro e w' ⟨rfl, hb⟩
    go_wp2
    go_ret
    exact ⟨ret_bool (by rw [alB, hva]; rfl), hb⟩
  rw [hva] at hv
  cases hvb : validB B
  · go_enter Try.func64, Try.ntmps64
    go_wp2_with fail
    refine hv.out.mono ?_
    rintro e w1 ⟨rfl, hb⟩
    have hv2 := Lib.hid (implValid_any vb B _ (hB.below hb))
    rw [hvb] at hv2
    go_wp2_with fail
    refine hv2.out.mono ?_
    rintro e w2 ⟨rfl, hb2⟩
    go_wp2
    go_ret
    exact ⟨ret_bool (by rw [alB, hva, hvb]; rfl), below_step hb hb2 hb.size⟩
  · go_enter Try.func64, Try.ntmps64
    go_wp2_with fail
    refine hv.out.mono ?_
    rintro e w1 ⟨rfl, hb⟩
    have hv2 := Lib.hid (implValid_any vb B _ (hB.below hb))
    rw [hvb] at hv2
    go_wp2_with fail
    refine hv2.out.mono ?_
    rintro e w2 ⟨rfl, hb2⟩
    have hx := below_step hb hb2 hb.size
    go_wp2_with fail
    refine (canonical_any va A _ (hA.below hx) Hca.out (okT_of_valid hva)).mono ?_
    rintro e w3 ⟨u3, rfl, ho3, hb3⟩
    have hx3 := below_step hx hb3 hx.size
    go_wp2_with fail
    refine (canonical_any vb B _ (hB.below hx3) Hcb.out (okT_of_valid hvb)).mono ?_
    rintro e w4 ⟨u4, rfl, ho4, hb4⟩
    have hx4 := below_step hx3 hb4 hx3.size
    go_wp2_with fail
    refine (sameNumbers_any _ _ _ _ _ (ho3.below hb4).rd ho4.rd).mono ?_
    rintro e w5 ⟨rfl, n, rfl⟩
    go_wp2
    go_ret
    exact ⟨ret_bool (by rw [alB, hva, hvb]; rfl), below_step hx4 (below_dn _ _) hx4.size⟩

set_option maxHeartbeats 2000000 in
theorem l03Alike_any (va : Value) (A : List Int) (vb : Value) (B : List Int) (w : World) (hA : Rd w va A) (hB : Rd w vb B) (hca : Cp va) (hcb : Cp vb) (hoa : okT A = true) (hob : okT B = true) :
    Calls Try.prog 61 #[va, vb] w fun e w' => e = .returned (.bool (decide (canL A = canL B))) ∧ Below w.heap.size w w' := by
  have Hca := Lib.hid hca
  have Hcb := Lib.hid hcb
  have Hoa := Lib.hid hoa
  have Hob := Lib.hid hob
  clear hca hcb hoa hob
  go_enter Try.func61, Try.ntmps61
  go_wp2_with fail
  refine (l03Canon_any va A _ hA Hca.out Hoa.out).mono ?_
  rintro e w3 ⟨u3, rfl, ho3, hb3⟩
  go_wp2_with fail
  refine (l03Canon_any vb B _ (hB.below hb3) Hcb.out Hob.out).mono ?_
  rintro e w4 ⟨u4, rfl, ho4, hb4⟩
  have hx4 := below_step hb3 hb4 hb3.size
  go_wp2_with fail
  refine (l00Same_any _ _ _ _ _ (ho3.below hb4).rd ho4.rd).mono ?_
  rintro e w5 ⟨rfl, n, rfl⟩
  go_wp2
  go_ret
  exact ⟨rfl, below_step hx4 (below_dn _ _) hx4.size⟩
end Go.Proofs.Ytdbjkgapgjmjoaa
