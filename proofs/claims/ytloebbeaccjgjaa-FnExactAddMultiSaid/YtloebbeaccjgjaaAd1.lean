/-
  Plain law: two valid patterns added beat by beat are valid where no beat is too full. No condition beyond each statement's own.
-/
import Derived.Test.YtloebbeaccjgjaaM4
import Derived.Test.YtloebbeaccjgjaaSo1
namespace Go.Proofs.Ytloebbeaccjgjaa
open Go.ChangeShapes Go.WideShapes Go.ChangeAt Go.RowKit


/-- A throw of beat i that lands at beat j. -/
def hitB (n i j : Nat) (t : Int) : Bool := decide (0 < t) && decide ((((i : Int) + t) % (n : Int)).toNat = j)
def cntR (n i j : Nat) (L : List Int) : Nat := (L.filter (hitB n i j)).length
theorem cntR_app (n i j : Nat) (A B : List Int) : cntR n i j (A ++ B) = cntR n i j A + cntR n i j B := by simp [cntR]
theorem cntR_nz (n i j : Nat) (L : List Int) : cntR n i j L = cntR n i j (nzL L) := by
  unfold cntR nzL
  rw [List.filter_filter]
  congr 2
  funext t
  unfold hitB
  cases decide (0 < t) <;> simp
theorem cntR_perm (n i j : Nat) {A B : List Int} (h : (nzL A).Perm (nzL B)) : cntR n i j A = cntR n i j B := by
  rw [cntR_nz, cntR_nz n i j B]
  exact (h.filter _).length_eq
theorem rowC_gi {n i : Nat} (hn : 1 ≤ n) (L C : List Int) (hC : C.length = n) (j : Nat) : ∀ k, k ≤ L.length → gi (rowC n i L C k) j = gi C j + cntR n i j (L.take k)
  | 0, _ => by simp [rowC, cntR]
  | k + 1, hk => by
    have ih := rowC_gi (i := i) hn L C hC j k (by omega)
    rw [take_gi (by omega), cntR_app]
    simp only [rowC]
    by_cases h : 0 < gi L k
    · rw [if_pos h]
      have hx : (((i : Int) + gi L k) % (n : Int)).toNat < (rowC n i L C k).length := by
        rw [rowC_length, hC]
        have h1 := Int.emod_nonneg ((i : Int) + gi L k) (b := (n : Int)) (by omega)
        have h2 := Int.emod_lt_of_pos ((i : Int) + gi L k) (b := (n : Int)) (by omega)
        omega
      unfold bump
      rw [gi_set hx]
      by_cases hj : j = (((i : Int) + gi L k) % (n : Int)).toNat
      · rw [if_pos hj]
        rw [show cntR n i j [gi L k] = 1 by simp [cntR, hitB, h, hj]]
        rw [← hj, ih]
        omega
      · rw [if_neg hj, ih]
        rw [show cntR n i j [gi L k] = 0 by
          have : ¬ (((i : Int) + gi L k) % (n : Int)).toNat = j := fun e => hj e.symm
          simp [cntR, hitB, this]]
        omega
    · rw [if_neg h, ih]
      rw [show cntR n i j [gi L k] = 0 by simp [cntR, hitB, h]]
      omega
def sumC (R : List (List Int)) (n j : Nat) : Nat → Nat
  | 0 => 0
  | i + 1 => sumC R n j i + cntR n i j (gr R i)
theorem allC_len (R : List (List Int)) (n : Nat) : ∀ i, (allC R n i).length = n
  | 0 => by simp [allC]
  | i + 1 => by simp only [allC]; rw [rowC_length]; exact allC_len R n i
theorem allC_gi {n : Nat} (hn : 1 ≤ n) (R : List (List Int)) (j : Nat) : ∀ i, gi (allC R n i) j = (sumC R n j i : Int)
  | 0 => by
    unfold allC sumC gi
    by_cases hy : j < n <;> simp [hy]
  | i + 1 => by
    have ih := allC_gi hn R j i
    simp only [allC, sumC]
    rw [rowC_gi hn _ _ (allC_len R n i) j _ (Nat.le_refl _), List.take_length, ih]
    omega

theorem elB_iff {L : List Int} {k : Nat} : elB L k = true ↔ (0 ≤ gi L k ∧ gi L k ≤ 15) ∧ (gi L k = 0 → L.length ≤ 1) ∧ (0 < k → gi L k ≤ gi L (k - 1)) := by
  simp only [elB, Bool.and_eq_true, Bool.not_eq_true', btw_iff, Bool.and_eq_false_iff, beq_eq_false_iff_ne, decide_eq_false_iff_not]
  constructor
  · rintro ⟨⟨h1, h2⟩, h3⟩
    exact ⟨h1, fun h => by rcases h2 with h2 | h2 <;> omega, fun h => by rcases h3 with h3 | h3 <;> omega⟩
  · rintro ⟨h1, h2, h3⟩
    refine ⟨⟨h1, ?_⟩, ?_⟩
    · by_cases h : gi L k = 0
      · have := h2 h; exact .inr (by omega)
      · exact .inl h
    · by_cases h : 0 < k
      · have := h3 h; exact .inr (by omega)
      · exact .inl (by omega)
theorem st_all {L : List Int} (h : stB L = true) : ∀ k, k < L.length → (0 ≤ gi L k ∧ gi L k ≤ 15) ∧ (gi L k = 0 → L.length ≤ 1) := by
  simp only [stB, decide_eq_true_eq] at h
  intro k hk
  have := elB_iff.1 (h.2 k hk)
  exact ⟨this.1, this.2.1⟩
/-- Of a beat as many props are thrown as throws are not 0. -/
theorem thM_nz {L : List Int} (h : stB L = true) : thM L = ((nzL L).length : Int) := by
  obtain ⟨h1, _, h3, h4⟩ := stB_true h
  have ha := st_all h
  unfold thM
  by_cases h0 : gi L 0 = 0
  · rw [if_pos h0]
    have hl := h4 h0
    match L, hl with
    | [x], _ =>
      have : x = 0 := by simpa [gi] using h0
      subst this
      simp [nzL]
  · rw [if_neg h0]
    have hp : nzL L = L := by
      unfold nzL
      apply List.filter_eq_self.2
      intro x hx
      obtain ⟨k, hk, rfl⟩ := List.mem_iff_getElem.1 hx
      have hb := ha k hk
      rw [← gi_eq hk]
      by_cases hz : gi L k = 0
      · have h5 := hb.2 hz
        have : k = 0 := by omega
        rw [this] at hz
        exact absurd hz h0
      · simp; omega
    rw [hp]
theorem srtL_mem {L : List Int} {x : Int} (h : x ∈ srtL L) : x ∈ L ∧ 0 < x := by
  have := (List.mergeSort_perm (nzL L) fun x y => decide (y ≤ x)).mem_iff.1 h
  simp only [nzL, List.mem_filter, decide_eq_true_eq] at this
  exact this
theorem srtL_desc (L : List Int) : Desc (srtL L) := by
  have := List.pairwise_mergeSort (le := fun x y => decide (y ≤ x)) (fun a b c h1 h2 => by simp at h1 h2 ⊢; omega) (fun a b => by simp; omega) (nzL L)
  exact this.imp (fun h => by simpa using h)
theorem nz_srtB (L : List Int) : (nzL (srtB L)).Perm (nzL L) := by
  have hp : (srtL L).Perm (nzL L) := List.mergeSort_perm _ _
  unfold srtB
  by_cases h : srtL L = []
  · rw [if_pos h]
    rw [h] at hp
    simpa [nzL] using hp
  · rw [if_neg h]
    have : nzL (srtL L) = srtL L := List.filter_eq_self.2 fun x hx => by simpa using (srtL_mem hx).2
    rw [this]
    exact hp
theorem srtB_len (L : List Int) : 1 ≤ (srtB L).length ∧ (srtB L).length ≤ L.length + 1 := by
  have h1 : (srtL L).length ≤ L.length := by
    have := (List.mergeSort_perm (nzL L) fun x y => decide (y ≤ x)).length_eq
    have h2 := List.length_filter_le (fun x => decide (0 < x)) L
    unfold nzL at this
    unfold srtL nzL
    omega
  unfold srtB
  by_cases h : srtL L = []
  · rw [if_pos h]; simp
  · rw [if_neg h]
    refine ⟨?_, by omega⟩
    cases hs : srtL L with
    | nil => exact absurd hs h
    | cons _ _ => simp
theorem stB_srtB {L : List Int} (h15 : ∀ x ∈ L, x ≤ 15) (h4 : (srtB L).length ≤ 4) : stB (srtB L) = true := by
  simp only [stB, decide_eq_true_eq]
  refine ⟨⟨(srtB_len L).1, h4⟩, ?_⟩
  unfold srtB
  by_cases h : srtL L = []
  · rw [if_pos h]
    intro k hk
    have : k = 0 := by simp at hk; omega
    subst this
    exact elB_iff.2 ⟨by simp [gi], by simp, by omega⟩
  · rw [if_neg h]
    intro k hk
    have hm := srtL_mem (List.getElem_mem hk)
    rw [← gi_eq hk] at hm
    have h5 := h15 _ hm.1
    exact elB_iff.2 ⟨⟨by omega, h5⟩, fun hz => by omega, fun h0 => desc_at (srtL_desc L) (by omega) hk⟩
theorem stB_mem {L : List Int} (h : stB L = true) : ∀ x ∈ L, 0 ≤ x ∧ x ≤ 15 := by
  intro x hx
  obtain ⟨k, hk, rfl⟩ := List.mem_iff_getElem.1 hx
  rw [← gi_eq hk]
  exact (stB_true h).2.2.1 k hk

/-- Beat i of two patterns added. -/
def mg (R S : List (List Int)) (i : Nat) : List Int := srtB (gr R i ++ gr S i)
def mgM (R S : List (List Int)) (k : Nat) : List (List Int) := (List.range k).map (mg R S)
theorem mgM_length (R S : List (List Int)) (k : Nat) : (mgM R S k).length = k := by simp [mgM]
theorem mgM_succ (R S : List (List Int)) (k : Nat) : mgM R S (k + 1) = mgM R S k ++ [mg R S k] := by simp [mgM, List.range_succ]
theorem mgM_gr {R S : List (List Int)} {k i : Nat} (h : i < k) : gr (mgM R S k) i = mg R S i := by simp [mgM, gr, h]
/-- No beat is too full. -/
def fitB (R S : List (List Int)) : Bool := decide (∀ i, i < R.length → (mg R S i).length ≤ 4)
theorem vm_mg {R S : List (List Int)} (hR : vmB R = true) (hS : vmB S = true) (hl : S.length = R.length) : vmB (mgM R S R.length) = fitB R S := by
  obtain ⟨r1, r2, r3⟩ := okM_true (vmB_ok hR)
  obtain ⟨_, _, s3⟩ := okM_true (vmB_ok hS)
  have hRc : ∀ i, i < R.length → gi (allC R R.length R.length) i = thM (gr R i) := by
    simp only [vmB, Bool.and_eq_true, decide_eq_true_eq] at hR; exact hR.2
  have hSc : ∀ i, i < R.length → gi (allC S R.length R.length) i = thM (gr S i) := by
    simp only [vmB, Bool.and_eq_true, decide_eq_true_eq, hl] at hS; exact hS.2
  cases hf : fitB R S
  · simp only [fitB, decide_eq_false_iff_not] at hf
    have : okM (mgM R S R.length) = false := by
      cases ho : okM (mgM R S R.length) with
      | false => rfl
      | true =>
        exfalso
        apply hf
        intro i hi
        have h1 := (okM_true ho).2.2 i (by rw [mgM_length]; exact hi)
        rw [mgM_gr hi] at h1
        exact (stB_true h1).2.1
    exact vmB_shape this
  · simp only [fitB, decide_eq_true_eq] at hf
    have hst : ∀ i, i < R.length → stB (mg R S i) = true := fun i hi => by
      refine stB_srtB (fun x hx => ?_) (hf i hi)
      rcases List.mem_append.1 hx with hx | hx
      · exact (stB_mem (r3 i hi) x hx).2
      · exact (stB_mem (s3 i (by omega)) x hx).2
    refine vmB_yes ?_ ?_
    · simp only [okM, decide_eq_true_eq]
      exact ⟨by rw [mgM_length]; exact ⟨r1, r2⟩, fun j hj => by
        rw [mgM_length] at hj
        rw [mgM_gr hj]
        exact hst j hj⟩
    · intro i hi
      rw [mgM_length] at hi ⊢
      have hsum : ∀ m, m ≤ R.length → sumC (mgM R S R.length) R.length i m = sumC R R.length i m + sumC S R.length i m := by
        intro m
        induction m with
        | zero => intro _; rfl
        | succ m ih =>
          intro hm
          have h1 := ih (by omega)
          simp only [sumC]
          rw [mgM_gr (by omega), mg, cntR_perm _ _ _ (nz_srtB _), cntR_app]
          omega
      rw [mgM_gr hi, thM_nz (hst i hi), allC_gi r1, hsum _ (Nat.le_refl _)]
      have e1 := hRc i hi
      have e2 := hSc i hi
      rw [allC_gi r1, thM_nz (r3 i hi)] at e1
      rw [allC_gi r1, thM_nz (s3 i (by omega))] at e2
      have e3 := (nz_srtB (gr R i ++ gr S i)).length_eq
      have e4 : (nzL (gr R i ++ gr S i)).length = (nzL (gr R i)).length + (nzL (gr S i)).length := by simp [nzL]
      unfold mg
      omega
end Go.Proofs.Ytloebbeaccjgjaa
