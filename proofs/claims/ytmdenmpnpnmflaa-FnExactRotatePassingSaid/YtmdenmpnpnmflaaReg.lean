/-
  A region that draws its order and whose last stores wait for all else: the stores are carried out behind the rest. No condition beyond each statement's own.
-/
import Derived.Test.YtmdenmpnpnmflaaBase
import Derived.Deep.RegionHeld3
namespace Go.Proofs.Ytmdenmpnpnmflaa
open Go.ChangeShapes Go.WideShapes Go.ChangeAt Go.RowKit


/-- Q, but for what stands behind the last operation. -/
def QN (Q : Exit → Act → World → Prop) (N : Act → World → Prop) : Exit → Act → World → Prop
  | .normal, a, w => N a w
  | .panic c, a, w => Q (.panic c) a w
  | .outgrown, a, w => Q .outgrown a w
  | e, a, w => Q e a w
theorem QN.lets {Q : Exit → Act → World → Prop} {N : Act → World → Prop} : LetsOut (QN Q N) = LetsOut Q := rfl
theorem upon_QN {P : Program} {o : Oper} {a : Act} {K : Act → World → Prop} {Q : Exit → Act → World → Prop} {N : Act → World → Prop} (r : Result Next) : o.upon P a K (QN Q N) r = o.upon P a K Q r := by
  cases r with
  | ok n w => cases n <;> rfl
  | halt x w => cases x <;> rfl
theorem wpOp_QN {P : Program} {ops : Array Oper} {Q : Exit → Act → World → Prop} {N : Act → World → Prop} {i : Nat} {K : Act → World → Prop} {a : Act} {w : World} (h : wpOp P ops (QN Q N) i K a w) : wpOp P ops Q i K a w := by
  unfold wpOp at *
  split
  · simpa [*] using h
  · rename_i o ho
    simp only [ho] at h
    unfold Oper.wp at *
    rw [upon_QN] at h
    exact h

/-- The list in which the late operations are marked. -/
def markL (late : Nat → Bool) (L : Array Bool) : Array Bool := L.mapIdx fun i b => b || late i
theorem markL_getD (late : Nat → Bool) (L : Array Bool) (j : Nat) (d : Bool) : (markL late L).getD j d = if j < L.size then (L.getD j d || late j) else d := by
  unfold markL
  by_cases h : j < L.size
  · simp [Array.getD, h]
  · simp [Array.getD, h]
theorem markL_set (late : Nat → Bool) (L : Array Bool) (i : Nat) : markL late (L.setIfInBounds i true) = (markL late L).setIfInBounds i true := by
  apply Array.ext_getElem?
  intro j
  unfold markL
  simp only [Array.getElem?_mapIdx, Array.getElem?_setIfInBounds]
  by_cases h : i = j
  · subst h
    by_cases h2 : i < L.size <;> simp [h2]
  · simp [h]

/-- Operation j waits for operation i, by at most f edges. -/
def needB (md : Region.Mode) (ops : Array Oper) : Nat → Nat → Nat → Bool
  | 0, _, _ => false
  | f + 1, j, i => match ops[j]? with
    | none => false
    | some o => o.after.any fun e => Region.binds md e && (e.on == i || needB md ops f e.on i)
/-- What is listed has all that it waits for listed. -/
def ClosedL (md : Region.Mode) (ops : Array Oper) (L : Array Bool) : Prop := ∀ i o, ops[i]? = some o → L.getD i false = true → ∀ e ∈ o.after, Region.binds md e = true → L.getD e.on false = true
theorem need_listed {md : Region.Mode} {ops : Array Oper} {L : Array Bool} (hc : ClosedL md ops L) : ∀ (f j i : Nat), needB md ops f j i = true → (∀ o, ops[j]? = some o → ∀ e ∈ o.after, Region.binds md e = true → L.getD e.on false = true) → L.getD i false = true
  | 0, _, _, h, _ => by simp [needB] at h
  | f + 1, j, i, h, hj => by
    cases ho : ops[j]? with
    | none => simp [needB, ho] at h
    | some o =>
      simp only [needB, ho] at h
      obtain ⟨e, he, h3⟩ := Array.any_eq_true'.1 h
      simp only [Bool.and_eq_true, Bool.or_eq_true, beq_iff_eq] at h3
      have hl := hj o ho e he h3.1
      rcases h3.2 with h4 | h4
      · rw [← h4]; exact hl
      · exact need_listed hc f e.on i h4 (fun o' ho' => hc e.on o' ho' hl)
theorem closed_set {md : Region.Mode} {ops : Array Oper} {L : Array Bool} (hc : ClosedL md ops L) {i : Nat} (hi : i ∈ Region.ready md ops L) : ClosedL md ops (L.setIfInBounds i true) := by
  obtain ⟨_, o0, ho0, h2⟩ := mem_ready.1 hi
  have mono : ∀ j, L.getD j false = true → (L.setIfInBounds i true).getD j false = true := by
    intro j hj
    by_cases e : i = j
    · subst e
      by_cases hl : i < L.size
      · simp [Array.getD, hl]
      · simp [Array.getD, hl] at hj
    · rw [getD_set_ne false e]; exact hj
  intro j o ho hj e he hb
  by_cases e1 : i = j
  · subst e1
    rw [ho0] at ho
    cases ho
    exact mono _ (h2 e he hb)
  · rw [getD_set_ne false e1] at hj
    exact mono _ (hc j o ho hj e he hb)

/-- What a region must show for its last stores to be carried out behind all else. -/
structure Late (md : Region.Mode) (ops : Array Oper) (late : Nat → Bool) : Prop where
  early : ∀ i o, ops[i]? = some o → late i = false → ∀ e ∈ o.after, Region.binds md e = true → e.on < i ∧ late e.on = false
  late : ∀ j, j < ops.size → late j = true → ∀ i, i < ops.size → late i = false → needB md ops 8 j i = true

def lateB (md : Region.Mode) (ops : Array Oper) (late : Nat → Bool) : Bool :=
  (List.range ops.size).all fun i => match ops[i]? with
    | none => true
    | some o => if late i then (List.range ops.size).all fun k => late k || needB md ops 8 i k
                else o.after.all fun e => !Region.binds md e || (decide (e.on < i) && !late e.on)
theorem lateB_spec {md : Region.Mode} {ops : Array Oper} {late : Nat → Bool} (h : lateB md ops late = true) : Late md ops late := by
  unfold lateB at h
  rw [List.all_eq_true] at h
  refine ⟨fun i o ho hl e he hb => ?_, fun j hj hl i hi hli => ?_⟩
  · have h1 := h i (List.mem_range.2 (Array.getElem?_eq_some_iff.1 ho).1)
    simp only [ho, hl, Bool.false_eq_true, if_false] at h1
    have h2 := Array.all_eq_true_iff_forall_mem.1 h1 e he
    simp [hb] at h2
    exact h2
  · have h1 := h j (List.mem_range.2 hj)
    rw [show ops[j]? = some ops[j] by simp [hj]] at h1
    simp only [hl, if_true] at h1
    have h2 := List.all_eq_true.1 h1 i (List.mem_range.2 hi)
    simpa [hli] using h2

theorem getD_both {L : Array Bool} {i : Nat} (h : i < L.size) : L.getD i true = L.getD i false := by simp [Array.getD, h]

theorem ready_early {md : Region.Mode} {ops : Array Oper} {late : Nat → Bool} (H : Late md ops late) {L : Array Bool} (hs : L.size = ops.size) (hcl : ClosedL md ops L)
    {i0 : Nat} (h0 : i0 < ops.size) (he0 : late i0 = false) (hu0 : L.getD i0 true = false) {i : Nat} (hi : i ∈ Region.ready md ops L) : late i = false ∧ i ∈ Region.ready md ops (markL late L) := by
  obtain ⟨h1, o, ho, h2⟩ := mem_ready.1 hi
  have hlt : i < ops.size := (Array.getElem?_eq_some_iff.1 ho).1
  have hl : late i = false := by
    cases hl : late i with
    | false => rfl
    | true =>
      have := need_listed hcl 8 i i0 (H.late i hlt hl i0 h0 he0) (fun o' ho' => by rw [ho] at ho'; cases ho'; exact h2)
      rw [← getD_both (by omega), hu0] at this
      cases this
  refine ⟨hl, mem_ready.2 ⟨by rw [markL_getD, if_pos (by omega), h1, hl]; rfl, o, ho, fun e he hb => ?_⟩⟩
  have := h2 e he hb
  have h3 := H.early i o ho hl e he hb
  rw [markL_getD, if_pos (by omega), this]; rfl
theorem ready_done {md : Region.Mode} {ops : Array Oper} {late : Nat → Bool} (H : Late md ops late) {L : Array Bool} (hs : L.size = ops.size)
    (hr : Region.ready md ops (markL late L) = []) : ∀ i, i < ops.size → late i = false → L.getD i true = true := by
  intro i
  induction i using Nat.strongRecOn with
  | ind i ih =>
    intro hi hl
    cases hc : L.getD i true with
    | true => rfl
    | false =>
      have : i ∈ Region.ready md ops (markL late L) := by
        refine mem_ready.2 ⟨by rw [markL_getD, if_pos (by omega), hc, hl]; rfl, ops[i], by simp [hi], fun e he hb => ?_⟩
        obtain ⟨h1, h2⟩ := H.early i ops[i] (by simp [hi]) hl e he hb
        have := ih e.on h1 (by omega) h2
        rw [markL_getD, if_pos (by omega), ← getD_both (by omega), this]; rfl
      rw [hr] at this
      cases this

theorem wpAny_late {P : Program} {md : Region.Mode} {ops : Array Oper} {Q : Exit → Act → World → Prop} {late : Nat → Bool} (H : Late md ops late) (m : Nat) (E : Array Bool) (hEs : E.size = ops.size) (hE : ∀ i, i < ops.size → E.getD i true = !late i) :
    ∀ (n : Nat) (L : Array Bool) (a : Act) (w : World), L.size = ops.size → ClosedL md ops L → (∀ j, j < ops.size → late j = true → L.getD j true = false) →
      wpAny P md ops (QN Q fun a w => ∀ d, wpAny P md ops Q (d + m) E a w) n (markL late L) a w → wpAny P md ops Q (n + m) L a w := by
  have isE : ∀ L : Array Bool, L.size = ops.size → (∀ j, j < ops.size → late j = true → L.getD j true = false) → (∀ i, i < ops.size → late i = false → L.getD i true = true) → L = E := by
    intro L hs hl he
    apply Array.ext (by omega)
    intro i h1 h2
    have e1 := hE i (by omega)
    have e2 : L.getD i true = !late i := by
      cases h : late i with
      | true => rw [hl i (by omega) h]; rfl
      | false => rw [he i (by omega) h]; rfl
    rw [← e1] at e2
    simpa [Array.getD, h1, h2] using e2
  intro n
  induction n with
  | zero =>
    intro L a w hs _ hl h
    obtain ⟨hr, hN⟩ := h
    rw [isE L hs hl (ready_done H hs hr)]
    exact hN 0
  | succ n ih =>
    intro L a w hs hcl hl h
    by_cases hc : ∀ i, i < ops.size → late i = false → L.getD i true = true
    · have hr : Region.ready md ops (markL late L) = [] := by
        apply List.eq_nil_iff_forall_not_mem.2
        intro i hi
        obtain ⟨h1, o, ho, _⟩ := mem_ready.1 hi
        have hlt : i < ops.size := (Array.getElem?_eq_some_iff.1 ho).1
        rw [markL_getD, if_pos (by omega)] at h1
        simp only [Bool.or_eq_false_iff] at h1
        rw [hc i hlt h1.2] at h1
        cases h1.1
      rw [isE L hs hl hc]
      exact h.1 hr (n + 1)
    · obtain ⟨i0, h0, he0, hu0⟩ : ∃ i0, i0 < ops.size ∧ late i0 = false ∧ L.getD i0 true = false := by
        apply Classical.byContradiction
        intro hn
        exact hc fun i hi hli => by
          cases hx : L.getD i true with
          | true => rfl
          | false => exact absurd ⟨i, hi, hli, hx⟩ hn
      rw [Nat.succ_add]
      refine ⟨fun hr => ?_, fun i hi => ?_⟩
      · exfalso
        have hr2 : Region.ready md ops (markL late L) = [] := by
          apply List.eq_nil_iff_forall_not_mem.2
          intro i hi
          obtain ⟨h1, o, ho, h2⟩ := mem_ready.1 hi
          have hlt : i < ops.size := (Array.getElem?_eq_some_iff.1 ho).1
          rw [markL_getD, if_pos (by omega)] at h1
          simp only [Bool.or_eq_false_iff] at h1
          have : i ∈ Region.ready md ops L := mem_ready.2 ⟨h1.1, o, ho, fun e he hb => by
            have h3 := h2 e he hb
            have h4 := H.early i o ho h1.2 e he hb
            rw [markL_getD, if_pos (by omega), h4.2, Bool.or_false] at h3
            exact h3⟩
          rw [hr] at this
          cases this
        rw [ready_done H hs hr2 i0 h0 he0] at hu0
        cases hu0
      · obtain ⟨hli, hi2⟩ := ready_early H hs hcl h0 he0 hu0 hi
        refine wpOp_mono (fun a' w' h' => ih (L.setIfInBounds i true) a' w' (by simpa using hs) (closed_set hcl hi) (fun j hj hlj => ?_) (by rw [markL_set]; exact h')) (wpOp_QN (h.2 i hi2))
        have hne : i ≠ j := fun e => by rw [e, hlj] at hli; cases hli
        rw [getD_set_ne true hne]
        exact hl j hj hlj

def lateE (ops : Array Oper) (late : Nat → Bool) (E : Array Bool) : Bool := (E.size == ops.size) && (List.range ops.size).all fun i => E.getD i true == !late i
/-- The beginning of such a region. -/
theorem wp_region_late {P : Program} {id : Nat} {ops : Array Oper} {Q : Exit → Act → World → Prop} {a : Act} {w : World} {S : World → Prop} (late : Nat → Bool) (n m : Nat) (E L0 : Array Bool)
    (hm : P.follows .mixedOrders = true) (h1 : lateB .any ops late = true) (h2 : lateE ops late E = true) (h3 : ops.size = n + m) (h4 : markL late (Array.replicate ops.size false) = L0) (hS : S w.drew)
    (h : S w.drew → wpAnyH P .any ops (QN Q fun a w => ∀ d, wpAny P .any ops Q (d + m) E a w) S n L0 a w.drew) : (Code.region id ops true).wp P Q a w := by
  refine wp_region_any hm ?_
  have h5 := wpAny_of_held _ _ _ _ (h hS)
  rw [← h4] at h5
  unfold lateE at h2
  simp only [Bool.and_eq_true, beq_iff_eq] at h2
  have h6 := wpAny_late (lateB_spec h1) m E h2.1 (fun i hi => by simpa using List.all_eq_true.1 h2.2 i (List.mem_range.2 hi)) n (Array.replicate ops.size false) a w.drew (by simp) (fun i o _ hi => by simp [Array.getD] at hi) (fun j hj _ => by simp [Array.getD, hj]) h5
  rw [← h3] at h6
  exact h6
end Go.Proofs.Ytmdenmpnpnmflaa
