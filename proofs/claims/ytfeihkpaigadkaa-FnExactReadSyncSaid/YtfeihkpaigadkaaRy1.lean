/-
  What the texts of synchronous patterns read as: plain Lean. No condition.
-/
import Derived.Test.YtfeihkpaigadkaaYplain
import Derived.Test.YtfeihkpaigadkaaSpl
namespace Go.Proofs.Ytfeihkpaigadkaa
open Go.ChangeShapes Go.WideShapes Go.ChangeAt Go.RowKit

open Go.PlainAid

def sqT (t : ByteArray) : Th := (hexV (bt t 0), decide (t.size = 2))
/-- A text is the text of a throw. -/
def sqB (t : ByteArray) : Bool := decide (t.size = 1 ∨ t.size = 2 ∧ bt t 1 = 120) && thS (sqT t)
theorem sqB_no {t : ByteArray} (h : ¬ (t.size = 1 ∨ t.size = 2 ∧ bt t 1 = 120)) : sqB t = false := by rw [sqB, decide_eq_false h]; rfl
theorem sqB_one {t : ByteArray} (h : t.size = 1) : sqB t = thS (hexV (bt t 0), false) ∧ sqT t = (hexV (bt t 0), false) := by
  have e : sqT t = (hexV (bt t 0), false) := by simp [sqT, h]
  exact ⟨by rw [sqB, decide_eq_true (.inl h), e]; rfl, e⟩
theorem sqB_two {t : ByteArray} (h : t.size = 2) (h2 : bt t 1 = 120) : sqB t = thS (hexV (bt t 0), true) ∧ sqT t = (hexV (bt t 0), true) := by
  have e : sqT t = (hexV (bt t 0), true) := by simp [sqT, h]
  exact ⟨by rw [sqB, decide_eq_true (.inr ⟨h, h2⟩), e]; rfl, e⟩
theorem sqB_th {t : ByteArray} (h : sqB t = true) : thS (sqT t) = true := by
  simp only [sqB, Bool.and_eq_true] at h
  exact h.2
theorem thS_neg {a : Int} (h : a < 0) (x : Bool) : thS (a, x) = false := by
  rw [thS, show btw (a, x).1 0 14 = false from btw_false_iff.2 (by show ¬ (0 ≤ a ∧ a ≤ 14); omega)]
  rfl
theorem sqB_44 {t : ByteArray} {j : Nat} (hj : j < t.size) (h : bt t j = 44) : sqB t = false := by
  by_cases hB : t.size = 1 ∨ t.size = 2 ∧ bt t 1 = 120
  · have hj0 : j = 0 := by
      rcases hB with h1 | ⟨h1, h2⟩
      · omega
      · by_cases he : j = 1
        · rw [he, h2] at h; cases h
        · omega
    subst hj0
    have hn : hexV (bt t 0) < 0 := by rw [h]; decide
    rcases hB with h1 | ⟨h1, h2⟩
    · rw [(sqB_one h1).1]; exact thS_neg hn _
    · rw [(sqB_two h1 h2).1]; exact thS_neg hn _
  · exact sqB_no hB

def bbW (t : ByteArray) : List ByteArray := spL (sub t 1 t.size) 44
/-- A part is the text of a beat, but for its last bracket. -/
def bbB (t : ByteArray) : Bool := decide (1 ≤ t.size ∧ bt t 0 = 40) && decide ((bbW t).length = 2) && sqB (gs (bbW t) 0) && sqB (gs (bbW t) 1)
def bbX (t : ByteArray) : Th := sqT (gs (bbW t) 0)
def bbY (t : ByteArray) : Th := sqT (gs (bbW t) 1)
theorem bb_br {t : ByteArray} (h : ¬ (1 ≤ t.size ∧ bt t 0 = 40)) : bbB t = false := by rw [bbB, decide_eq_false h]; rfl
theorem bb_len {t : ByteArray} (h : ¬ (bbW t).length = 2) : bbB t = false := by rw [bbB, decide_eq_false h]; simp
theorem bb_x {t : ByteArray} (h : sqB (gs (bbW t) 0) = false) : bbB t = false := by rw [bbB, h]; simp
theorem bb_y {t : ByteArray} (h : sqB (gs (bbW t) 1) = false) : bbB t = false := by rw [bbB, h]; simp
theorem bb_yes {t : ByteArray} (h1 : 1 ≤ t.size ∧ bt t 0 = 40) (h2 : (bbW t).length = 2) (h3 : sqB (gs (bbW t) 0) = true) (h4 : sqB (gs (bbW t) 1) = true) : bbB t = true := by
  rw [bbB, decide_eq_true h1, decide_eq_true h2, h3, h4]; rfl
theorem bb_true {t : ByteArray} (h : bbB t = true) : thS (bbX t) = true ∧ thS (bbY t) = true := by
  simp only [bbB, Bool.and_eq_true] at h
  exact ⟨sqB_th h.1.2, sqB_th h.2⟩
theorem bb_one {t : ByteArray} (h : cuF (sub t 1 t.size) 44 = false) : bbB t = false := bb_len (by rw [bbW, (spL_not h).1]; simp)
theorem bb_two {t : ByteArray} (h : cuF (sub t 1 t.size) 44 = true) : gs (bbW t) 0 = cuA (sub t 1 t.size) 44 ∧ ((bbW t).length = 2 → gs (bbW t) 1 = cuB (sub t 1 t.size) 44) ∧ (¬ (bbW t).length = 2 → sqB (cuB (sub t 1 t.size) 44) = false) := by
  have hw : bbW t = cuA (sub t 1 t.size) 44 :: spL (cuB (sub t 1 t.size) 44) 44 := (spL_yes h).1
  refine ⟨by rw [hw]; rfl, fun hl => ?_, fun hl => ?_⟩
  · cases hc : cuF (cuB (sub t 1 t.size) 44) 44 with
    | false => rw [hw, (spL_not hc).1]; rfl
    | true =>
      exfalso
      rw [hw, (spL_yes hc).1] at hl
      have := (spL_length (cuB (cuB (sub t 1 t.size) 44) 44) 44).1
      simp at hl
      rw [hl] at this
      simp at this
  · cases hc : cuF (cuB (sub t 1 t.size) 44) 44 with
    | false => rw [hw, (spL_not hc).1] at hl; simp at hl
    | true =>
      obtain ⟨j, hj, hb⟩ := cuF_has hc
      exact sqB_44 hj hb
theorem bb_ok {t : ByteArray} (h0 : 1 ≤ t.size ∧ bt t 0 = 40) (h : cuF (sub t 1 t.size) 44 = true) (h1 : sqB (cuA (sub t 1 t.size) 44) = true) (h2 : sqB (cuB (sub t 1 t.size) 44) = true) :
    bbB t = true ∧ bbX t = sqT (cuA (sub t 1 t.size) 44) ∧ bbY t = sqT (cuB (sub t 1 t.size) 44) := by
  obtain ⟨e1, e2, e3⟩ := bb_two h
  have hl : (bbW t).length = 2 := by
    by_cases hl : (bbW t).length = 2
    · exact hl
    · rw [e3 hl] at h2; cases h2
  exact ⟨bb_yes h0 hl (by rw [e1]; exact h1) (by rw [e2 hl]; exact h2), by rw [bbX, e1], by rw [bbY, e2 hl]⟩
theorem bb_badx {t : ByteArray} (h : cuF (sub t 1 t.size) 44 = true) (h1 : sqB (cuA (sub t 1 t.size) 44) = false) : bbB t = false := bb_x (by rw [(bb_two h).1]; exact h1)
theorem bb_bady {t : ByteArray} (h : cuF (sub t 1 t.size) 44 = true) (h1 : sqB (cuB (sub t 1 t.size) 44) = false) : bbB t = false := by
  by_cases hl : (bbW t).length = 2
  · exact bb_y (by rw [(bb_two h).2.1 hl]; exact h1)
  · exact bb_len hl

/-- The parts of a text are beats, and nothing stands behind the last one. -/
def ryG (S : List ByteArray) : Bool := decide ((gs S (S.length - 1)).size = 0) && decide (2 ≤ S.length ∧ S.length ≤ 7) && decide (∀ k, k < S.length - 1 → bbB (gs S k) = true)
def ryM (S : List ByteArray) : Nat → List Th
  | 0 => []
  | k + 1 => ryM S k ++ [bbX (gs S k), bbY (gs S k)]
theorem ryM_length (S : List ByteArray) : ∀ k, (ryM S k).length = k * 2
  | 0 => rfl
  | k + 1 => by simp [ryM, ryM_length S k]; omega
theorem ryG_last {S : List ByteArray} (h : (gs S (S.length - 1)).size ≠ 0) : ryG S = false := by rw [ryG, decide_eq_false h]; rfl
theorem ryG_len {S : List ByteArray} (h : ¬ (2 ≤ S.length ∧ S.length ≤ 7)) : ryG S = false := by rw [ryG, decide_eq_false h]; simp
theorem ryG_bad {S : List ByteArray} {k : Nat} (hk : k + 1 < S.length) (h : bbB (gs S k) = false) : ryG S = false := by
  rw [ryG, show decide (∀ k, k < S.length - 1 → bbB (gs S k) = true) = false from decide_eq_false (fun hh => by rw [hh k (by omega)] at h; cases h)]; simp
theorem ryG_yes {S : List ByteArray} (h1 : (gs S (S.length - 1)).size = 0) (h2 : 2 ≤ S.length ∧ S.length ≤ 7) (h3 : ∀ k, k + 1 < S.length → bbB (gs S k) = true) : ryG S = true := by
  rw [ryG, decide_eq_true h1, decide_eq_true h2, show decide (∀ k, k < S.length - 1 → bbB (gs S k) = true) = true from decide_eq_true (fun k hk => h3 k (by omega))]; rfl
theorem ryM_ok {S : List ByteArray} : ∀ (k : Nat), (∀ j, j < k → bbB (gs S j) = true) → ∀ j, j < k * 2 → thS (gt (ryM S k) j) = true
  | 0, _, j, hj => absurd hj (by omega)
  | k + 1, h, j, hj => by
    have hl := ryM_length S k
    by_cases h1 : j < k * 2
    · rw [ryM, gt_append_left (by omega)]
      exact ryM_ok k (fun i hi => h i (by omega)) j h1
    · rw [ryM, gt_append_right (by omega), hl]
      obtain ⟨e1, e2⟩ := bb_true (h k (by omega))
      by_cases h2 : j = k * 2
      · subst h2; rw [Nat.sub_self]; exact e1
      · have : j - k * 2 = 1 := by omega
        rw [this]; exact e2
def ryF (s : ByteArray) : Bool := ryG (spL s 41)
def ryN (s : ByteArray) : Nat := (spL s 41).length - 1
def ryT (s : ByteArray) : List Th := ryM (spL s 41) ((spL s 41).length - 1)

/-- The first bracket stands ahead: what is cut behind it. -/
theorem cut_tail {r : ByteArray} (h1 : 1 ≤ r.size) (h0 : bt r 0 = 40) : cuF (sub r 1 r.size) 41 = cuF r 41 ∧ cuB (sub r 1 r.size) 41 = cuB r 41 ∧ (cuF r 41 = true → cuA (sub r 1 r.size) 41 = sub (cuA r 41) 1 (cuA r 41).size ∧ 1 ≤ (cuA r 41).size ∧ bt (cuA r 41) 0 = 40) := by
  have hz := sub_size (s := r) (i := 1) (Nat.le_refl _)
  cases hf : fx r 41 with
  | none =>
    have hf2 : fx (sub r 1 r.size) 41 = none := fx_none (fun j hj => by rw [sub_bt (Nat.le_refl _) (by omega)]; exact fx_no hf _ (by omega))
    refine ⟨by rw [cuF, cuF, hf, hf2], by rw [cuB, cuB, hf, hf2], fun h => by rw [cuF, hf] at h; cases h⟩
  | some i =>
    obtain ⟨i1, i2, i3⟩ := fx_spec hf
    have hi : 1 ≤ i := by
      by_cases h : i = 0
      · rw [h, h0] at i2; cases i2
      · omega
    have hf2 : fx (sub r 1 r.size) 41 = some (i - 1) := fx_some (by omega) (by rw [sub_bt (Nat.le_refl _) (by omega), show 1 + (i - 1) = i by omega]; exact i2) (fun j hj => by rw [sub_bt (Nat.le_refl _) (by omega)]; exact i3 _ (by omega))
    refine ⟨by rw [cuF, cuF, hf, hf2]; rfl, ?_, fun _ => ?_⟩
    · rw [cuB, cuB, hf, hf2]
      show sub (sub r 1 r.size) (i - 1 + 1) (sub r 1 r.size).size = sub r (i + 1) r.size
      rw [hz, sub_sub (Nat.le_refl _) h1, show 1 + (i - 1 + 1) = i + 1 by omega, show 1 + (r.size - 1) = r.size by omega]
    · rw [cuA, cuA, hf, hf2]
      show sub (sub r 1 r.size) 0 (i - 1) = sub (sub r 0 i) 1 (sub r 0 i).size ∧ 1 ≤ (sub r 0 i).size ∧ bt (sub r 0 i) 0 = 40
      have hzi := sub_size (s := r) (i := 0) (k := i) (by omega)
      rw [hzi, sub_sub (by omega) h1, sub_sub (by omega) (by omega), show 1 + (i - 1) = i by omega, show 0 + (i - 0) = i by omega]
      exact ⟨rfl, by omega, by rw [sub_bt (by omega) (by omega)]; exact h0⟩
end Go.Proofs.Ytfeihkpaigadkaa
