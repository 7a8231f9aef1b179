/-
  What the texts of patterns of two jugglers read as: plain Lean. No condition.
-/
import Derived.Test.YtbkacjfdkaiogaaP3
import Derived.Test.YtbkacjfdkaiogaaP8
import Derived.Test.YtbkacjfdkaiogaaL02e
import Derived.Test.YtbkacjfdkaiogaaSpl
namespace Go.Proofs.Ytbkacjfdkaiogaa
open Go.ChangeShapes Go.WideShapes Go.ChangeAt Go.RowKit

open Go.PlainAid

/-- A part of a text is the text of a throw, but for its byte. -/
def tkB (t : ByteArray) : Bool := decide (t.size = 1 ∨ t.size = 2 ∧ bt t 1 = 112)
def tkT (t : ByteArray) : Th := (hexV (bt t 0), decide (t.size = 2))
/-- The throws of the first k parts. -/
def tkM (S : List ByteArray) (k : Nat) : List Th := (S.take k).map tkT
theorem tkM_length {S : List ByteArray} {k : Nat} (h : k ≤ S.length) : (tkM S k).length = k := by simp [tkM]; omega
theorem tkM_succ {S : List ByteArray} {k : Nat} (h : k < S.length) : tkM S (k + 1) = tkM S k ++ [tkT (gs S k)] := by
  unfold tkM
  rw [List.take_add_one, List.getElem?_eq_getElem h, gs_eq h, List.map_append]
  rfl
theorem tkM_gt {S : List ByteArray} {n k : Nat} (h : k < n) (hn : n ≤ S.length) : gt (tkM S n) k = tkT (gs S k) := by
  rw [gt_eq (by rw [tkM_length hn]; exact h), gs_eq (by omega)]
  simp [tkM]
def thB (S : List ByteArray) : Bool := decide (∀ k, k < S.length → tkB (gs S k) = true)
def thL (S : List ByteArray) : List Th := tkM S S.length
theorem thL_length (S : List ByteArray) : (thL S).length = S.length := tkM_length (Nat.le_refl _)
/-- The parts of a text are the throws of a juggler. -/
def goT (S : List ByteArray) : Bool := thB S && lpB (thL S)
theorem thB_bad {S : List ByteArray} {k : Nat} (hk : k < S.length) (h : tkB (gs S k) = false) : thB S = false := by
  simp only [thB, decide_eq_false_iff_not]
  intro hh
  rw [hh k hk] at h
  cases h
theorem goT_bad {S : List ByteArray} {k : Nat} (hk : k < S.length) (h : tkB (gs S k) = false) : goT S = false := by
  rw [goT, thB_bad hk h]; rfl
theorem goT_neg {S : List ByteArray} {k : Nat} (hk : k < S.length) (h : hexV (bt (gs S k) 0) < 0) : goT S = false := by
  have h1 : arB (thL S) = false := arB_bad (k := k) (by rw [thL_length]; exact hk) (by
    have e : gt (thL S) k = tkT (gs S k) := tkM_gt hk (Nat.le_refl _)
    rw [e, pth, tkT]
    have : btw (hexV (bt (gs S k) 0)) 0 15 = false := btw_false_iff.2 (by omega)
    simp [this])
  rw [goT, lpB, h1]
  simp
theorem goT_long {S : List ByteArray} (h : 8 < S.length) : goT S = false := by
  rw [goT, lpB, show btw ((thL S).length : Int) 1 8 = false from btw_false_iff.2 (by rw [thL_length]; omega)]
  simp
theorem goT_yes {S : List ByteArray} (h : ∀ k, k < S.length → tkB (gs S k) = true) : goT S = lpB (thL S) := by
  rw [goT, show thB S = true from decide_eq_true h]; rfl
theorem tkB_no {t : ByteArray} (h : ¬ (t.size = 1 ∨ t.size = 2 ∧ bt t 1 = 112)) : tkB t = false := decide_eq_false h
theorem tkB_yes {t : ByteArray} (h : t.size = 1 ∨ t.size = 2 ∧ bt t 1 = 112) : tkB t = true := decide_eq_true h
theorem tkT_one {t : ByteArray} (h : t.size = 1) : tkT t = (hexV (bt t 0), false) := by simp [tkT, h]
theorem tkT_two {t : ByteArray} (h : t.size = 2) : tkT t = (hexV (bt t 0), true) := by simp [tkT, h]
theorem gs_mem {S : List ByteArray} {p : ByteArray} (h : p ∈ S) : ∃ k, k < S.length ∧ gs S k = p := by
  obtain ⟨k, hk, he⟩ := List.getElem_of_mem h
  exact ⟨k, hk, by rw [gs_eq hk]; exact he⟩
/-- A text of a juggler has no bar. -/
theorem goT_bar {t : ByteArray} {j : Nat} (hj : j < t.size) (h : bt t j = 124) : goT (spL t 32) = false := by
  obtain ⟨p, hp, k, hk, hb⟩ := spL_has (c := 32) (d := 124) (by decide) t.size t (Nat.le_refl _) j hj h
  obtain ⟨i, hi, rfl⟩ := gs_mem hp
  by_cases hB : (gs (spL t 32) i).size = 1 ∨ (gs (spL t 32) i).size = 2 ∧ bt (gs (spL t 32) i) 1 = 112
  · have hk0 : k = 0 := by
      rcases hB with h1 | ⟨h1, h2⟩
      · omega
      · by_cases he : k = 1
        · rw [he, h2] at hb; cases hb
        · omega
    subst hk0
    exact goT_neg hi (by rw [hb]; decide)
  · exact goT_bad hi (tkB_no hB)

/-- A text in brackets. -/
def brB (s : ByteArray) : Bool := decide (2 ≤ s.size ∧ bt s 0 = 60 ∧ bt s (s.size - 1) = 62)
def inn (s : ByteArray) : ByteArray := sub s 1 (s.size - 1)
def rqW (s : ByteArray) : List ByteArray := spL (inn s) 124
def rqX (s : ByteArray) : List ByteArray := spL (gs (rqW s) 0) 32
def rqY (s : ByteArray) : List ByteArray := spL (gs (rqW s) 1) 32
def rqF (s : ByteArray) : Bool := brB s && decide ((rqW s).length = 2) && goT (rqX s) && goT (rqY s)
noncomputable def rqB (s : ByteArray) : Bool := rqF s && vpB (thL (rqX s)) (thL (rqY s))
noncomputable def rqA (s : ByteArray) : List Th := if rqB s then thL (rqX s) else []
noncomputable def rqC (s : ByteArray) : List Th := if rqB s then thL (rqY s) else []
/-- What is known of the throws A, B that are read off a text. -/
def rqP (s : ByteArray) (A B : List Th) (ok : Bool) : Prop := (ok = true → rqF s = true ∧ A = thL (rqX s) ∧ B = thL (rqY s)) ∧ (ok = false → rqB s = false)
theorem rq_no {s : ByteArray} (h : rqF s = false) : rqB s = false := by rw [rqB, h]; rfl
theorem rq_br {s : ByteArray} (h : ¬ (2 ≤ s.size ∧ bt s 0 = 60 ∧ bt s (s.size - 1) = 62)) : rqB s = false := rq_no (by rw [rqF, brB, decide_eq_false h]; rfl)
theorem rq_len {s : ByteArray} (h : ¬ (rqW s).length = 2) : rqB s = false := rq_no (by rw [rqF, decide_eq_false h]; simp)
theorem rq_x {s : ByteArray} (h : goT (rqX s) = false) : rqB s = false := rq_no (by rw [rqF, h]; simp)
theorem rq_y {s : ByteArray} (h : goT (rqY s) = false) : rqB s = false := rq_no (by rw [rqF, h]; simp)
theorem rq_sh {s : ByteArray} (h : shB (thL (rqX s)) (thL (rqY s)) = false) : rqB s = false := by rw [rqB, vpB_shape h]; simp
theorem rq_yes {s : ByteArray} (h1 : 2 ≤ s.size ∧ bt s 0 = 60 ∧ bt s (s.size - 1) = 62) (h2 : (rqW s).length = 2) (h3 : goT (rqX s) = true) (h4 : goT (rqY s) = true) : rqF s = true := by
  rw [rqF, brB, decide_eq_true h1, decide_eq_true h2, h3, h4]; rfl
theorem goT_of {S : List ByteArray} (h : thB S = true) (h2 : lpB (thL S) = true) : goT S = true := by rw [goT, h, h2]; rfl
theorem shB_lp {A B : List Th} (h : shB A B = true) : lpB A = true ∧ lpB B = true := by
  rw [← shB_spec] at h
  simp only [Bool.and_eq_true] at h
  exact h.1
end Go.Proofs.Ytbkacjfdkaiogaa
