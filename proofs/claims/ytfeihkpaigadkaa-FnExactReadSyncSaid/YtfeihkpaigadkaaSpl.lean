/-
  Splitting a text between bytes, and cutting it: one law. Plain Lean. No condition.
-/
import Derived.Test.YtfeihkpaigadkaaSplit
import Derived.Test.YtfeihkpaigadkaaCut
namespace Go.Proofs.Ytfeihkpaigadkaa
open Go.ChangeShapes Go.WideShapes Go.ChangeAt Go.RowKit

open Go.PlainAid

theorem fx_spec {t : ByteArray} {c : Int} {i : Nat} (h : fx t c = some i) : i < t.size ∧ bt t i = c ∧ ∀ j, j < i → bt t j ≠ c := by
  obtain ⟨h1, h2, h3⟩ := findI_spec h
  exact ⟨h1, by simpa using h2, fun j hj => by simpa using h3 j hj⟩
theorem fx_no {t : ByteArray} {c : Int} (h : fx t c = none) : ∀ j, j < t.size → bt t j ≠ c := fun j hj => by simpa using findI_none_iff.1 h j hj
theorem spG_pre {t : ByteArray} {c : Int} {i : Nat} (hb : ∀ j, j < i → bt t j ≠ c) : ∀ k, k ≤ i → spG t c k = ([], 0)
  | 0, _ => rfl
  | k + 1, hk => by
    rw [spG, if_neg (hb k (by omega)), spG_pre hb k (by omega)]
theorem spG_suf {t : ByteArray} {c : Int} {i : Nat} (hc : bt t i = c) (hb : ∀ j, j < i → bt t j ≠ c) : ∀ m, i + 1 + m ≤ t.size →
    spG t c (i + 1 + m) = (sub t 0 i :: (spG (sub t (i + 1) t.size) c m).1, i + 1 + (spG (sub t (i + 1) t.size) c m).2)
  | 0, _ => by
    have e : spG t c (i + 1) = if bt t i = c then ((spG t c i).1 ++ [sub t (spG t c i).2 i], i + 1) else spG t c i := rfl
    rw [if_pos hc, spG_pre hb i (Nat.le_refl _)] at e
    exact e
  | m + 1, hm => by
    have ih := spG_suf hc hb m (by omega)
    have hle := (spG_le (sub t (i + 1) t.size) c m).1
    show spG t c (i + 1 + m + 1) = _
    rw [spG, ih, spG, sub_bt (Nat.le_refl _) (by omega)]
    by_cases h : bt t (i + 1 + m) = c
    · rw [if_pos h, if_pos h, sub_sub (by omega) (by omega)]
      simp
      omega
    · rw [if_neg h, if_neg h]
theorem spL_some {t : ByteArray} {c : Int} {i : Nat} (h : fx t c = some i) : spL t c = sub t 0 i :: spL (sub t (i + 1) t.size) c := by
  obtain ⟨h1, h2, h3⟩ := fx_spec h
  have hz := sub_size (s := t) (i := i + 1) (Nat.le_refl _)
  have hs := spG_suf h2 h3 (t.size - (i + 1)) (by omega)
  rw [show i + 1 + (t.size - (i + 1)) = t.size by omega] at hs
  have hle := (spG_le (sub t (i + 1) t.size) c (t.size - (i + 1))).1
  unfold spL
  rw [hs, hz, sub_sub (by omega) (by omega), show i + 1 + (t.size - (i + 1)) = t.size by omega]
  simp
theorem spL_none {t : ByteArray} {c : Int} (h : fx t c = none) : spL t c = [t] := by
  unfold spL
  rw [spG_pre (fx_no h) _ (Nat.le_refl _), sub_all]
  rfl
theorem spL_yes {t : ByteArray} {c : Int} (h : cuF t c = true) : spL t c = cuA t c :: spL (cuB t c) c ∧ (cuB t c).size < t.size := by
  unfold cuF at h
  unfold cuA cuB
  cases hf : fx t c with
  | none => rw [hf] at h; cases h
  | some i =>
    refine ⟨spL_some hf, ?_⟩
    have := (fx_spec hf).1
    rw [sub_size (Nat.le_refl _)]
    omega
theorem spL_not {t : ByteArray} {c : Int} (h : cuF t c = false) : spL t c = [t] ∧ cuA t c = t := by
  unfold cuF at h
  unfold cuA
  cases hf : fx t c with
  | none => exact ⟨spL_none hf, rfl⟩
  | some i => rw [hf] at h; cases h
theorem cuA_size (t : ByteArray) (c : Int) : (cuA t c).size ≤ t.size := by
  unfold cuA
  cases hf : fx t c with
  | none => exact Nat.le_refl _
  | some i => have := (fx_spec hf).1; simp only; rw [sub_size (by omega)]; omega
theorem cuB_size (t : ByteArray) (c : Int) : (cuB t c).size ≤ t.size := by
  unfold cuB
  cases hf : fx t c with
  | none => exact Nat.zero_le _
  | some i => simp only; rw [sub_size (Nat.le_refl _)]; omega
/-- What every part of a text lacks, the text lacks, but for the byte between. -/
theorem spL_has {c d : Int} (hd : d ≠ c) : ∀ (n : Nat) (t : ByteArray), t.size ≤ n → ∀ j, j < t.size → bt t j = d → ∃ p ∈ spL t c, ∃ k, k < p.size ∧ bt p k = d
  | 0, t, hn, j, hj, _ => absurd hj (by omega)
  | n + 1, t, hn, j, hj, hb => by
    cases hf : fx t c with
    | none => rw [spL_none hf]; exact ⟨t, by simp, j, hj, hb⟩
    | some i =>
      obtain ⟨h1, h2, h3⟩ := fx_spec hf
      rw [spL_some hf]
      by_cases hji : j < i
      · exact ⟨sub t 0 i, by simp, j, by rw [sub_size (by omega)]; omega, by rw [sub_bt (by omega) (by omega), Nat.zero_add]; exact hb⟩
      · have hne : j ≠ i := fun e => hd (by rw [← hb, e, h2])
        have hz := sub_size (s := t) (i := i + 1) (Nat.le_refl _)
        obtain ⟨p, hp, k, hk, hbk⟩ := spL_has hd n (sub t (i + 1) t.size) (by omega) (j - (i + 1)) (by omega) (by rw [sub_bt (Nat.le_refl _) (by omega), show i + 1 + (j - (i + 1)) = j by omega]; exact hb)
        exact ⟨p, by simp [hp], k, hk, hbk⟩
theorem spL_size (c : Int) : ∀ (n : Nat) (t : ByteArray), t.size ≤ n → ∀ p, p ∈ spL t c → p.size ≤ t.size
  | n, t, hn, p, hp => by
    cases hf : fx t c with
    | none => rw [spL_none hf] at hp; simp at hp; subst hp; exact Nat.le_refl _
    | some i =>
      obtain ⟨h1, h2, h3⟩ := fx_spec hf
      rw [spL_some hf] at hp
      have hz := sub_size (s := t) (i := i + 1) (Nat.le_refl _)
      rcases List.mem_cons.1 hp with rfl | hp
      · rw [sub_size (by omega)]; omega
      · match n, hn with
        | 0, hn => omega
        | n + 1, hn =>
          have := spL_size c n (sub t (i + 1) t.size) (by omega) p hp
          omega
theorem gs_size {t : ByteArray} {c : Int} {k : Nat} (h : k < (spL t c).length) : (gs (spL t c) k).size ≤ t.size := by
  rw [gs_eq h]; exact spL_size c t.size t (Nat.le_refl _) _ (List.getElem_mem h)
/-- A text that is cut has the byte. -/
theorem cuF_has {t : ByteArray} {c : Int} (h : cuF t c = true) : ∃ j, j < t.size ∧ bt t j = c := by
  unfold cuF at h
  cases hf : fx t c with
  | none => rw [hf] at h; cases h
  | some i => exact ⟨i, (fx_spec hf).1, (fx_spec hf).2.1⟩
end Go.Proofs.Ytfeihkpaigadkaa
