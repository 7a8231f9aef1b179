/-
  Contracts of the functions on siteswaps (chapter 2), fourth part: the throw at a beat, the beat from which a throw lands. No condition beyond each contract's own.
-/
import Derived.Test.YtloebbeaccjgjaaL02c
namespace Go.Proofs.Ytloebbeaccjgjaa
open Go.ChangeShapes Go.WideShapes Go.ChangeAt Go.RowKit


theorem tmod_bd {a n : Int} (hn : 1 ≤ n) : -n < a.tmod n ∧ a.tmod n < n := ⟨Int.lt_tmod_of_pos a (by omega), Int.tmod_lt_of_pos a (by omega)⟩
theorem mod_mod {a n : Int} : (a.tmod n + n) % n = a % n := by
  rw [Int.add_emod_right, Int.tmod_def, Int.sub_mul_emod_self_left]
theorem emod_bd {a n : Int} (hn : 1 ≤ n) : 0 ≤ a % n ∧ a % n < n := ⟨Int.emod_nonneg a (by omega), Int.emod_lt_of_pos a (by omega)⟩

/-- The throw at a beat. -/
def thV (p : List Int) (b : Int) : Int := gi p (b % (p.length : Int)).toNat
/-- The code of a pattern and a beat. -/
def bcV (p : List Int) (b : Int) : Int := if validB p then (if btw b (-1000000) 1000000 then 0 else 2) else 1

def taA (p : List Int) (b : Int) : Int := if bcV p b = 0 then thV p b else 0
theorem bc_valid {p : List Int} {b : Int} (h : bcV p b = 0) : validB p = true ∧ -1000000 ≤ b ∧ b ≤ 1000000 := by
  unfold bcV at h
  cases hv : validB p with
  | false => rw [hv] at h; simp at h
  | true =>
    rw [hv] at h
    cases hb : btw b (-1000000) 1000000 with
    | false => rw [hb] at h; simp at h
    | true => exact ⟨rfl, btw_iff.1 hb⟩

theorem nodup_len : ∀ (n : Nat) (l : List Nat), l.Nodup → (∀ x ∈ l, x < n) → l.length ≤ n
  | 0, l, _, h => by
    cases l with
    | nil => simp
    | cons a l => exact absurd (h a (by simp)) (Nat.not_lt_zero a)
  | n + 1, l, hd, h => by
    by_cases hn : n ∈ l
    · have h1 := nodup_len n (l.erase n) (hd.erase n) (fun x hx => by
        have hm := (hd.mem_erase_iff).1 hx
        have := h x hm.2
        have := hm.1
        omega)
      rw [List.length_erase_of_mem hn] at h1
      omega
    · have h1 := nodup_len n l hd (fun x hx => by
        have h2 := h x hx
        have : x ≠ n := fun e => hn (e ▸ hx)
        omega)
      omega

/-- n different numbers below n: each number below n is one of them. -/
theorem hits (n : Nat) (f : Nat → Nat) (hf : ∀ i, i < n → f i < n) (hd : ∀ i k, i < k → k < n → f i ≠ f k) (r : Nat) (hr : r < n) : ∃ i, i < n ∧ f i = r := by
  by_cases h : ∃ i, i < n ∧ f i = r
  · exact h
  · exfalso
    have hnd : (r :: (List.range n).map f).Nodup := by
      rw [List.nodup_cons]
      refine ⟨fun hm => ?_, ?_⟩
      · obtain ⟨i, hi, e⟩ := List.mem_map.1 hm
        exact h ⟨i, List.mem_range.1 hi, e⟩
      · rw [List.Nodup, List.pairwise_map]
        refine List.Pairwise.imp_of_mem ?_ (List.pairwise_lt_range (n := n))
        intro i k _ hk hlt
        exact hd i k hlt (List.mem_range.1 hk)
    have := nodup_len n _ hnd (fun x hx => by
      rcases List.mem_cons.1 hx with rfl | hx
      · exact hr
      · obtain ⟨i, hi, rfl⟩ := List.mem_map.1 hx
        exact hf i (List.mem_range.1 hi))
    simp at this
    omega

theorem landI_bd {p : List Int} (hn : 1 ≤ p.length) (j : Nat) : 0 ≤ landI p j ∧ landI p j < p.length := emod_bd (by omega)
theorem clash_ne {p : List Int} (h : clash p = none) {i k : Nat} (hik : i < k) (hk : k < p.length) : landI p i ≠ landI p k := by
  intro he
  cases hf : findI (fun k => (clashAt p k).isSome) p.length with
  | none =>
    have h1 := findI_none_iff.1 hf k hk
    have h2 : clashAt p k = none := by simpa using h1
    have h3 := findI_none_iff.1 h2 i hik
    simp [he] at h3
  | some k' =>
    have h1 := findI_spec hf
    obtain ⟨i', hi'⟩ := Option.isSome_iff_exists.1 h1.2.1
    simp [clash, hf, hi'] at h
/-- In a pattern some throw lands at each beat. -/
theorem lands_hit {p : List Int} (hv : validB p = true) (r : Int) (h0 : 0 ≤ r) (h1 : r < p.length) : ∃ i, i < p.length ∧ landI p i = r := by
  have hn := (validB_true hv).1
  have hc : clash p = none := by
    simp only [validB, Bool.and_eq_true] at hv
    simpa using hv.2
  obtain ⟨i, hi, e⟩ := hits p.length (fun i => (landI p i).toNat) (fun i _ => by have := landI_bd hn i; omega)
    (fun i k hik hk e => clash_ne hc hik hk (by have e' : (landI p i).toNat = (landI p k).toNat := e; have := landI_bd hn i; have := landI_bd hn k; omega)) r.toNat (by omega)
  exact ⟨i, hi, by have e' : (landI p i).toNat = r.toNat := e; have := landI_bd hn i; omega⟩

/-- The beat whose throw lands at a beat. -/
def lfV (p : List Int) (b : Int) : Int := match findI (fun i => landI p i == b % (p.length : Int)) p.length with | some i => b - gi p i | none => 0
theorem lfV_at {p : List Int} {b : Int} {i : Nat} (hi : i < p.length) (h : landI p i = b % (p.length : Int)) (hb : ∀ j, j < i → landI p j ≠ b % (p.length : Int)) : lfV p b = b - gi p i := by
  rw [lfV, findI_some (i := i) (by simp [h]) (fun j hj => by simp [hb j hj]) hi]

def lfA (p : List Int) (b : Int) : Int := if bcV p b = 0 then lfV p b else 0
end Go.Proofs.Ytloebbeaccjgjaa
