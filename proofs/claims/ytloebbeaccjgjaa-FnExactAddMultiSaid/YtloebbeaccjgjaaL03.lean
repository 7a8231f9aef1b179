/-
  Contracts of the operations on patterns (chapter 3): copies, repetitions, rotations. No condition beyond each contract's own.
-/
import Derived.Test.YtloebbeaccjgjaaL02d
namespace Go.Proofs.Ytloebbeaccjgjaa
open Go.ChangeShapes Go.WideShapes Go.ChangeAt Go.RowKit


set_option maxHeartbeats 1000000 in
theorem copyNumbers_any (v : Value) (p : List Int) (w : World) (hp : Rd w v p) (hn : 1 ≤ p.length) :
    Calls Try.prog 30 #[v] w fun e w' => ∃ u, e = .returned u ∧ Own w' w.heap.size w'.heap.size u p ∧ Below w.heap.size w w' := by
  obtain ⟨la, a, ca, rfl, ha⟩ := hp
  obtain ⟨ba, oa, rfl, hba, hca⟩ := ha (by omega)
  clear ha
  have hB1 := below_made w
  have hc1 : ∀ j, j < p.length → (w.alloc (.cells #[] 2)).cell? ⟨ba, oa + j, none⟩ = some (.int .i64 (gi p j)) := fun j hj => (hB1.cell (p := ⟨ba, oa + j, none⟩) hba).trans (hca j hj)
  have hown := own_made w
  have hB2 := Lib.hid hB1
  have hc2 := Lib.hid hc1
  clear hB1 hc1
  go_enter Try.func30, Try.ntmps30
  go_wp2_with (at_builtin; refine push_slice (zs := []) (ys := p) rfl _ _ rfl rfl rfl hown hc2.out hB2.out.size (by simpa using la) ?_; intro v' w' hown' hb')
  go_ret
  exact ⟨_, rfl, own_of la (by simpa using hown'), hB2.out.trans hb'⟩

set_option maxHeartbeats 1000000 in
theorem l00Own_any (v : Value) (p : List Int) (w : World) (hp : Rd w v p) (hn : 1 ≤ p.length) :
    Calls Try.prog 27 #[v] w fun e w' => ∃ u, e = .returned u ∧ Own w' w.heap.size w'.heap.size u p ∧ Below w.heap.size w w' := by
  obtain ⟨la, a, ca, rfl, ha⟩ := hp
  obtain ⟨ba, oa, rfl, hba, hca⟩ := ha (by omega)
  clear ha
  have hB1 := below_made w
  have hc1 : ∀ j, j < p.length → (w.alloc (.cells #[] 2)).cell? ⟨ba, oa + j, none⟩ = some (.int .i64 (gi p j)) := fun j hj => (hB1.cell (p := ⟨ba, oa + j, none⟩) hba).trans (hca j hj)
  have hown := own_made w
  have hB2 := Lib.hid hB1
  have hc2 := Lib.hid hc1
  clear hB1 hc1
  go_enter Try.func27, Try.ntmps27
  go_wp2_with (at_builtin; refine push_slice (zs := []) (ys := p) rfl _ _ rfl rfl rfl hown hc2.out hB2.out.size (by simpa using la) ?_; intro v' w' hown' hb')
  go_ret
  exact ⟨_, rfl, own_of la (by simpa using hown'), hB2.out.trans hb'⟩

/-- A list, t times one after the other. -/
def repL (p : List Int) : Nat → List Int
  | 0 => []
  | t + 1 => repL p t ++ p
theorem repL_length (p : List Int) : ∀ t, (repL p t).length = t * p.length
  | 0 => by simp [repL]
  | t + 1 => by rw [repL, List.length_append, repL_length p t, Nat.succ_mul]
theorem rep_room {p : List Int} {k t : Nat} (h : k < t) (hb : t * p.length ≤ 1000) : (repL p k).length + p.length ≤ 1000 := by
  rw [repL_length, ← Nat.succ_mul]
  exact Nat.le_trans (Nat.mul_le_mul_right _ h) hb

/-- RepeatPattern: the code, the list. -/
def rpC (p : List Int) (t : Int) : Int := if validB p then (if btw t 1 (12 / (p.length : Int)) then 0 else 2) else 1
def rpL (p : List Int) (t : Int) : List Int := if rpC p t = 0 then repL p t.toNat else []
theorem rp_ok {p : List Int} {t : Int} (hv : validB p = true) (h : btw t 1 (12 / (p.length : Int)) = true) : rpC p t = 0 := by simp [rpC, hv, h]
theorem rp_bd {p : List Int} {t : Int} (hn : 1 ≤ p.length) (h : btw t 1 (12 / (p.length : Int)) = true) : 1 ≤ t ∧ t ≤ 12 ∧ t.toNat * p.length ≤ 1000 := by
  obtain ⟨h1, h2⟩ := btw_iff.1 h
  have h3 : (12 : Int) / (p.length : Int) * (p.length : Int) ≤ 12 := Int.ediv_mul_le 12 (by omega)
  have h4 : t * (p.length : Int) ≤ 12 := Int.le_trans (Int.mul_le_mul_of_nonneg_right h2 (by omega)) h3
  have h5 : t * 1 ≤ t * (p.length : Int) := Int.mul_le_mul_of_nonneg_left (by omega) (by omega)
  have h6 : ((t.toNat * p.length : Nat) : Int) = t * (p.length : Int) := by rw [Int.natCast_mul, Int.toNat_of_nonneg (by omega)]
  omega
end Go.Proofs.Ytloebbeaccjgjaa
