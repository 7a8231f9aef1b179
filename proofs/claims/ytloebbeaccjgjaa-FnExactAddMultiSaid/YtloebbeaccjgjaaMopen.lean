/-
  Patterns with several throws at a beat in memory: an argument opened; the laws' own helpers on them. No condition beyond each contract's own.
-/
import Derived.Test.YtloebbeaccjgjaaMrows
import Derived.SizedLaws
import Derived.Deep.Matrix
import Derived.ChangeSame
namespace Go.Proofs.Ytloebbeaccjgjaa
open Go.ChangeShapes Go.WideShapes Go.ChangeAt Go.RowKit


theorem RdR.form' {w : World} {v : Value} {R : List (List Int)} (h : RdR w v R) : ∃ s n c, v = .slice s n c := by
  obtain ⟨_, s, c, hv, _⟩ := h
  exact ⟨s, _, c, hv⟩
theorem chg_cell {w w' : World} {lo hi b : Nat} (hc : Chg w w' lo hi) (hlt : b < w.heap.size) (hne : b < lo ∨ hi ≤ b) (o : Nat) : w'.cell? ⟨b, o, none⟩ = w.cell? ⟨b, o, none⟩ := by
  have h := hc.block b hlt hne
  unfold World.cell?
  simp only [h]
theorem box_below (w : World) (o : Obj) : Below w.heap.size w (w.alloc o) := (Below.refl _ _).alloc (Nat.le_refl _) _
theorem bcellAt {W w1 : World} {B : Nat} (K : Nat) (hb : Below B W w1) (h : K ≤ B) : (∀ b o, b < K → w1.cell? ⟨b, o, none⟩ = W.cell? ⟨b, o, none⟩) ∧ (∀ b o, b < K → w1.frozen? ⟨b, o, none⟩ = W.frozen? ⟨b, o, none⟩) := bcell (hb.mono h)

theorem weightsAll_mem {H : Type} {P : Program} {e : TypeId} : ∀ {ds : List (DataW H)} {d : DataW H}, d ∈ ds → ∀ n ∈ d.weights P e, n ∈ DataW.weightsAll P e ds
  | d0 :: ds, d, h, n, hn => by
    simp only [DataW.weightsAll, List.mem_append]
    rcases List.mem_cons.1 h with rfl | h
    · exact .inl hn
    · exact .inr (weightsAll_mem h n hn)
theorem Try.cellsInts : Try.prog.cellsOf 22 = 1 := by kernel_rfl
theorem Try.bytesInts : Try.prog.bytesOf 22 = 24 := by kernel_rfl

set_option maxRecDepth 100000 in
theorem rdR_open {H : Type} {enc : TypeId × Value → H} {W : World} {fuel : Nat} {v : Value} {x : DataW H × List MemPlace}
    (hf : DataW.trod enc Try.prog W 0 (fun _ => true) true fuel 29 [v] = some x) (hr : ∀ k ∈ DataW.weights Try.prog 29 x.1, k ≤ reachBytes) :
    ∃ R : List (List Int), RdR W v R := by
  rcases Go.Deep.open_int_rows Try.underlying29 Try.underlying22 Try.underlying2 Try.cellsInts Try.cellsInt64 hf with ⟨hcs, hx⟩ | ⟨a, len, cap, A, L, C, Z, hcs, hb, hl, hm, hx, hi⟩
  · simp at hcs
    subst hcs
    exact ⟨[], by simp, none, 0, rfl, fun h => absurd rfl h⟩
  · simp at hcs
    subst hcs
    simp only [hx] at hr
    have hlen : len ≤ 17592186044416 := by
      have := hr ((((List.range len).map fun r => Go.Deep.intRow (H := H) .i64 (A r) (L r) (Z r)).length + ((List.range (cap - len)).map fun j => Go.Deep.intRow (H := H) .i64 (A (len + j)) (L (len + j)) (Z (len + j))).length) * Try.prog.bytesOf 22) (by simp [DataW.weights, Try.underlying29])
      rw [Try.bytesInts] at this
      simp only [List.length_map, List.length_range, reachBytes] at this
      omega
    have hrow : ∀ r, r < len → Rd W (.slice (A r) (L r) (C r)) ((Z r).take (L r)) := by
      intro r hrl
      obtain ⟨_, h1, h2, h3, _, h5, h6⟩ := hi r (by omega)
      have e : ((Z r).take (L r)).length = L r := by simp; omega
      have hLr : L r ≤ 17592186044416 := by
        cases hA : A r with
        | none => have := h5 hA; omega
        | some a' =>
          have hmem : Go.Deep.intRow (H := H) .i64 (A r) (L r) (Z r) ∈ ((List.range len).map fun r => Go.Deep.intRow (H := H) .i64 (A r) (L r) (Z r)) := List.mem_map.2 ⟨r, List.mem_range.2 hrl, rfl⟩
          have := hr (((lits (H := H) .i64 ((Z r).take (L r))).length + (lits (H := H) .i64 ((Z r).drop (L r))).length) * Try.prog.bytesOf 2) (by
            simp only [DataW.weights, Try.underlying29, List.mem_cons, List.mem_append]
            refine .inr (.inl (weightsAll_mem hmem _ ?_))
            rw [hA]
            simp [Go.Deep.intRow, DataW.weights, Try.underlying22])
          rw [Try.bytesInt64] at this
          simp only [lits, List.length_map, List.length_take, List.length_drop, reachBytes] at this
          omega
      refine ⟨by omega, A r, C r, by rw [e], fun hn => ?_⟩
      rw [e] at hn
      cases hA : A r with
      | none => have := h5 hA; omega
      | some a' =>
        obtain ⟨_, h7⟩ := h6 a' hA
        have hc0 := h7 0 (by omega)
        obtain ⟨b, o, s⟩ := a'
        have hs : s = none := by simpa [Addr.add] using World.cell?_spot hc0
        subst hs
        refine ⟨b, o, rfl, by simpa [Addr.add] using World.block_lt_of_cell? W _ hc0, fun j hj => ?_⟩
        rw [e] at hj
        have := h7 j (by omega)
        rw [gi_take hj, ← Addr.add_lit]
        exact this
    have hlR : ((List.range len).map fun r => (Z r).take (L r)).length = len := by simp
    refine ⟨(List.range len).map fun r => (Z r).take (L r), by rw [hlR]; exact hlen, some a, cap, by rw [hlR], fun hne => ?_⟩
    rw [hlR] at hne ⊢
    have hc0 := (hi 0 (by omega)).1
    obtain ⟨b, o, s⟩ := a
    have hs : s = none := by simpa [Addr.add] using World.cell?_spot hc0
    subst hs
    refine ⟨b, o, fun r => .slice (A r) (L r) (C r), rfl, by simpa [Addr.add] using World.block_lt_of_cell? W _ hc0, fun r hrl => ⟨?_, ?_⟩⟩
    · have := (hi r (by omega)).1
      rw [← Addr.add_lit]
      exact this
    · rw [gr_eq (by rw [hlR]; exact hrl)]
      simp only [List.getElem_map, List.getElem_range]
      exact hrow r hrl

set_option maxRecDepth 100000 in
/-- An argument of type Multi, opened once. -/
theorem rdM_open {H : Type} {enc : TypeId × Value → H} {W : World} {r : Reach} {b0 : Nat} {v : Value} {d : DataW H} {p : List MemPlace}
    (hval : Value.okWide Try.prog W r b0 31 v) (h : DataW.Trod enc Try.prog W 0 (fun _ => true) true 31 v d p)
    (hr : ∀ k ∈ DataW.weights Try.prog 31 d, k ≤ reachBytes) :
    ∃ (a : Value) (R : List (List Int)), v = .agg #[a] ∧ RdR W a R := by
  obtain ⟨cs, rfl, hsz⟩ := okWide_struct Try.underlying31 hval
  rw [show Try.prog.cellsOf 31 = 1 by kernel_rfl] at hsz
  obtain ⟨l⟩ := cs
  match l, hsz with
  | [c0], _ =>
    obtain ⟨fuel, hf⟩ := h
    obtain ⟨y0, n, hx, _, h0⟩ := trod_struct1 Try.underlying31 hf
    simp only [Prod.mk.injEq] at hx
    obtain ⟨rfl, rfl⟩ := hx
    simp only [DataW.weights, Try.underlying31, DataW.weightsEach, List.map_cons, List.map_nil, List.append_nil] at hr
    rw [show Try.prog.cellsOf 29 = 1 by kernel_rfl] at h0
    simp [Value.cells] at h0
    obtain ⟨R, hR⟩ := rdR_open h0 hr
    exact ⟨c0, R, rfl, hR⟩
end Go.Proofs.Ytloebbeaccjgjaa
