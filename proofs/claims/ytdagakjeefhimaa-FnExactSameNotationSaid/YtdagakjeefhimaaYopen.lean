/-
  An argument of type []SyncBeat, opened; the laws' own helpers on such slices. No condition.
-/
import Derived.Test.YtdagakjeefhimaaThrows
namespace Go.Proofs.Ytdagakjeefhimaa
open Go.ChangeShapes Go.WideShapes Go.ChangeAt Go.RowKit


theorem Try.cellsSync : Try.prog.cellsOf 66 = 4 := by kernel_rfl
theorem Try.cellsSyncT : Try.prog.cellsOf 64 = 2 := by kernel_rfl
theorem Try.cellsBool : Try.prog.cellsOf 4 = 1 := by kernel_rfl
theorem Try.bytesSync : Try.prog.bytesOf 66 = 32 := by kernel_rfl

theorem list4 {α : Type} {l : List α} (h : l.length = 4) : ∃ a b c d, l = [a, b, c, d] := by
  match l, h with
  | [a, b, c, d], _ => exact ⟨a, b, c, d, rfl⟩

/-- The list of throws of pairs. -/
def pairT (f : Nat → Th × Th) (n : Nat) : List Th := (List.range (n * 2)).map fun (k : Nat) => if k % 2 = 0 then (f (k / 2)).1 else (f (k / 2)).2
theorem pairT_length (f : Nat → Th × Th) (n : Nat) : (pairT f n).length = n * 2 := by simp [pairT]
theorem pairT_gt (f : Nat → Th × Th) {n k : Nat} (h : k < n * 2) : gt (pairT f n) k = if k % 2 = 0 then (f (k / 2)).1 else (f (k / 2)).2 := by
  rw [gt_eq (by rw [pairT_length]; exact h)]
  simp [pairT]

set_option maxRecDepth 100000 in
theorem rdY_open {H : Type} {enc : TypeId × Value → H} {W : World} {r : Reach} {b0 : Nat} {v : Value} {d : DataW H} {p : List MemPlace}
    (hval : Value.okWide Try.prog W r b0 26 v) (h : DataW.Trod enc Try.prog W 0 (fun _ => true) true 26 v d p)
    (hr : ∀ elems spare, d = .slice elems spare → (elems.length + spare.length) * Try.prog.bytesOf 66 ≤ reachBytes) :
    ∃ (n : Nat) (T : List Th), RdT 2 W v n T ∧ ∀ k, k < n * 2 → (Lit.int .i64 (gt T k).1).wf = true := by
  obtain ⟨a0, len, cap, rfl⟩ := okWide_slice Try.underlying26 hval
  obtain ⟨fuel, hf⟩ := h
  rcases Go.Deep.open_slice Try.underlying26 hf with ⟨hcs, hx⟩ | ⟨a, len', cap', m, nn, D, Pl, hcs, hb, hl, hm, hmm, hx, hi⟩
  · simp [Value.cells] at hcs
    obtain ⟨rfl, rfl, rfl⟩ := hcs
    exact ⟨0, [], ⟨by simp, by simp, none, 0, rfl, fun h => absurd rfl h⟩, fun k hk => absurd hk (by omega)⟩
  · simp [Value.cells] at hcs
    obtain ⟨rfl, rfl, rfl⟩ := hcs
    have hlm : len ≤ m := by rw [hmm]; split <;> omega
    simp only [Prod.mk.injEq] at hx
    obtain ⟨hx1, _⟩ := hx
    have hrr := hr _ _ hx1
    rw [Try.bytesSync] at hrr
    simp only [List.length_map, List.length_range, reachBytes] at hrr
    have key : ∀ i : Nat, ∃ q : Th × Th, i < len → W.cell? (a.add (i * 4)) = some (.int .i64 q.1.1) ∧ W.cell? (a.add (i * 4 + 1)) = some (.bool q.1.2) ∧ W.cell? (a.add (i * 4 + 2)) = some (.int .i64 q.2.1) ∧ W.cell? (a.add (i * 4 + 3)) = some (.bool q.2.2) ∧
        (Lit.int .i64 q.1.1).wf = true ∧ (Lit.int .i64 q.2.1).wf = true := by
      intro i
      by_cases hil : i < len
      · obtain ⟨cs', hc, ht⟩ := hi i (by omega)
        rw [Try.cellsSync] at hc
        obtain ⟨_, hlen, hcell⟩ := World.cells?_some hc
        obtain ⟨c0, c1, c2, c3, rfl⟩ := list4 hlen
        obtain ⟨y0, y1, n1, _, _, t0, t1⟩ := trod_struct2 Try.underlying66 ht
        obtain ⟨z0, z1, n2, _, _, s0, s1⟩ := trod_struct2 Try.underlying64 t0
        obtain ⟨z2, z3, n3, _, _, s2, s3⟩ := trod_struct2 Try.underlying64 t1
        simp [Try.cellsSyncT, Try.cellsInt64, Try.cellsBool] at s0 s1 s2 s3
        obtain ⟨x0, e0, _, w0⟩ := DataW.trod_int Try.underlying2 s0
        obtain ⟨x1, e1, _⟩ := DataW.trod_bool Try.underlying4 s1
        obtain ⟨x2, e2, _, w2⟩ := DataW.trod_int Try.underlying2 s2
        obtain ⟨x3, e3, _⟩ := DataW.trod_bool Try.underlying4 s3
        simp at e0 e1 e2 e3
        subst e0 e1 e2 e3
        refine ⟨((x0, x1), (x2, x3)), fun _ => ⟨?_, ?_, ?_, ?_, w0, w2⟩⟩
        · have := hcell 0 (by omega); rw [Go.Deep.add_add] at this; exact this
        · have := hcell 1 (by omega); rw [Go.Deep.add_add] at this; exact this
        · have := hcell 2 (by omega); rw [Go.Deep.add_add] at this; exact this
        · have := hcell 3 (by omega); rw [Go.Deep.add_add] at this; exact this
      · exact ⟨((0, false), (0, false)), fun h => absurd h hil⟩
    obtain ⟨f, hf2⟩ := Classical.axiomOfChoice key
    refine ⟨len, pairT f len, ⟨pairT_length f len, by omega, some a, cap, rfl, fun hn => ?_⟩, fun k hk => ?_⟩
    · have hc0 := (hf2 0 (by omega)).1
      obtain ⟨b, o, s⟩ := a
      have hs : s = none := by simpa [Addr.add] using World.cell?_spot hc0
      subst hs
      refine ⟨b, o, rfl, by simpa [Addr.add] using World.block_lt_of_cell? W _ hc0, fun k hk => ?_⟩
      rw [pairT_gt f hk]
      have h4 := hf2 (k / 2) (by omega)
      simp only [Addr.add_lit] at h4
      by_cases he : k % 2 = 0
      · rw [if_pos he, show o + 2 * k = o + k / 2 * 4 by omega, show o + (2 * k + 1) = o + (k / 2 * 4 + 1) by omega]
        exact ⟨h4.1, h4.2.1⟩
      · rw [if_neg he, show o + 2 * k = o + (k / 2 * 4 + 2) by omega, show o + (2 * k + 1) = o + (k / 2 * 4 + 3) by omega]
        exact ⟨h4.2.2.1, h4.2.2.2.1⟩
    · rw [pairT_gt f hk]
      have h4 := hf2 (k / 2) (by omega)
      by_cases he : k % 2 = 0
      · rw [if_pos he]; exact h4.2.2.2.2.1
      · rw [if_neg he]; exact h4.2.2.2.2.2
end Go.Proofs.Ytdagakjeefhimaa
