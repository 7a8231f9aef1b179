/-
  Patterns of two jugglers in memory: what they read as, what they own; an argument opened. No condition.
-/
import Derived.Test.YtdagakjeefhimaaThrows
import Derived.Lib.SmallJoins
import Derived.SizedLaws
namespace Go.Proofs.Ytdagakjeefhimaa
open Go.ChangeShapes Go.WideShapes Go.ChangeAt Go.RowKit


/-- A throw list's length is its number of elements. -/
def RdP (w : World) (a b : Value) (A B : List Th) : Prop := RdT 1 w a A.length A ∧ RdT 1 w b B.length B
theorem RdP.below {w w' : World} {a b : Value} {A B : List Th} (h : RdP w a b A B) (hb : Below w.heap.size w w') : RdP w' a b A B := ⟨h.1.below hb, h.2.below hb⟩
theorem RdT.form {m n : Nat} {w : World} {v : Value} {T : List Th} (h : RdT m w v n T) : ∃ s c, v = .slice s n c := by
  obtain ⟨_, _, s, c, hv, _⟩ := h
  exact ⟨s, c, hv⟩
theorem RdP.form {w : World} {a b : Value} {A B : List Th} (h : RdP w a b A B) : (∃ s c, a = .slice s A.length c) ∧ (∃ s c, b = .slice s B.length c) := ⟨h.1.form, h.2.form⟩
/-- A pattern of two jugglers owns both its rows, in blocks of their own. -/
def OwnP (w : World) (lo hi : Nat) (a b : Value) (A B : List Th) : Prop :=
  OwnT 71 1 w lo hi a A.length A ∧ OwnT 71 1 w lo hi b B.length B ∧ ∀ k, a.ownBlock = some k → b.ownBlock ≠ some k
theorem OwnP.rd {w : World} {lo hi : Nat} {a b : Value} {A B : List Th} (h : OwnP w lo hi a b A B) : RdP w a b A B := ⟨h.1.rd, h.2.1.rd⟩
theorem OwnP.kept {w w' : World} {lo hi lo' hi' : Nat} {a b : Value} {A B : List Th} (h : OwnP w lo hi a b A B) (hc : Chg w w' lo' hi') (hne : hi ≤ lo' ∨ hi' ≤ lo) : OwnP w' lo hi a b A B := ⟨h.1.kept hc hne, h.2.1.kept hc hne, h.2.2⟩
theorem OwnP.below {w w' : World} {lo hi : Nat} {a b : Value} {A B : List Th} (h : OwnP w lo hi a b A B) (hb : Below w.heap.size w w') : OwnP w' lo hi a b A B := ⟨h.1.below hb, h.2.1.below hb, h.2.2⟩
theorem OwnP.mono {w : World} {lo hi lo' hi' : Nat} {a b : Value} {A B : List Th} (h : OwnP w lo hi a b A B) (h1 : lo' ≤ lo) (h2 : hi ≤ hi') : OwnP w lo' hi' a b A B := ⟨h.1.mono h1 h2, h.2.1.mono h1 h2, h.2.2⟩
theorem ownP_nil (w : World) (lo hi : Nat) : OwnP w lo hi (.slice none 0 0) (.slice none 0 0) [] [] := ⟨ownT_nil _ _ _ _ _, ownT_nil _ _ _ _ _, fun k hk => by cases hk⟩
/-- Two rows, one behind the other. -/
theorem ownP_of {w : World} {lo mid hi : Nat} {a b : Value} {A B : List Th} (hA : OwnT 71 1 w lo mid a A.length A) (hB : OwnT 71 1 w mid hi b B.length B) (h1 : lo ≤ mid) (h2 : mid ≤ hi) : OwnP w lo hi a b A B :=
  ⟨hA.mono (Nat.le_refl _) h2, hB.mono h1 (Nat.le_refl _), fun k hk hk' => by
    have e1 := hA.2.2.2 k hk
    have e2 := (hB.2.2.1.lt k hk').1
    omega⟩

theorem OwnT.tight {e : TypeId} {m n : Nat} {w : World} {lo hi : Nat} {v : Value} {T : List Th} (h : OwnT e m w lo hi v n T) : ∃ l u, l ≤ u ∧ OwnT e m w l u v n T ∧ (∀ b, v.ownBlock ≠ some b → b < l ∨ u ≤ b) ∧ (l = u ∨ lo ≤ l ∧ u ≤ hi ∧ u ≤ w.heap.size) := by
  have hlt := h.2.2.1.lt
  obtain ⟨hT, hl, ⟨h1, h2⟩, h3⟩ := h
  rcases h2 with ⟨rfl, hz⟩ | ⟨g, cap, cur, rfl, hb, hg, r⟩
  · refine ⟨lo, lo, Nat.le_refl _, ⟨hT, hl, ⟨h1, .inl ⟨rfl, hz⟩⟩, fun k hk => by cases hk⟩, fun b _ => by omega, .inl rfl⟩
  · have hgh := h3 g rfl
    refine ⟨g, g + 1, by omega, ⟨hT, hl, ⟨h1, .inr ⟨g, cap, cur, rfl, Nat.le_refl _, hg, r⟩⟩, fun k hk => by cases hk; exact Nat.lt_succ_self _⟩, fun b hb => ?_, .inr ⟨hb, by omega, (hlt g rfl).2⟩⟩
    have : b ≠ g := fun e => hb (by rw [e]; rfl)
    omega
theorem OwnT.re {e : TypeId} {m n : Nat} {w : World} {l u lo hi : Nat} {v : Value} {T : List Th} (h : OwnT e m w l u v n T) (hb : ∀ k, v.ownBlock = some k → lo ≤ k ∧ k < hi) : OwnT e m w lo hi v n T := by
  obtain ⟨hT, hl, ⟨h1, h2⟩, h3⟩ := h
  refine ⟨hT, hl, ⟨h1, ?_⟩, fun k hk => (hb k hk).2⟩
  rcases h2 with h2 | ⟨g, cap, cur, rfl, hb', r⟩
  · exact .inl h2
  · exact .inr ⟨g, cap, cur, rfl, (hb g rfl).1, r⟩
theorem OwnT.in {e : TypeId} {m n : Nat} {w : World} {lo hi : Nat} {v : Value} {T : List Th} (h : OwnT e m w lo hi v n T) : ∀ k, v.ownBlock = some k → lo ≤ k ∧ k < hi := fun k hk => ⟨(h.2.2.1.lt k hk).1, h.2.2.2 k hk⟩
theorem chg_tight {w w' : World} {l u lo hi : Nat} (hc : Chg w w' l u) (h : l = u ∨ lo ≤ l ∧ u ≤ hi ∧ u ≤ w.heap.size) : Chg w w' lo hi := by
  rcases h with h | ⟨h, h', _⟩
  · subst h
    exact ⟨hc.os, hc.tape, hc.output, hc.size, fun i hi _ => hc.block i hi (by omega)⟩
  · exact hc.mono h h'
theorem OwnT.keptAt {e : TypeId} {m n : Nat} {w w' : World} {lo hi l h : Nat} {v : Value} {T : List Th} (ho : OwnT e m w lo hi v n T) (hc : Chg w w' l h) (hne : ∀ b, v.ownBlock = some b → b < l ∨ h ≤ b) : OwnT e m w' lo hi v n T := by
  obtain ⟨hT, hl, ⟨h1, h2⟩, h3⟩ := ho
  refine ⟨hT, hl, ⟨h1, ?_⟩, h3⟩
  rcases h2 with h2 | ⟨g, cap, cur, rfl, hb', hg, r⟩
  · exact .inl h2
  · exact .inr ⟨g, cap, cur, rfl, hb', by rw [hc.block g (Array.getElem?_eq_some_iff.1 hg).1 (hne g rfl)]; exact hg, r⟩

theorem Try.cellsPassThrow : Try.prog.cellsOf 74 = 2 := by kernel_rfl
theorem Try.cellsBoolP : Try.prog.cellsOf 4 = 1 := by kernel_rfl
theorem Try.bytesPassThrow : Try.prog.bytesOf 74 = 16 := by kernel_rfl

theorem list2 {α : Type} {l : List α} (h : l.length = 2) : ∃ a b, l = [a, b] := by
  match l, h with
  | [a, b], _ => exact ⟨a, b, rfl⟩

set_option maxRecDepth 100000 in
theorem rdPs_open {H : Type} {enc : TypeId × Value → H} {W : World} {fuel : Nat} {v : Value} {x : DataW H × List MemPlace}
    (hf : DataW.trod enc Try.prog W 0 (fun _ => true) true fuel 27 [v] = some x) (hr : ∀ k ∈ DataW.weights Try.prog 27 x.1, k ≤ reachBytes) :
    ∃ T : List Th, RdT 1 W v T.length T ∧ ∀ k, k < T.length → (Lit.int .i64 (gt T k).1).wf = true := by
  rcases Go.Deep.open_slice Try.underlying27 hf with ⟨hcs, hx⟩ | ⟨a, len, cap, m, nn, D, Pl, hcs, hb, hl, hm, hmm, hx, hi⟩
  · simp at hcs
    subst hcs
    exact ⟨[], ⟨by simp, by simp, none, 0, rfl, fun h => absurd rfl h⟩, fun k hk => absurd hk (Nat.not_lt_zero k)⟩
  · simp at hcs
    subst hcs
    have hlm : len ≤ m := by rw [hmm]; split <;> omega
    have hlen : len ≤ 8796093022208 := by
      have := hr ((((List.range len).map D).length + ((List.range (m - len)).map fun j => D (len + j)).length) * Try.prog.bytesOf 74) (by rw [hx]; simp [DataW.weights, Try.underlying27])
      rw [Try.bytesPassThrow] at this
      simp only [List.length_map, List.length_range, reachBytes] at this
      omega
    have key : ∀ i : Nat, ∃ q : Th, i < len → W.cell? (a.add (i * 2)) = some (.int .i64 q.1) ∧ W.cell? (a.add (i * 2 + 1)) = some (.bool q.2) ∧ (Lit.int .i64 q.1).wf = true := by
      intro i
      by_cases hil : i < len
      · obtain ⟨cs', hc, ht⟩ := hi i (by omega)
        rw [Try.cellsPassThrow] at hc
        obtain ⟨_, hlen', hcell⟩ := World.cells?_some hc
        obtain ⟨c0, c1, rfl⟩ := list2 hlen'
        obtain ⟨y0, y1, n1, _, _, s0, s1⟩ := trod_struct2 Try.underlying74 ht
        simp [Try.cellsInt64, Try.cellsBoolP] at s0 s1
        obtain ⟨x0, e0, _, w0⟩ := DataW.trod_int Try.underlying2 s0
        obtain ⟨x1, e1, _⟩ := DataW.trod_bool Try.underlying4 s1
        simp at e0 e1
        subst e0 e1
        refine ⟨(x0, x1), fun _ => ⟨?_, ?_, w0⟩⟩
        · have := hcell 0 (by omega); rw [Go.Deep.add_add] at this; exact this
        · have := hcell 1 (by omega); rw [Go.Deep.add_add] at this; exact this
      · exact ⟨(0, false), fun h => absurd h hil⟩
    obtain ⟨f, hf2⟩ := Classical.axiomOfChoice key
    have hlT : ((List.range len).map f).length = len := by simp
    have hgt : ∀ k, k < len → gt ((List.range len).map f) k = f k := fun k hk => by rw [gt_eq (by rw [hlT]; exact hk)]; simp
    refine ⟨(List.range len).map f, ⟨by simp, by rw [hlT]; exact hlen, some a, cap, by rw [hlT], fun hne => ?_⟩, fun k hk => ?_⟩
    · rw [hlT] at hne ⊢
      have hc0 := (hf2 0 (by omega)).1
      obtain ⟨b, o, s⟩ := a
      have hs : s = none := by simpa [Addr.add] using World.cell?_spot hc0
      subst hs
      refine ⟨b, o, rfl, by simpa [Addr.add] using World.block_lt_of_cell? W _ hc0, fun k hk => ?_⟩
      rw [hgt k (by omega)]
      have h4 := hf2 k (by omega)
      simp only [Addr.add_lit] at h4
      rw [Nat.mul_comm k 2] at h4
      exact ⟨h4.1, h4.2.1⟩
    · rw [hlT] at hk
      rw [hgt k hk]
      exact (hf2 k hk).2.2

set_option maxRecDepth 100000 in
/-- An argument of type Passing, opened once. -/
theorem rdP_open {H : Type} {enc : TypeId × Value → H} {W : World} {r : Reach} {b0 : Nat} {v : Value} {d : DataW H} {p : List MemPlace}
    (hval : Value.okWide Try.prog W r b0 29 v) (h : DataW.Trod enc Try.prog W 0 (fun _ => true) true 29 v d p)
    (hr : ∀ k ∈ DataW.weights Try.prog 29 d, k ≤ reachBytes) :
    ∃ (a b : Value) (A B : List Th), v = .agg #[a, b] ∧ RdP W a b A B ∧ (∀ k, k < A.length → (Lit.int .i64 (gt A k).1).wf = true) ∧ ∀ k, k < B.length → (Lit.int .i64 (gt B k).1).wf = true := by
  obtain ⟨a, b, y0, y1, n, rfl, rfl, _, h0, h1⟩ := Go.Joins.open_agg2 Try.underlying29 (by kernel_rfl) (by kernel_rfl) hval h
  simp only [DataW.weights, Try.underlying29, DataW.weightsEach, List.map_cons, List.map_nil, List.append_nil, List.mem_append] at hr
  obtain ⟨A, hA, wA⟩ := rdPs_open h0 (fun k hk => hr k (.inl hk))
  obtain ⟨B, hB, wB⟩ := rdPs_open h1 (fun k hk => hr k (.inr hk))
  exact ⟨a, b, A, B, rfl, ⟨hA, hB⟩, wA, wB⟩
end Go.Proofs.Ytdagakjeefhimaa
