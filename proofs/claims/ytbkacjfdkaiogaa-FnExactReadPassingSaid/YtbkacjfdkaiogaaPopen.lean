/-
  Patterns of two jugglers in memory: what they read as, what they own; an argument opened. No condition.
-/
import Derived.Test.YtbkacjfdkaiogaaThrows
import Derived.Lib.SmallJoins
import Derived.SizedLaws
namespace Go.Proofs.Ytbkacjfdkaiogaa
open Go.ChangeShapes Go.WideShapes Go.ChangeAt Go.RowKit


/-- A throw list's length is its number of elements. -/
def RdP (w : World) (a b : Value) (A B : List Th) : Prop := RdT 1 w a A.length A ∧ RdT 1 w b B.length B
theorem RdP.below {w w' : World} {a b : Value} {A B : List Th} (h : RdP w a b A B) (hb : Below w.heap.size w w') : RdP w' a b A B := ⟨h.1.below hb, h.2.below hb⟩
theorem RdT.form {m n : Nat} {w : World} {v : Value} {T : List Th} (h : RdT m w v n T) : ∃ s c, v = .slice s n c := by
  obtain ⟨_, _, s, c, hv, _⟩ := h
  exact ⟨s, c, hv⟩
theorem RdP.form {w : World} {a b : Value} {A B : List Th} (h : RdP w a b A B) : (∃ s c, a = .slice s A.length c) ∧ (∃ s c, b = .slice s B.length c) := ⟨h.1.form, h.2.form⟩
/-- A pattern of two jugglers owns both its rows, in blocks of their own. -/
def OwnP (w : World) (lo hi : Nat) (a b : Value) (A B : List Th) : Prop :=
  OwnT 42 1 w lo hi a A.length A ∧ OwnT 42 1 w lo hi b B.length B ∧ ∀ k, a.ownBlock = some k → b.ownBlock ≠ some k
theorem OwnP.rd {w : World} {lo hi : Nat} {a b : Value} {A B : List Th} (h : OwnP w lo hi a b A B) : RdP w a b A B := ⟨h.1.rd, h.2.1.rd⟩
theorem OwnP.kept {w w' : World} {lo hi lo' hi' : Nat} {a b : Value} {A B : List Th} (h : OwnP w lo hi a b A B) (hc : Chg w w' lo' hi') (hne : hi ≤ lo' ∨ hi' ≤ lo) : OwnP w' lo hi a b A B := ⟨h.1.kept hc hne, h.2.1.kept hc hne, h.2.2⟩
theorem OwnP.below {w w' : World} {lo hi : Nat} {a b : Value} {A B : List Th} (h : OwnP w lo hi a b A B) (hb : Below w.heap.size w w') : OwnP w' lo hi a b A B := ⟨h.1.below hb, h.2.1.below hb, h.2.2⟩
theorem OwnP.mono {w : World} {lo hi lo' hi' : Nat} {a b : Value} {A B : List Th} (h : OwnP w lo hi a b A B) (h1 : lo' ≤ lo) (h2 : hi ≤ hi') : OwnP w lo' hi' a b A B := ⟨h.1.mono h1 h2, h.2.1.mono h1 h2, h.2.2⟩
theorem ownP_nil (w : World) (lo hi : Nat) : OwnP w lo hi (.slice none 0 0) (.slice none 0 0) [] [] := ⟨ownT_nil _ _ _ _ _, ownT_nil _ _ _ _ _, fun k hk => by cases hk⟩
/-- Two rows, one behind the other. -/
theorem ownP_of {w : World} {lo mid hi : Nat} {a b : Value} {A B : List Th} (hA : OwnT 42 1 w lo mid a A.length A) (hB : OwnT 42 1 w mid hi b B.length B) (h1 : lo ≤ mid) (h2 : mid ≤ hi) : OwnP w lo hi a b A B :=
  ⟨hA.mono (Nat.le_refl _) h2, hB.mono h1 (Nat.le_refl _), fun k hk hk' => by
    have e1 := hA.2.2.2 k hk
    have e2 := (hB.2.2.1.lt k hk').1
    omega⟩

theorem OwnT.tight {e : TypeId} {m n : Nat} {w : World} {lo hi : Nat} {v : Value} {T : List Th} (h : OwnT e m w lo hi v n T) : ∃ l u, l ≤ u ∧ OwnT e m w l u v n T ∧ (∀ b, v.ownBlock ≠ some b → b < l ∨ u ≤ b) ∧ (l = u ∨ lo ≤ l ∧ u ≤ hi ∧ u ≤ w.heap.size) := by
  have hlt := h.2.2.1.lt
  obtain ⟨hT, hl, ⟨h1, h2⟩, h3⟩ := h
  rcases h2 with ⟨rfl, hz⟩ | ⟨g, cap, cur, rfl, hb, hg, r⟩
  · refine ⟨lo, lo, Nat.le_refl _, ⟨hT, hl, ⟨h1, .inl ⟨rfl, hz⟩⟩, fun k hk => by cases hk⟩, fun b _ => by omega, .inl rfl⟩
  · have hgh := h3 g rfl
    refine ⟨g, g + 1, by omega, ⟨hT, hl, ⟨h1, .inr ⟨g, cap, cur, rfl, Nat.le_refl _, hg, r⟩⟩, fun k hk => by cases hk; exact Nat.lt_succ_self _⟩, fun b hb => ?_, .inr ⟨hb, by omega, (hlt g rfl).2⟩⟩
    have : b ≠ g := fun e => hb (by rw [e]; rfl)
    omega
theorem OwnT.re {e : TypeId} {m n : Nat} {w : World} {l u lo hi : Nat} {v : Value} {T : List Th} (h : OwnT e m w l u v n T) (hb : ∀ k, v.ownBlock = some k → lo ≤ k ∧ k < hi) : OwnT e m w lo hi v n T := by
  obtain ⟨hT, hl, ⟨h1, h2⟩, h3⟩ := h
  refine ⟨hT, hl, ⟨h1, ?_⟩, fun k hk => (hb k hk).2⟩
  rcases h2 with h2 | ⟨g, cap, cur, rfl, hb', r⟩
  · exact .inl h2
  · exact .inr ⟨g, cap, cur, rfl, (hb g rfl).1, r⟩
theorem OwnT.in {e : TypeId} {m n : Nat} {w : World} {lo hi : Nat} {v : Value} {T : List Th} (h : OwnT e m w lo hi v n T) : ∀ k, v.ownBlock = some k → lo ≤ k ∧ k < hi := fun k hk => ⟨(h.2.2.1.lt k hk).1, h.2.2.2 k hk⟩
theorem chg_tight {w w' : World} {l u lo hi : Nat} (hc : Chg w w' l u) (h : l = u ∨ lo ≤ l ∧ u ≤ hi ∧ u ≤ w.heap.size) : Chg w w' lo hi := by
  rcases h with h | ⟨h, h', _⟩
  · subst h
    exact ⟨hc.os, hc.tape, hc.output, hc.size, fun i hi _ => hc.block i hi (by omega)⟩
  · exact hc.mono h h'
theorem OwnT.keptAt {e : TypeId} {m n : Nat} {w w' : World} {lo hi l h : Nat} {v : Value} {T : List Th} (ho : OwnT e m w lo hi v n T) (hc : Chg w w' l h) (hne : ∀ b, v.ownBlock = some b → b < l ∨ h ≤ b) : OwnT e m w' lo hi v n T := by
  obtain ⟨hT, hl, ⟨h1, h2⟩, h3⟩ := ho
  refine ⟨hT, hl, ⟨h1, ?_⟩, h3⟩
  rcases h2 with h2 | ⟨g, cap, cur, rfl, hb', hg, r⟩
  · exact .inl h2
  · exact .inr ⟨g, cap, cur, rfl, hb', by rw [hc.block g (Array.getElem?_eq_some_iff.1 hg).1 (hne g rfl)]; exact hg, r⟩
end Go.Proofs.Ytbkacjfdkaiogaa
