/-
  Slices of throws (a number and a mark each): what they read as, what they own. No condition.
-/
import Derived.Test.YtfeihkpaigadkaaInts
import Derived.Deep.Slices
import Derived.Deep.Fields
import Derived.ChangeSame
namespace Go.Proofs.Ytfeihkpaigadkaa
open Go.ChangeShapes Go.WideShapes Go.ChangeAt Go.RowKit


/-- A throw: its number and its mark (crossing, pass). -/
abbrev Th := Int × Bool
/-- Throw k of a list. -/
def gt (T : List Th) (k : Nat) : Th := T.getD k (0, false)
theorem gt_eq {T : List Th} {k : Nat} (h : k < T.length) : gt T k = T[k] := by simp [gt, h]
theorem gt_ext {A B : List Th} (hl : A.length = B.length) (h : ∀ k, k < A.length → gt A k = gt B k) : A = B := by
  apply List.ext_getElem hl
  intro k h1 h2
  have := h k h1
  rwa [gt_eq h1, gt_eq h2] at this
theorem gt_set {T : List Th} {i j : Nat} {x : Th} (hi : i < T.length) : gt (T.set i x) j = if j = i then x else gt T j := by
  unfold gt
  by_cases h : j = i
  · subst h; simp [hi]
  · have h' : ¬ i = j := fun e => h e.symm
    simp [h, h']
theorem gt_append_left {S T : List Th} {k : Nat} (h : k < S.length) : gt (S ++ T) k = gt S k := by simp [gt, List.getElem?_append_left h]
theorem gt_append_right {S T : List Th} {k : Nat} (h : S.length ≤ k) : gt (S ++ T) k = gt T (k - S.length) := by
  simp [gt, List.getElem?_append_right h]
/-- The places of throws in memory. -/
def cT : List Th → List Value
  | [] => []
  | t :: T => .int .i64 t.1 :: .bool t.2 :: cT T
theorem cT_length : ∀ (T : List Th), (cT T).length = 2 * T.length
  | [] => rfl
  | t :: T => by simp only [cT, List.length_cons, cT_length T]; omega
theorem cT_append : ∀ (S T : List Th), cT (S ++ T) = cT S ++ cT T
  | [], T => rfl
  | s :: S, T => by simp [cT, cT_append S T]
theorem cT_v : ∀ {T : List Th} {k : Nat}, k < T.length → (cT T)[2 * k]? = some (.int .i64 (gt T k).1)
  | [], k, h => absurd h (Nat.not_lt_zero k)
  | t :: T, 0, _ => rfl
  | t :: T, k + 1, h => by
    rw [show 2 * (k + 1) = 2 * k + 1 + 1 by omega]
    simp only [cT, List.getElem?_cons_succ]
    rw [cT_v (T := T) (by simpa using h)]
    simp [gt]
theorem cT_x : ∀ {T : List Th} {k : Nat}, k < T.length → (cT T)[2 * k + 1]? = some (.bool (gt T k).2)
  | [], k, h => absurd h (Nat.not_lt_zero k)
  | t :: T, 0, _ => rfl
  | t :: T, k + 1, h => by
    rw [show 2 * (k + 1) + 1 = 2 * k + 1 + 1 + 1 by omega]
    simp only [cT, List.getElem?_cons_succ]
    rw [cT_x (T := T) (by simpa using h)]
    simp [gt]
theorem cT_setv : ∀ {T : List Th} {k : Nat} {y : Int}, k < T.length → (cT T).set (2 * k) (.int .i64 y) = cT (T.set k (y, (gt T k).2))
  | [], k, _, h => absurd h (Nat.not_lt_zero k)
  | t :: T, 0, _, _ => rfl
  | t :: T, k + 1, y, h => by
    rw [show 2 * (k + 1) = 2 * k + 1 + 1 by omega]
    simp only [cT, List.set_cons_succ]
    rw [cT_setv (T := T) (by simpa using h)]
    simp [gt]
theorem cT_setx : ∀ {T : List Th} {k : Nat} {y : Bool}, k < T.length → (cT T).set (2 * k + 1) (.bool y) = cT (T.set k ((gt T k).1, y))
  | [], k, _, h => absurd h (Nat.not_lt_zero k)
  | t :: T, 0, _, _ => rfl
  | t :: T, k + 1, y, h => by
    rw [show 2 * (k + 1) + 1 = 2 * k + 1 + 1 + 1 by omega]
    simp only [cT, List.set_cons_succ]
    rw [cT_setx (T := T) (by simpa using h)]
    simp [gt]
theorem cT_one (T : List Th) : ∀ u ∈ cT T, u.oneCell' = true := by
  induction T with
  | nil => intro u hu; cases hu
  | cons t T ih =>
    intro u hu
    simp only [cT, List.mem_cons] at hu
    rcases hu with rfl | rfl | hu
    · rfl
    · rfl
    · exact ih u hu

/-- The value v is a slice of n elements, of m throws each, that reads as the throws T. -/
def RdT (m : Nat) (w : World) (v : Value) (n : Nat) (T : List Th) : Prop :=
  T.length = n * m ∧ n ≤ 8796093022208 ∧ ∃ a c, v = .slice a n c ∧ (n ≠ 0 → ∃ b o, a = some ⟨b, o, none⟩ ∧ b < w.heap.size ∧ ∀ k, k < n * m → w.cell? ⟨b, o + 2 * k, none⟩ = some (.int .i64 (gt T k).1) ∧ w.cell? ⟨b, o + (2 * k + 1), none⟩ = some (.bool (gt T k).2))

theorem RdT.below {m n : Nat} {w w' : World} {v : Value} {T : List Th} (h : RdT m w v n T) (hb : Below w.heap.size w w') : RdT m w' v n T := by
  obtain ⟨hT, hl, a, c, hv, ha⟩ := h
  refine ⟨hT, hl, a, c, hv, fun hn => ?_⟩
  obtain ⟨b, o, he, hlt, hc⟩ := ha hn
  exact ⟨b, o, he, Nat.lt_of_lt_of_le hlt hb.size, fun j hj => ⟨(hb.cell (p := ⟨b, o + 2 * j, none⟩) hlt).trans (hc j hj).1, (hb.cell (p := ⟨b, o + (2 * j + 1), none⟩) hlt).trans (hc j hj).2⟩⟩
theorem RdT.drewN {m n : Nat} {w : World} {v : Value} {T : List Th} (h : RdT m w v n T) (k : Nat) : RdT m (w.drewN k) v n T := h

/-- The slice value v, of n elements of m throws each, owns its row, which lies in a block from lo on and below hi. -/
def OwnT (e : TypeId) (m : Nat) (w : World) (lo hi : Nat) (v : Value) (n : Nat) (T : List Th) : Prop :=
  T.length = n * m ∧ n ≤ 8796093022208 ∧ w.ownsRow lo e (2 * m) v n (cT T) ∧ ∀ k, v.ownBlock = some k → k < hi

theorem OwnT.rd {e : TypeId} {m n : Nat} {w : World} {lo hi : Nat} {v : Value} {T : List Th} (h : OwnT e m w lo hi v n T) : RdT m w v n T := by
  obtain ⟨hT, hl, h, _⟩ := h
  have h' := h
  obtain ⟨h1, h2⟩ := h
  rcases h2 with ⟨rfl, h0⟩ | ⟨g, cap, cur, rfl, hb, hg, hn, hm, hs, ht⟩
  · refine ⟨hT, hl, none, 0, by rw [h0], fun hn => absurd h0 hn⟩
  · have e2 : n * (2 * m) = 2 * (n * m) := by rw [Nat.mul_left_comm]
    refine ⟨hT, hl, _, cap, rfl, fun _ => ⟨g, 0, rfl, (Array.getElem?_eq_some_iff.1 hg).1, fun k hk => ⟨?_, ?_⟩⟩⟩
    · rw [Nat.zero_add, h'.cellAt (2 * k) (by omega)]
      exact cT_v (by omega)
    · rw [Nat.zero_add, h'.cellAt (2 * k + 1) (by omega)]
      exact cT_x (by omega)

theorem OwnT.kept {e : TypeId} {m n : Nat} {w w' : World} {lo hi lo' hi' : Nat} {v : Value} {T : List Th} (h : OwnT e m w lo hi v n T) (hc : Chg w w' lo' hi') (hne : hi ≤ lo' ∨ hi' ≤ lo) : OwnT e m w' lo hi v n T := by
  obtain ⟨hT, hl, ⟨h1, h2⟩, h3⟩ := h
  refine ⟨hT, hl, ⟨h1, ?_⟩, h3⟩
  rcases h2 with h2 | ⟨g, cap, cur, rfl, hb', hg, r⟩
  · exact .inl h2
  · have := h3 g rfl
    exact .inr ⟨g, cap, cur, rfl, hb', by rw [hc.block g (Array.getElem?_eq_some_iff.1 hg).1 (by omega)]; exact hg, r⟩

theorem OwnT.below {e : TypeId} {m n : Nat} {w w' : World} {lo hi : Nat} {v : Value} {T : List Th} (h : OwnT e m w lo hi v n T) (hb : Below w.heap.size w w') : OwnT e m w' lo hi v n T :=
  h.kept (below_chg hb hi hi) (.inl (Nat.le_refl _))

theorem OwnT.mono {e : TypeId} {m n : Nat} {w : World} {lo hi lo' hi' : Nat} {v : Value} {T : List Th} (h : OwnT e m w lo hi v n T) (h1 : lo' ≤ lo) (h2 : hi ≤ hi') : OwnT e m w lo' hi' v n T := by
  obtain ⟨hT, hl, ⟨h1', h2'⟩, h3⟩ := h
  refine ⟨hT, hl, ⟨h1', ?_⟩, fun k hk => Nat.lt_of_lt_of_le (h3 k hk) h2⟩
  rcases h2' with h2' | ⟨g, cap, cur, e, hb', r⟩
  · exact .inl h2'
  · exact .inr ⟨g, cap, cur, e, by omega, r⟩

theorem ownT_of {e : TypeId} {m n : Nat} {w : World} {lo : Nat} {v : Value} {T : List Th} (hT : T.length = n * m) (hl : n ≤ 8796093022208) (h : w.ownsRow lo e (2 * m) v n (cT T)) : OwnT e m w lo w.heap.size v n T :=
  ⟨hT, hl, h, fun k hk => (h.lt k hk).2⟩

theorem ownT_nil (e : TypeId) (m : Nat) (w : World) (lo hi : Nat) : OwnT e m w lo hi (.slice none 0 0) 0 [] := ⟨by simp, by simp, World.ownsRow_nil _ _ _ _, fun k hk => by cases hk⟩

/-- The marks that a slice of throws is given: a number, and whether the next one is a multiple of three. -/
def mkT (q : Int) (n : Nat) : List Th := (List.range n).map fun (j : Nat) => (q + 2 * (j : Int), (q + 2 * (j : Int) + 1) % 3 == 0)
theorem mkT_length (q : Int) (n : Nat) : (mkT q n).length = n := by simp [mkT]
theorem mkT_gt (q : Int) (n j : Nat) (h : j < n) : gt (mkT q n) j = (q + 2 * (j : Int), (q + 2 * (j : Int) + 1) % 3 == 0) := by
  rw [gt_eq (by rw [mkT_length]; exact h)]
  simp [mkT]
/-- What a slice of throws holds when its first k are marked. -/
def mkP (q : Int) (T : List Th) (k : Nat) : List Th := mkT q k ++ T.drop k
theorem mkP_length (q : Int) (T : List Th) (k : Nat) (h : k ≤ T.length) : (mkP q T k).length = T.length := by simp [mkP, mkT_length]; omega
theorem mkP_zero (q : Int) (T : List Th) : mkP q T 0 = T := by simp [mkP, mkT]
theorem mkP_full (q : Int) (T : List Th) : mkP q T T.length = mkT q T.length := by simp [mkP]
theorem mkP_at (q : Int) (T : List Th) (k : Nat) (_ : k < T.length) : gt (mkP q T k) k = gt T k := by
  rw [mkP, gt_append_right (by rw [mkT_length]; exact Nat.le_refl _), mkT_length, Nat.sub_self]
  simp [gt]
theorem mkP_succ (q : Int) (T : List Th) (k : Nat) (h : k < T.length) : (mkP q T k).set k (q + 2 * (k : Int), (q + 2 * (k : Int) + 1) % 3 == 0) = mkP q T (k + 1) := by
  rw [mkP, mkP, List.drop_eq_getElem_cons h, List.set_append, if_neg (by rw [mkT_length]; omega), mkT_length, Nat.sub_self, List.set_cons_zero]
  simp [mkT, List.range_succ]
end Go.Proofs.Ytfeihkpaigadkaa
