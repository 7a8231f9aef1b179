/-
  Contracts of the laws' own helpers on slices of numbers: toInt64S, eqInt64S, markInt64S, heldInt64S. No condition.
-/
import Derived.Test.YtengmacnaifbjaaDoorBase
namespace Go.Proofs.YtengmacnaifbjaaDoor
open Go.ChangeShapes Go.WideShapes Go.ChangeAt Go.RowKit


/-- What the law's own function held.. answers over the numbers A, begun at q. -/
def heldRes (A : List Int) (q : Int) : Int := if ∀ j, j < A.length → gi A j = q + j then q + A.length else -1

/-- The numbers q, q + 1, .. : what a marked slice of n places holds. -/
def marks (q : Int) (n : Nat) : List Int := (List.range n).map (fun (j : Nat) => q + (j : Int))
theorem marks_length (q : Int) (n : Nat) : (marks q n).length = n := by simp [marks]
theorem marks_gi (q : Int) (n j : Nat) (h : j < n) : gi (marks q n) j = q + j := by
  rw [gi_eq (by simpa [marks] using h)]
  simp [marks]
theorem marks_snoc (q : Int) (n : Nat) : marks q (n + 1) = marks q n ++ [q + (n : Int)] := by simp [marks, List.range_succ]
theorem held_marks (q : Int) (A : List Int) (n : Nat) (h : A = marks q n) : heldRes A q = q + n := by
  subst h
  rw [heldRes, if_pos (fun j hj => marks_gi q n j (by simpa [marks] using hj)), marks_length]
theorem mark_set (q : Int) (A : List Int) (k : Nat) (h : k < A.length) :
    ((marks q k ++ A.drop k).map (Value.int .i64)).set k (.int .i64 (q + k)) = (marks q (k + 1) ++ A.drop (k + 1)).map (Value.int .i64) := by
  rw [marks_snoc, List.drop_eq_getElem_cons h, List.append_assoc, ← List.map_set, List.set_append, if_neg (by simp [marks])]
  rw [marks_length, Nat.sub_self, List.set_cons_zero, List.singleton_append]
theorem mark_at (q : Int) (A : List Int) (k : Nat) (h : k < A.length) : ((marks q k ++ A.drop k).map (Value.int .i64))[k]? = some (.int .i64 (gi A k)) := by
  rw [List.getElem?_map, List.getElem?_append_right (by simp [marks]), marks_length, List.getElem?_drop, Nat.sub_self, Nat.add_zero, List.getElem?_eq_getElem h, gi_eq h]
  rfl
end Go.Proofs.YtengmacnaifbjaaDoor
