/-
  Contracts of the functions on patterns of two jugglers (chapter 6), eighth part: together. No condition beyond each contract's own.
-/
import Derived.Test.YtbkacjfdkaiogaaP2
import Derived.Test.YtbkacjfdkaiogaaL02b
import Derived.Deep.RegionHeld3
import Derived.Deep.AppendLies
namespace Go.Proofs.Ytbkacjfdkaiogaa
open Go.ChangeShapes Go.WideShapes Go.ChangeAt Go.RowKit


/-- 'append(out, t)' of one throw onto a slice of the call's own, behind the new block that holds t. -/
theorem push_pass {ops : Array Oper} {rest : List Oper} {o : Oper} {a : Act} {Q : Exit → Act → World → Prop} {w : World} {lo n : Nat} {v : Value} {T : List Th} {x : Th}
    (hgd : o.guard = none) (s xo : Operand) (ho : o.op = .call { callee := .builtin .append, args := #[s, xo], argTypes := #[22, 22] })
    (hs : a.eval s = v) (H : Nat) (hx : a.eval xo = .slice (some ⟨H, 0, none⟩) 1 1) (hH : H = w.heap.size) (hown : w.ownsRow lo 42 2 v n (cT T)) (hlo : lo ≤ w.heap.size) (hl : n ≤ 1000000000)
    (h : ∀ v' w', w'.ownsRow lo 42 2 v' (n + 1) (cT (T ++ [x])) → Below lo w w' → wpList Try.prog ops Q rest (a.put o.dst v') w') :
    wpList Try.prog ops Q (o :: rest) a (w.alloc (.cells #[.int .i64 x.1, .bool x.2] 42)) := by
  obtain ⟨i0, hi, hz0, hz1, hz2⟩ := info_parts Try.infoPass
  subst hH
  refine wpList_append_own _ hgd s xo 22 ho lo 42 i0 _ 2 16 Try.underlying22 hi hz0 hz1 hz2 rfl (by decide) v n _ hs (hown.alloc _) ⟨w.heap.size, 0, none⟩ 1 1 (cT [x]) hx rfl (World.news_of_block (heap_alloc_new w _)) (cT_one _) (by unfold maxLen; omega) (by omega) (by simp; omega) ?_
  intro v' w' hown' hg _
  rw [← cT_append] at hown'
  refine h v' w' hown' ?_
  exact ((Below.refl _ _).alloc hlo _).grown hg (by simp; omega) (fun k hk => by have := (hown.lt k hk).1; omega)
theorem pass_made (w : World) : (w.alloc (.cells #[] 42)).ownsRow w.heap.size 42 2 (.slice (some ⟨w.heap.size, 0, none⟩) 0 0) 0 (cT []) :=
  World.ownsRow_made w #[] 0 (Nat.le_refl _) (by decide) (by simp)
theorem below_pass (w : World) : Below w.heap.size w (w.alloc (.cells #[] 42)) := (Below.refl _ _).alloc (Nat.le_refl _) _

/-- The throws of a juggler alone. -/
def slP (p : List Int) : Nat → List Th
  | 0 => []
  | k + 1 => slP p k ++ [(gi p k, false)]
theorem slP_length (p : List Int) : ∀ k, (slP p k).length = k
  | 0 => rfl
  | k + 1 => by simp [slP, slP_length p k]
def toOk (p q : List Int) : Bool := validB p && validB q && decide (p.length = q.length) && decide (p.length ≤ 8)
def toC (p q : List Int) : Int := if validB p && validB q then (if p.length = q.length then (if p.length ≤ 8 then 0 else 5) else 6) else 1
def toA (p q : List Int) : List Th := if toOk p q then slP p p.length else []
def toB (p q : List Int) : List Th := if toOk p q then slP q q.length else []
end Go.Proofs.Ytbkacjfdkaiogaa
