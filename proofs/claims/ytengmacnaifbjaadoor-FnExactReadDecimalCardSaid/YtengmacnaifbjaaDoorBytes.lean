/-
  Slices of bytes of the call's own, and the strings made of them. No condition.
-/
import Derived.Test.YtengmacnaifbjaaDoorInts
namespace Go.Proofs.YtengmacnaifbjaaDoor
open Go.ChangeShapes Go.WideShapes Go.ChangeAt Go.RowKit


theorem Tryd.infoU8 : (Tryd.prog.info? 5).map (fun i => (i.zero, i.size, i.bytes)) = some (some (.int .u8 0), 1, 1) := by kernel_rfl

/-- 'append(out, x)' of one byte onto a slice of the call's own, behind the new block that holds x. -/
theorem push_byte {ops : Array Oper} {rest : List Oper} {o : Oper} {a : Act} {Q : Exit → Act → World → Prop} {w : World} {lo : Nat} {v : Value} {zs : List Int} {x : Int}
    (hgd : o.guard = none) (s xo : Operand) (ho : o.op = .call { callee := .builtin .append, args := #[s, xo], argTypes := #[29, 29] })
    (hs : a.eval s = v) (hx : a.eval xo = .slice (some ⟨w.heap.size, 0, none⟩) 1 1) (hown : w.ownsRow lo 5 1 v zs.length (zs.map (Value.int .u8))) (hlo : lo ≤ w.heap.size) (hl : zs.length ≤ 17592186044415)
    (h : ∀ v' w', w'.ownsRow lo 5 1 v' (zs ++ [x]).length ((zs ++ [x]).map (Value.int .u8)) → Below lo w w' → wpList Tryd.prog ops Q rest (a.put o.dst v') w') :
    wpList Tryd.prog ops Q (o :: rest) a (w.alloc (.cells #[.int .u8 x] 5)) := by
  obtain ⟨i0, hi, hz0, hz1, hz2⟩ := info_parts Tryd.infoU8
  refine wpList_append_own _ hgd s xo 29 ho lo 5 i0 (.int .u8 0) 1 1 Tryd.underlying29 hi hz0 hz1 hz2 rfl (by decide) v zs.length _ hs (hown.alloc _) ⟨w.heap.size, 0, none⟩ 1 1 [.int .u8 x] hx rfl (cell_one_new _ _ _) (by intro u hu; simp at hu; subst hu; rfl) (by unfold maxLen; omega) (by omega) (by simp; omega) ?_
  intro v' w' hown' hg _
  refine h v' w' (by simpa using hown') ?_
  exact ((Below.refl _ _).alloc hlo _).grown hg (by simp; omega) (fun k hk => by have := (hown.lt k hk).1; omega)

theorem bytes_made (w : World) : (w.alloc (.cells #[] 5)).ownsRow w.heap.size 5 1 (.slice (some ⟨w.heap.size, 0, none⟩) 0 0) ([] : List Int).length (([] : List Int).map (Value.int .u8)) :=
  World.ownsRow_made w #[] 0 (Nat.le_refl _) (by decide) (by simp)
theorem below_bytes (w : World) : Below w.heap.size w (w.alloc (.cells #[] 5)) := (Below.refl _ _).alloc (Nat.le_refl _) _

/-- 'string(out)' of bytes of the call's own. -/
theorem conv_own {w : World} {lo : Nat} {v : Value} {xs : List Int} (h : w.ownsRow lo 5 1 v xs.length (xs.map (Value.int .u8))) :
    (convert 29 9 v).run Tryd.prog w = .ok (.string (strOfNums xs)) w := by
  have h' := h
  obtain ⟨h1, h2⟩ := h
  rcases h2 with ⟨rfl, h0⟩ | ⟨g, cap, cur, rfl, hb, hg, hn, hm, hs, ht⟩
  · obtain rfl : xs = [] := List.length_eq_zero_iff.1 h0
    exact run_convert_bytes_nil (P := Tryd.prog) w _ _ Tryd.underlying29 Tryd.underlying5 0 0 _ Tryd.underlying9
  · refine run_convert_bytes_arg (P := Tryd.prog) w _ _ Tryd.underlying29 Tryd.underlying5 g 0 xs.length cap xs rfl (fun i hi => ?_) _ Tryd.underlying9
    rw [Nat.zero_add, h'.cellAt i (by omega)]
    simp [hi]

theorem str_append (a b : List Int) : strOfNums a ++ strOfNums b = strOfNums (a ++ b) := by
  unfold strOfNums
  apply ByteArray.ext
  simp [ByteArray.data_append]
theorem str_empty : (⟨#[]⟩ : ByteArray) = strOfNums [] := rfl
end Go.Proofs.YtengmacnaifbjaaDoor
