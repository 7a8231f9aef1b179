/-
  ReadDecimal: the law's function returns true for each text, wherever the library's tables are laid. No other condition.
-/
import Derived.Test.YtengmacnaifbjaaDoorD5
namespace Go.Proofs.YtengmacnaifbjaaDoor
open Go.ChangeShapes Go.WideShapes Go.ChangeAt Go.RowKit

open Go.PlainAid

set_option maxHeartbeats 2000000 in
theorem specReadD_any (s : ByteArray) (w : World) (hs : s.size ≤ 1048576) :
    Calls Tryd.prog 7 #[.string s] w fun e w' => e = .returned (.tuple #[.int .i64 (rdN s), .bool (rdB s)]) ∧ Below w.heap.size w w' := by
  have hd := Lib.hid (l01Number_any s w hs)
  go_enter Tryd.func7, Tryd.ntmps7
  go_wp2_with fail
  refine hd.out.mono ?_
  rintro e w1 ⟨rfl, hb⟩
  have HB := Lib.hid hb
  clear hb
  go_wp2
  go_ret2
  exact ⟨rfl, HB.out⟩

set_option maxHeartbeats 2000000 in
theorem readDecimal_law (s : ByteArray) (w : World) (_hs : s.size ≤ maxLen) (ht : Tab w) :
    Calls Tryd.prog 4 #[.string s] w fun e w' => e = .returned (.bool true) ∧ Below w.heap.size w w' := by
  by_cases hlong : 1048576 < s.size
  · clear ht
    have hx := decide_eq_true (show (1048576 : Int) < (s.size : Int) by omega)
    go_enter Tryd.func4, Tryd.ntmps4
    go_wp2
    go_ret
    exact ⟨rfl, Below.refl _ _⟩
  have hsp := Lib.hid (specReadD_any s w (by omega))
  have him := Lib.hid (fun w1 (hb : Below w.heap.size w w1) => implReadD_any s w1 (by omega) (ht.below hb))
  clear ht
  obtain ⟨N, hN⟩ : ∃ N, N = rdN s := ⟨_, rfl⟩
  obtain ⟨B, hB⟩ : ∃ B, B = rdB s := ⟨_, rfl⟩
  rw [← hN, ← hB] at hsp him
  clear hN hB
  go_enter Tryd.func4, Tryd.ntmps4
  go_wp2_with fail
  refine hsp.out.mono ?_
  rintro e w1 ⟨rfl, hb⟩
  have HB1 := Lib.hid hb
  clear hb
  go_wp2_with fail
  refine (him.out _ HB1.out).mono ?_
  rintro e w2 ⟨rfl, hb2⟩
  have HB := Lib.hid (below_step HB1.out hb2 HB1.out.size)
  clear hb2 HB1
  cases B
  · go_wp2
    go_ret
    exact ⟨rfl, HB.out⟩
  · go_wp2
    go_ret
    exact ⟨rfl, HB.out⟩
end Go.Proofs.YtengmacnaifbjaaDoor
