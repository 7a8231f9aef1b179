/-
  Contracts of the functions on synchronous patterns (chapter 5), fifth part: slides. No condition beyond each contract's own.
-/
import Derived.Test.YtdbjkgapgjmjoaaY4
namespace Go.Proofs.Ytdbjkgapgjmjoaa
open Go.ChangeShapes Go.WideShapes Go.ChangeAt Go.RowKit


/-- As push_int, the new block's number told apart. -/
theorem push_int2 {ops : Array Oper} {rest : List Oper} {o : Oper} {a : Act} {Q : Exit → Act → World → Prop} {w : World} {lo : Nat} {v : Value} {zs : List Int} {x : Int}
    (hgd : o.guard = none) (s xo : Operand) (ho : o.op = .call { callee := .builtin .append, args := #[s, xo], argTypes := #[38, 38] })
    (hs : a.eval s = v) (H : Nat) (hx : a.eval xo = .slice (some ⟨H, 0, none⟩) 1 1) (hH : H = w.heap.size) (hown : w.ownsRow lo 2 1 v zs.length (zs.map (Value.int .i64))) (hlo : lo ≤ w.heap.size) (hl : zs.length ≤ 17592186044415)
    (h : ∀ v' w', w'.ownsRow lo 2 1 v' (zs ++ [x]).length ((zs ++ [x]).map (Value.int .i64)) → Below lo w w' → wpList Try.prog ops Q rest (a.put o.dst v') w') :
    wpList Try.prog ops Q (o :: rest) a (w.alloc (.cells #[.int .i64 x] 2)) := by
  subst hH
  exact push_int hgd s xo ho hs hx hown hlo hl h

set_option maxHeartbeats 2000000 in
theorem l05Slide_any (v : Value) (n : Nat) (T : List Th) (k : Nat) (w : World) (hp : RdT 2 w v n T) (hk : k < n * 2) (h6 : n ≤ 6) (hb : 0 ≤ (gt T k).1 ∧ (gt T k).1 ≤ 14) :
    Calls Try.prog 58 #[v, .int .i64 k] w fun e w' => e = .returned (.int .i64 (sldV T k)) ∧ Below w.heap.size w w' := by
  have hat := l05At_any v n T k w hp hk h6
  obtain ⟨_, la, a, ca, rfl, hz⟩ := hp
  clear hz
  have m1 := nmod2 k
  cases hx : (gt T k).2 <;> by_cases he : k % 2 = 0
  all_goals
    rw [hx] at hat
    have Hat := Lib.hid hat
    have Hx := Lib.hid hx
    clear hat hx
    go_enter Try.func58, Try.ntmps58
    go_wp2_with fail
    refine Hat.out.mono ?_
    rintro e w1 ⟨rfl, hb1⟩
    go_wp2
    go_ret
    refine ⟨ret_int (by simp [sldV, Hx.out, he]), ?_⟩
    repeat' first | exact hb1 | refine Below.setCell ?_ ?_ _ | refine Below.alloc ?_ ?_ _
    all_goals first | exact hb1.size | (have := hb1.size; simp; omega)

set_option maxHeartbeats 2000000 in
theorem slid_any (v : Value) (n : Nat) (T : List Th) (w : World) (hp : RdT 2 w v n T) (h6 : n ≤ 6) (hth : ∀ k, k < n * 2 → 0 ≤ (gt T k).1 ∧ (gt T k).1 ≤ 14) :
    Calls Try.prog 59 #[v] w fun e w' => ∃ u, e = .returned u ∧ Own w' w.heap.size w'.heap.size u (sldL T (n * 2)) ∧ Below w.heap.size w w' := by
  have hat : Hid (∀ k W, k < n * 2 → Below w.heap.size w W → Calls Try.prog 53 #[v, .int .i64 k] W fun e w' => e = .returned (.agg #[.int .i64 (gt T k).1, .bool (gt T k).2]) ∧ Below W.heap.size W w') :=
    fun k W hk hB => numbered_any v n T k W (hp.below hB) hk h6
  obtain ⟨_, la, a, ca, rfl, hz⟩ := hp
  clear hz
  have Hth := Lib.hid hth
  clear hth
  go_enter Try.func59, Try.ntmps59
  go_wp2
  go_loopw [3, 11] (fun o i wr => ∃ k : Nat, k ≤ n * 2 ∧ i = .int .i64 k ∧ wr.ownsRow w.heap.size 2 1 o (sldL T k).length ((sldL T k).map (Value.int .i64)) ∧ Below w.heap.size w wr) (fun _ i _ => n * 2 - (intOf i).toNat)
  case atStart => exact ⟨0, Nat.zero_le _, rfl, own_made w, below_made w⟩
  case round =>
    obtain ⟨k, hk, rfl, hown, hB⟩ := hrel
    by_cases hlt : k < n * 2
    · have m1 := nmod2 k
      have hb := Hth.out k hlt
      have hll := Lib.hid (sldL_length T k)
      cases hx : (gt T k).2 <;> by_cases he : k % 2 = 0
      all_goals
        have hs : sldV T k = sldV T k := rfl
        have Hs := Lib.hid (show sldV T k = if (gt T k).2 then (if k % 2 = 0 then (gt T k).1 + 1 else (gt T k).1 - 1) else (gt T k).1 from rfl)
        have Hx := Lib.hid (And.intro hx he)
        clear hs
        go_wp2_with fail
        refine (hat.out k _ hlt hB).mono ?_
        rintro e w2 ⟨rfl, hb2⟩
        rw [hx]
        clear hx
        have hr2 := row_below hown hb2
        have hB2 := below_step hB hb2 hB.size
        have hal : ∀ (o : Obj), (w2.alloc o).ownsRow w.heap.size 2 1 u3 (sldL T k).length ((sldL T k).map (Value.int .i64)) ∧ Below w.heap.size w (w2.alloc o) := fun o => ⟨row_below hr2 ((Below.refl _ _).alloc (Nat.le_refl _) _), hB2.alloc hB2.size _⟩
        have HAL := Lib.hid hal
        clear hal hr2 hB2 hown hB hb2
        go_wp2_with (at_builtin; refine push_int2 rfl _ _ rfl rfl (w2.heap.size + 1) rfl (by simp) (HAL.out _).1 (HAL.out _).2.size (by rw [hll.out]; omega) ?_; intro v' w' hown' hb')
        go_roundw
        case rel => exact ⟨k + 1, by omega, by go_num, by rw [sldL_succ, Hs.out]; simp only [Hx.out.1, Hx.out.2]; first | exact hown' | simpa using hown', (HAL.out _).2.trans hb'⟩
        case measure => simp [intOf]; omega
    · go_wp2
      go_ret
      obtain rfl : k = n * 2 := by omega
      exact ⟨_, rfl, own_of (by rw [sldL_length]; omega) hown, hB⟩

set_option maxHeartbeats 2000000 in
theorem specSlideSync_any (v : Value) (n : Nat) (T : List Th) (w : World) (hp : RdT 2 w v n T) :
    Calls Try.prog 35 #[v] w fun e w' => ∃ u, e = .returned (.tuple #[u, .int .i64 (vyC T n)]) ∧ Own w' w.heap.size w'.heap.size u (slL T n) ∧ Below w.heap.size w w' := by
  have hv0 := l05Ok_any v n T w hp
  cases hval : validY T n
  · rw [hval] at hv0
    have hv := Lib.hid hv0
    clear hv0
    go_enter Try.func35, Try.ntmps35
    go_wp2_with fail
    refine hv.out.mono ?_
    rintro e w' ⟨rfl, hb⟩
    go_wp2
    go_ret2
    exact ⟨_, ret2 rfl (vint (by rw [vyC, hval]; rfl)), by rw [slL, hval]; exact own_nil _ _ _, hb⟩
  · rw [hval] at hv0
    have hv := Lib.hid hv0
    clear hv0
    obtain ⟨h1, h6, hth⟩ := validY_true hval
    have Hval := Lib.hid hval
    clear hval
    have hsl : Hid (∀ k W, k < n * 2 → Below w.heap.size w W → Calls Try.prog 58 #[v, .int .i64 k] W fun e w' => e = .returned (.int .i64 (sldV T k)) ∧ Below W.heap.size W w') := fun k W hk hB => l05Slide_any v n T k W (hp.below hB) hk h6 (hth k hk)
    obtain ⟨_, la, a, ca, rfl, hz⟩ := hp
    clear hth hz
    go_enter Try.func35, Try.ntmps35
    go_wp2_with fail
    refine hv.out.mono ?_
    rintro e w1 ⟨rfl, hb⟩
    have hs1 := hb.size
    have HB := Lib.hid hb
    clear hb
    go_wp2
    go_loopw [4, 5] (fun o i wr => ∃ k : Nat, k ≤ n * 2 ∧ i = .int .i64 k ∧ wr.ownsRow w.heap.size 2 1 o (sldL T k).length ((sldL T k).map (Value.int .i64)) ∧ Below w.heap.size w wr) (fun _ i _ => n * 2 - (intOf i).toNat)
    case atStart => exact ⟨0, Nat.zero_le _, rfl, row_mono (own_made w1) hs1, below_step HB.out (below_made w1) HB.out.size⟩
    case round =>
      obtain ⟨k, hk, rfl, hown, hB⟩ := hrel
      by_cases hlt : k < n * 2
      · have hll := Lib.hid (sldL_length T k)
        have hdt : decide ((k : Int) < 2 * (n : Int)) = true := by simp; omega
        go_wp2_with fail
        refine (hsl.out k _ hlt hB).mono ?_
        rintro e w2 ⟨rfl, hb2⟩
        have hr2 := row_below hown hb2
        have hB2 := below_step hB hb2 hB.size
        clear hown hB hb2
        go_wp2_with (at_builtin; refine push_int rfl _ _ rfl rfl rfl hr2 hB2.size (by rw [hll.out]; omega) ?_; intro v' w' hown' hb')
        go_roundw
        case rel => exact ⟨k + 1, by omega, by go_num, by rw [sldL_succ]; exact hown', hB2.trans hb'⟩
        case measure => simp [intOf]; omega
      · go_wp2
        go_ret2
        obtain rfl : k = n * 2 := by omega
        exact ⟨_, ret2 rfl (vint (by rw [vyC, Hval.out]; rfl)), by rw [slL, Hval.out]; exact own_of (zs := sldL T (n * 2)) (by rw [sldL_length]; omega) hown, hB⟩

set_option maxHeartbeats 2000000 in
theorem implSlideSync_any (v : Value) (n : Nat) (T : List Th) (w : World) (hp : RdT 2 w v n T) :
    Calls Try.prog 36 #[v] w fun e w' => ∃ u, e = .returned (.tuple #[u, .int .i64 (vyC T n)]) ∧ Own w' w.heap.size w'.heap.size u (slL T n) ∧ Below w.heap.size w w' := by
  have hv0 := implValidSync_any v n T w hp
  cases hval : validY T n
  · rw [hval] at hv0
    have hv := Lib.hid hv0
    clear hv0
    go_enter Try.func36, Try.ntmps36
    go_wp2_with fail
    refine hv.out.mono ?_
    rintro e w' ⟨rfl, hb⟩
    go_wp2
    go_ret2
    exact ⟨_, ret2 rfl (vint (by rw [vyC, hval]; rfl)), by rw [slL, hval]; exact own_nil _ _ _, hb⟩
  · rw [hval] at hv0
    have hv := Lib.hid hv0
    clear hv0
    obtain ⟨h1, h6, hth⟩ := validY_true hval
    have Hval := Lib.hid hval
    clear hval
    have hm : Hid (∀ W, Below w.heap.size w W → Calls Try.prog 59 #[v] W fun e w' => ∃ u, e = .returned u ∧ Own w' W.heap.size w'.heap.size u (sldL T (n * 2)) ∧ Below W.heap.size W w') := fun W hB => slid_any v n T W (hp.below hB) h6 hth
    clear hth
    go_enter Try.func36, Try.ntmps36
    go_wp2_with fail
    refine hv.out.mono ?_
    rintro e w1 ⟨rfl, hb⟩
    go_wp2_with fail
    refine (hm.out _ hb).mono ?_
    rintro e w2 ⟨u, rfl, hown, hb2⟩
    go_wp2
    go_ret2
    exact ⟨_, ret2 rfl (vint (by rw [vyC, Hval.out]; rfl)), by rw [slL, Hval.out]; exact hown.mono hb.size (Nat.le_refl _), below_step hb hb2 hb.size⟩
end Go.Proofs.Ytdbjkgapgjmjoaa
