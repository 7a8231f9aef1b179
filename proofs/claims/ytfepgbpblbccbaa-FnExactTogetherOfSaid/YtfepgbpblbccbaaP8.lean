/-
  Contracts of the functions on patterns of two jugglers (chapter 6), eighth part: together. No condition beyond each contract's own.
-/
import Derived.Test.YtfepgbpblbccbaaP2
import Derived.Test.YtfepgbpblbccbaaL02b
import Derived.Deep.RegionHeld3
import Derived.Deep.AppendLies
namespace Go.Proofs.Ytfepgbpblbccbaa
open Go.ChangeShapes Go.WideShapes Go.ChangeAt Go.RowKit


/-- 'append(out, t)' of one throw onto a slice of the call's own, behind the new block that holds t. -/
theorem push_pass {ops : Array Oper} {rest : List Oper} {o : Oper} {a : Act} {Q : Exit → Act → World → Prop} {w : World} {lo n : Nat} {v : Value} {T : List Th} {x : Th}
    (hgd : o.guard = none) (s xo : Operand) (ho : o.op = .call { callee := .builtin .append, args := #[s, xo], argTypes := #[27, 27] })
    (hs : a.eval s = v) (H : Nat) (hx : a.eval xo = .slice (some ⟨H, 0, none⟩) 1 1) (hH : H = w.heap.size) (hown : w.ownsRow lo 63 2 v n (cT T)) (hlo : lo ≤ w.heap.size) (hl : n ≤ 1000000000)
    (h : ∀ v' w', w'.ownsRow lo 63 2 v' (n + 1) (cT (T ++ [x])) → Below lo w w' → wpList Try.prog ops Q rest (a.put o.dst v') w') :
    wpList Try.prog ops Q (o :: rest) a (w.alloc (.cells #[.int .i64 x.1, .bool x.2] 63)) := by
  obtain ⟨i0, hi, hz0, hz1, hz2⟩ := info_parts Try.infoPass
  subst hH
  refine wpList_append_own _ hgd s xo 27 ho lo 63 i0 _ 2 16 Try.underlying27 hi hz0 hz1 hz2 rfl (by decide) v n _ hs (hown.alloc _) ⟨w.heap.size, 0, none⟩ 1 1 (cT [x]) hx rfl (World.news_of_block (heap_alloc_new w _)) (cT_one _) (by unfold maxLen; omega) (by omega) (by simp; omega) ?_
  intro v' w' hown' hg _
  rw [← cT_append] at hown'
  refine h v' w' hown' ?_
  exact ((Below.refl _ _).alloc hlo _).grown hg (by simp; omega) (fun k hk => by have := (hown.lt k hk).1; omega)
theorem pass_made (w : World) : (w.alloc (.cells #[] 63)).ownsRow w.heap.size 63 2 (.slice (some ⟨w.heap.size, 0, none⟩) 0 0) 0 (cT []) :=
  World.ownsRow_made w #[] 0 (Nat.le_refl _) (by decide) (by simp)
theorem below_pass (w : World) : Below w.heap.size w (w.alloc (.cells #[] 63)) := (Below.refl _ _).alloc (Nat.le_refl _) _

/-- The throws of a juggler alone. -/
def slP (p : List Int) : Nat → List Th
  | 0 => []
  | k + 1 => slP p k ++ [(gi p k, false)]
theorem slP_length (p : List Int) : ∀ k, (slP p k).length = k
  | 0 => rfl
  | k + 1 => by simp [slP, slP_length p k]
def toOk (p q : List Int) : Bool := validB p && validB q && decide (p.length = q.length) && decide (p.length ≤ 8)
def toC (p q : List Int) : Int := if validB p && validB q then (if p.length = q.length then (if p.length ≤ 8 then 0 else 5) else 6) else 1
def toA (p q : List Int) : List Th := if toOk p q then slP p p.length else []
def toB (p q : List Int) : List Th := if toOk p q then slP q q.length else []

set_option maxHeartbeats 2000000 in
theorem l06Self_any (v : Value) (p : List Int) (w : World) (hp : Rd w v p) (h12 : p.length ≤ 12) :
    Calls Try.prog 56 #[v] w fun e w' => ∃ u, e = .returned u ∧ OwnT 63 1 w' w.heap.size w'.heap.size u p.length (slP p p.length) ∧ Below w.heap.size w w' := by
  obtain ⟨la, a, ca, rfl, ha⟩ := hp
  go_enter Try.func56, Try.ntmps56
  go_wp2
  go_loopw [3, 4] (fun o i wr => ∃ k : Nat, k ≤ p.length ∧ i = .int .i64 k ∧ wr.ownsRow w.heap.size 63 2 o k (cT (slP p k)) ∧ Below w.heap.size w wr) (fun _ i _ => p.length - (intOf i).toNat)
  case atStart => exact ⟨0, Nat.zero_le _, rfl, pass_made w, below_pass w⟩
  case round =>
    obtain ⟨k, hk, rfl, hown, hB⟩ := hrel
    by_cases hlt : k < p.length
    · obtain ⟨ba, oa, rfl, hba, hca⟩ := ha (by omega)
      have p1 := (hB.cell (p := ⟨ba, oa + k, none⟩) hba).trans (hca k hlt)
      clear hca ha
      have HH := Lib.hid (And.intro hB hown)
      clear hB hown
      go_wp2_with (at_builtin; refine push_pass (x := (gi p k, false)) rfl _ _ rfl rfl wr.heap.size rfl rfl HH.out.2 HH.out.1.size (by omega) ?_; intro v' w' hown' hb')
      go_roundw
      case rel => exact ⟨k + 1, by omega, by go_num, hown', HH.out.1.trans hb'⟩
      case measure => simp [intOf]; omega
    · go_wp2
      go_ret
      obtain rfl : k = p.length := by omega
      exact ⟨_, rfl, ownT_of (by rw [slP_length]; omega) (by omega) hown, hB⟩

set_option maxHeartbeats 2000000 in
theorem selfs_any (v : Value) (p : List Int) (w : World) (hp : Rd w v p) (h12 : p.length ≤ 12) :
    Calls Try.prog 58 #[v] w fun e w' => ∃ u, e = .returned u ∧ OwnT 63 1 w' w.heap.size w'.heap.size u p.length (slP p p.length) ∧ Below w.heap.size w w' := by
  obtain ⟨la, a, ca, rfl, ha⟩ := hp
  go_enter Try.func58, Try.ntmps58
  go_wp2
  go_loopw [3, 9] (fun o i wr => ∃ k : Nat, k ≤ p.length ∧ i = .int .i64 k ∧ wr.ownsRow w.heap.size 63 2 o k (cT (slP p k)) ∧ Below w.heap.size w wr) (fun _ i _ => p.length - (intOf i).toNat)
  case atStart => exact ⟨0, Nat.zero_le _, rfl, pass_made w, below_pass w⟩
  case round =>
    obtain ⟨k, hk, rfl, hown, hB⟩ := hrel
    by_cases hlt : k < p.length
    · obtain ⟨ba, oa, rfl, hba, hca⟩ := ha (by omega)
      have p1 := (hB.cell (p := ⟨ba, oa + k, none⟩) hba).trans (hca k hlt)
      clear hca ha
      have HH := Lib.hid (And.intro hB hown)
      clear hB hown
      go_wp2_with (at_builtin; refine push_pass (x := (gi p k, false)) rfl _ _ rfl rfl wr.heap.size rfl rfl HH.out.2 HH.out.1.size (by omega) ?_; intro v' w' hown' hb')
      go_roundw
      case rel => exact ⟨k + 1, by omega, by go_num, hown', HH.out.1.trans hb'⟩
      case measure => simp [intOf]; omega
    · go_wp2
      go_ret
      obtain rfl : k = p.length := by omega
      exact ⟨_, rfl, ownT_of (by rw [slP_length]; omega) (by omega) hown, hB⟩

set_option maxHeartbeats 4000000 in
theorem specTogether_any (va : Value) (p : List Int) (vb : Value) (q : List Int) (w : World) (hp : Rd w va p) (hq : Rd w vb q) :
    Calls Try.prog 24 #[va, vb] w fun e w' => ∃ a b, e = .returned (.tuple #[.agg #[a, b], .int .i64 (toC p q)]) ∧ OwnP w' w.heap.size w'.heap.size a b (toA p q) (toB p q) ∧ Below w.heap.size w w' := by
  have va1 : Hid (∀ W, Below w.heap.size w W → Calls Try.prog 55 #[va] W fun e w' => e = .returned (.bool (validB p)) ∧ Below W.heap.size W w') := fun W hW => (l02Ok_any _ p W (hp.below hW)).mono (fun e w' ⟨h, n, hn⟩ => ⟨h, by rw [hn]; exact below_dn _ _⟩)
  have va2 : Hid (∀ W, Below w.heap.size w W → Calls Try.prog 55 #[vb] W fun e w' => e = .returned (.bool (validB q)) ∧ Below W.heap.size W w') := fun W hW => (l02Ok_any _ q W (hq.below hW)).mono (fun e w' ⟨h, n, hn⟩ => ⟨h, by rw [hn]; exact below_dn _ _⟩)
  have HP := Lib.hid hp
  have HQ := Lib.hid hq
  obtain ⟨lp, ap, cp, rfl, xp⟩ := hp
  obtain ⟨lq, aq, cq, rfl, xq⟩ := hq
  clear xp xq
  cases hv1 : validB p
  · have HOK : Hid (toOk p q = false) := by show toOk p q = false; rw [toOk, hv1]; rfl
    have HTC : Hid (toC p q = 1) := by show toC p q = 1; rw [toC, hv1]; rfl
    rw [hv1] at va1
    clear hv1
    go_enter Try.func24, Try.ntmps24
    go_wp2_with fail
    generalize hW : World.alloc w _ = wb
    have r0 : wb.cell? ⟨w.heap.size, 0, none⟩ = some (.slice none 0 0) := by rw [← hW]; simp
    have r1 : wb.cell? ⟨w.heap.size, 1, none⟩ = some (.slice none 0 0) := by rw [← hW]; simp
    have z0 : wb.frozen? ⟨w.heap.size, 0, none⟩ = false := by rw [← hW]; simp
    have z1 : wb.frozen? ⟨w.heap.size, 1, none⟩ = false := by rw [← hW]; simp
    have hlt : w.heap.size < wb.heap.size := by rw [← hW]; simp
    have hB : Below w.heap.size w wb := by rw [← hW]; exact box_below _ _
    clear hW
    refine (va1.out _ hB).mono ?_
    rintro e w1 ⟨rfl, hb⟩
    replace r0 := (hb.cell (p := ⟨w.heap.size, 0, none⟩) hlt).trans r0
    replace r1 := (hb.cell (p := ⟨w.heap.size, 1, none⟩) hlt).trans r1
    replace z0 := (hb.frozen (p := ⟨w.heap.size, 0, none⟩) hlt).trans z0
    replace z1 := (hb.frozen (p := ⟨w.heap.size, 1, none⟩) hlt).trans z1
    replace hlt := Nat.lt_of_lt_of_le hlt hb.size
    replace hB := below_step hB hb hB.size
    have hsz_1 := hb.size
    clear hb
    go_wp2
    refine bodyPost_ret (v := .tuple #[.agg #[.slice none 0 0, .slice none 0 0], .int .i64 (toC p q)]) (by simp [results, Try.results24, go_sem, r0, r1]; exact HTC.out.symm) rfl ⟨_, _, rfl, ?_, (hB.setCell (p := ⟨w.heap.size, 0, none⟩) (Nat.le_refl _) _).setCell (p := ⟨w.heap.size, 1, none⟩) (Nat.le_refl _) _⟩
    rw [toA, toB, HOK.out]; exact ownP_nil _ _ _
  rw [hv1] at va1
  cases hv2 : validB q
  · have HOK : Hid (toOk p q = false) := by show toOk p q = false; rw [toOk, hv1, hv2]; rfl
    have HTC : Hid (toC p q = 1) := by show toC p q = 1; rw [toC, hv1, hv2]; rfl
    rw [hv2] at va2
    clear hv1 hv2
    go_enter Try.func24, Try.ntmps24
    go_wp2_with fail
    generalize hW : World.alloc w _ = wb
    have r0 : wb.cell? ⟨w.heap.size, 0, none⟩ = some (.slice none 0 0) := by rw [← hW]; simp
    have r1 : wb.cell? ⟨w.heap.size, 1, none⟩ = some (.slice none 0 0) := by rw [← hW]; simp
    have z0 : wb.frozen? ⟨w.heap.size, 0, none⟩ = false := by rw [← hW]; simp
    have z1 : wb.frozen? ⟨w.heap.size, 1, none⟩ = false := by rw [← hW]; simp
    have hlt : w.heap.size < wb.heap.size := by rw [← hW]; simp
    have hB : Below w.heap.size w wb := by rw [← hW]; exact box_below _ _
    clear hW
    refine (va1.out _ hB).mono ?_
    rintro e w1 ⟨rfl, hb⟩
    replace r0 := (hb.cell (p := ⟨w.heap.size, 0, none⟩) hlt).trans r0
    replace r1 := (hb.cell (p := ⟨w.heap.size, 1, none⟩) hlt).trans r1
    replace z0 := (hb.frozen (p := ⟨w.heap.size, 0, none⟩) hlt).trans z0
    replace z1 := (hb.frozen (p := ⟨w.heap.size, 1, none⟩) hlt).trans z1
    replace hlt := Nat.lt_of_lt_of_le hlt hb.size
    replace hB := below_step hB hb hB.size
    have hsz_1 := hb.size
    clear hb
    go_wp2_with fail
    refine (va2.out _ hB).mono ?_
    rintro e w2 ⟨rfl, hb⟩
    replace r0 := (hb.cell (p := ⟨w.heap.size, 0, none⟩) hlt).trans r0
    replace r1 := (hb.cell (p := ⟨w.heap.size, 1, none⟩) hlt).trans r1
    replace z0 := (hb.frozen (p := ⟨w.heap.size, 0, none⟩) hlt).trans z0
    replace z1 := (hb.frozen (p := ⟨w.heap.size, 1, none⟩) hlt).trans z1
    replace hlt := Nat.lt_of_lt_of_le hlt hb.size
    replace hB := below_step hB hb hB.size
    have hsz_2 := hb.size
    clear hb
    go_wp2
    refine bodyPost_ret (v := .tuple #[.agg #[.slice none 0 0, .slice none 0 0], .int .i64 (toC p q)]) (by simp [results, Try.results24, go_sem, r0, r1]; exact HTC.out.symm) rfl ⟨_, _, rfl, ?_, (hB.setCell (p := ⟨w.heap.size, 0, none⟩) (Nat.le_refl _) _).setCell (p := ⟨w.heap.size, 1, none⟩) (Nat.le_refl _) _⟩
    rw [toA, toB, HOK.out]; exact ownP_nil _ _ _
  rw [hv2] at va2
  obtain ⟨p1, p12, _⟩ := validB_true hv1
  obtain ⟨q1, q12, _⟩ := validB_true hv2
  by_cases hl : p.length = q.length
  rotate_left
  · have HOK : Hid (toOk p q = false) := by show toOk p q = false; rw [toOk, decide_eq_false hl]; simp
    have HTC : Hid (toC p q = 6) := by show toC p q = 6; rw [toC, hv1, hv2, if_neg hl]; rfl
    have hne : ((p.length : Int) == q.length) = false := bF (by omega)
    have hne' : ¬ (p.length : Int) = q.length := by omega
    clear hv1 hv2
    go_enter Try.func24, Try.ntmps24
    go_wp2_with fail
    generalize hW : World.alloc w _ = wb
    have r0 : wb.cell? ⟨w.heap.size, 0, none⟩ = some (.slice none 0 0) := by rw [← hW]; simp
    have r1 : wb.cell? ⟨w.heap.size, 1, none⟩ = some (.slice none 0 0) := by rw [← hW]; simp
    have z0 : wb.frozen? ⟨w.heap.size, 0, none⟩ = false := by rw [← hW]; simp
    have z1 : wb.frozen? ⟨w.heap.size, 1, none⟩ = false := by rw [← hW]; simp
    have hlt : w.heap.size < wb.heap.size := by rw [← hW]; simp
    have hB : Below w.heap.size w wb := by rw [← hW]; exact box_below _ _
    clear hW
    refine (va1.out _ hB).mono ?_
    rintro e w1 ⟨rfl, hb⟩
    replace r0 := (hb.cell (p := ⟨w.heap.size, 0, none⟩) hlt).trans r0
    replace r1 := (hb.cell (p := ⟨w.heap.size, 1, none⟩) hlt).trans r1
    replace z0 := (hb.frozen (p := ⟨w.heap.size, 0, none⟩) hlt).trans z0
    replace z1 := (hb.frozen (p := ⟨w.heap.size, 1, none⟩) hlt).trans z1
    replace hlt := Nat.lt_of_lt_of_le hlt hb.size
    replace hB := below_step hB hb hB.size
    have hsz_1 := hb.size
    clear hb
    go_wp2_with fail
    refine (va2.out _ hB).mono ?_
    rintro e w2 ⟨rfl, hb⟩
    replace r0 := (hb.cell (p := ⟨w.heap.size, 0, none⟩) hlt).trans r0
    replace r1 := (hb.cell (p := ⟨w.heap.size, 1, none⟩) hlt).trans r1
    replace z0 := (hb.frozen (p := ⟨w.heap.size, 0, none⟩) hlt).trans z0
    replace z1 := (hb.frozen (p := ⟨w.heap.size, 1, none⟩) hlt).trans z1
    replace hlt := Nat.lt_of_lt_of_le hlt hb.size
    replace hB := below_step hB hb hB.size
    have hsz_2 := hb.size
    clear hb
    go_wp2
    refine bodyPost_ret (v := .tuple #[.agg #[.slice none 0 0, .slice none 0 0], .int .i64 (toC p q)]) (by simp [results, Try.results24, go_sem, r0, r1]; exact HTC.out.symm) rfl ⟨_, _, rfl, ?_, (hB.setCell (p := ⟨w.heap.size, 0, none⟩) (Nat.le_refl _) _).setCell (p := ⟨w.heap.size, 1, none⟩) (Nat.le_refl _) _⟩
    rw [toA, toB, HOK.out]; exact ownP_nil _ _ _
  have hne : ((p.length : Int) == q.length) = true := bT (by omega)
  by_cases h8 : p.length ≤ 8
  rotate_left
  · have HOK : Hid (toOk p q = false) := by show toOk p q = false; rw [toOk, decide_eq_false h8]; simp
    have HTC : Hid (toC p q = 5) := by show toC p q = 5; rw [toC, hv1, hv2, if_pos hl, if_neg h8]; rfl
    clear hv1 hv2 hl
    go_enter Try.func24, Try.ntmps24
    go_wp2_with fail
    generalize hW : World.alloc w _ = wb
    have r0 : wb.cell? ⟨w.heap.size, 0, none⟩ = some (.slice none 0 0) := by rw [← hW]; simp
    have r1 : wb.cell? ⟨w.heap.size, 1, none⟩ = some (.slice none 0 0) := by rw [← hW]; simp
    have z0 : wb.frozen? ⟨w.heap.size, 0, none⟩ = false := by rw [← hW]; simp
    have z1 : wb.frozen? ⟨w.heap.size, 1, none⟩ = false := by rw [← hW]; simp
    have hlt : w.heap.size < wb.heap.size := by rw [← hW]; simp
    have hB : Below w.heap.size w wb := by rw [← hW]; exact box_below _ _
    clear hW
    refine (va1.out _ hB).mono ?_
    rintro e w1 ⟨rfl, hb⟩
    replace r0 := (hb.cell (p := ⟨w.heap.size, 0, none⟩) hlt).trans r0
    replace r1 := (hb.cell (p := ⟨w.heap.size, 1, none⟩) hlt).trans r1
    replace z0 := (hb.frozen (p := ⟨w.heap.size, 0, none⟩) hlt).trans z0
    replace z1 := (hb.frozen (p := ⟨w.heap.size, 1, none⟩) hlt).trans z1
    replace hlt := Nat.lt_of_lt_of_le hlt hb.size
    replace hB := below_step hB hb hB.size
    have hsz_1 := hb.size
    clear hb
    go_wp2_with fail
    refine (va2.out _ hB).mono ?_
    rintro e w2 ⟨rfl, hb⟩
    replace r0 := (hb.cell (p := ⟨w.heap.size, 0, none⟩) hlt).trans r0
    replace r1 := (hb.cell (p := ⟨w.heap.size, 1, none⟩) hlt).trans r1
    replace z0 := (hb.frozen (p := ⟨w.heap.size, 0, none⟩) hlt).trans z0
    replace z1 := (hb.frozen (p := ⟨w.heap.size, 1, none⟩) hlt).trans z1
    replace hlt := Nat.lt_of_lt_of_le hlt hb.size
    replace hB := below_step hB hb hB.size
    have hsz_2 := hb.size
    clear hb
    go_wp2
    refine bodyPost_ret (v := .tuple #[.agg #[.slice none 0 0, .slice none 0 0], .int .i64 (toC p q)]) (by simp [results, Try.results24, go_sem, r0, r1]; exact HTC.out.symm) rfl ⟨_, _, rfl, ?_, (hB.setCell (p := ⟨w.heap.size, 0, none⟩) (Nat.le_refl _) _).setCell (p := ⟨w.heap.size, 1, none⟩) (Nat.le_refl _) _⟩
    rw [toA, toB, HOK.out]; exact ownP_nil _ _ _
  · have HOK : Hid (toOk p q = true) := by show toOk p q = true; rw [toOk, hv1, hv2, decide_eq_true hl, decide_eq_true h8]; rfl
    have HTC : Hid (toC p q = 0) := by show toC p q = 0; rw [toC, hv1, hv2, if_pos hl, if_pos h8]; rfl
    clear hv1 hv2 hl
    go_enter Try.func24, Try.ntmps24
    go_wp2_with fail
    generalize hW : World.alloc w _ = wb
    have r0 : wb.cell? ⟨w.heap.size, 0, none⟩ = some (.slice none 0 0) := by rw [← hW]; simp
    have r1 : wb.cell? ⟨w.heap.size, 1, none⟩ = some (.slice none 0 0) := by rw [← hW]; simp
    have z0 : wb.frozen? ⟨w.heap.size, 0, none⟩ = false := by rw [← hW]; simp
    have z1 : wb.frozen? ⟨w.heap.size, 1, none⟩ = false := by rw [← hW]; simp
    have hlt : w.heap.size < wb.heap.size := by rw [← hW]; simp
    have hB : Below w.heap.size w wb := by rw [← hW]; exact box_below _ _
    clear hW
    refine (va1.out _ hB).mono ?_
    rintro e w1 ⟨rfl, hb⟩
    replace r0 := (hb.cell (p := ⟨w.heap.size, 0, none⟩) hlt).trans r0
    replace r1 := (hb.cell (p := ⟨w.heap.size, 1, none⟩) hlt).trans r1
    replace z0 := (hb.frozen (p := ⟨w.heap.size, 0, none⟩) hlt).trans z0
    replace z1 := (hb.frozen (p := ⟨w.heap.size, 1, none⟩) hlt).trans z1
    replace hlt := Nat.lt_of_lt_of_le hlt hb.size
    replace hB := below_step hB hb hB.size
    have hsz_1 := hb.size
    clear hb
    go_wp2_with fail
    refine (va2.out _ hB).mono ?_
    rintro e w2 ⟨rfl, hb⟩
    replace r0 := (hb.cell (p := ⟨w.heap.size, 0, none⟩) hlt).trans r0
    replace r1 := (hb.cell (p := ⟨w.heap.size, 1, none⟩) hlt).trans r1
    replace z0 := (hb.frozen (p := ⟨w.heap.size, 0, none⟩) hlt).trans z0
    replace z1 := (hb.frozen (p := ⟨w.heap.size, 1, none⟩) hlt).trans z1
    replace hlt := Nat.lt_of_lt_of_le hlt hb.size
    replace hB := below_step hB hb hB.size
    have hsz_2 := hb.size
    clear hb
    go_wp2_with fail
    have hlt2 := hlt
    refine (l06Self_any _ p _ (HP.out.below hB) p12).mono ?_
    rintro e w3 ⟨u3, rfl, ho3, hb⟩
    replace r0 := (hb.cell (p := ⟨w.heap.size, 0, none⟩) hlt).trans r0
    replace r1 := (hb.cell (p := ⟨w.heap.size, 1, none⟩) hlt).trans r1
    replace z0 := (hb.frozen (p := ⟨w.heap.size, 0, none⟩) hlt).trans z0
    replace z1 := (hb.frozen (p := ⟨w.heap.size, 1, none⟩) hlt).trans z1
    replace hlt := Nat.lt_of_lt_of_le hlt hb.size
    replace hB := below_step hB hb hB.size
    have hsz_3 := hb.size
    clear hb
    obtain ⟨s3, c3, rfl⟩ := ho3.rd.form
    have hsz3 := ho3
    go_wp2_with fail
    have HO3 := Lib.hid ho3
    clear ho3 hsz3
    refine (l06Self_any _ q _ (HQ.out.below hB) q12).mono ?_
    rintro e w4 ⟨u4, rfl, ho4, hb⟩
    obtain ⟨s4, c4, rfl⟩ := ho4.rd.form
    have HO4 := Lib.hid (And.intro (HO3.out.below hb) ho4)
    have hsz4 := hb.size
    have hlt3 := hlt
    replace r0 := (hb.cell (p := ⟨w.heap.size, 0, none⟩) hlt).trans r0
    replace r1 := (hb.cell (p := ⟨w.heap.size, 1, none⟩) hlt).trans r1
    replace z0 := (hb.frozen (p := ⟨w.heap.size, 0, none⟩) hlt).trans z0
    replace z1 := (hb.frozen (p := ⟨w.heap.size, 1, none⟩) hlt).trans z1
    replace hB := below_step hB hb hB.size
    clear ho4 hb
    go_wp2
    refine bodyPost_ret (v := .tuple #[.agg #[.slice s3 p.length c3, .slice s4 q.length c4], .int .i64 (toC p q)]) (by simp [results, Try.results24, go_sem, r0, r1]; exact HTC.out.symm) rfl ⟨_, _, rfl, ?_, (hB.setCell (p := ⟨w.heap.size, 0, none⟩) (Nat.le_refl _) _).setCell (p := ⟨w.heap.size, 1, none⟩) (Nat.le_refl _) _⟩
    rw [toA, toB, HOK.out, if_pos rfl, if_pos rfl]
    have hF : Chg w4 ((w4.setCell ⟨w.heap.size, 0, none⟩ (.slice s3 p.length c3)).setCell ⟨w.heap.size, 1, none⟩ (.slice s4 q.length c4)) w.heap.size (w.heap.size + 1) := ((Chg.refl _ _ _).setCell _ _ (Nat.le_refl _) (Nat.lt_succ_self _)).setCell _ _ (Nat.le_refl _) (Nat.lt_succ_self _)
    have hsz2 : w2.heap.size ≤ w3.heap.size := hsz_3
    have o3 := (HO4.out.1.mono (lo' := w.heap.size + 1) (by omega) (Nat.le_refl _)).kept hF (.inr (Nat.le_refl _))
    have o4 := HO4.out.2.kept hF (.inr (by omega))
    have o5 : OwnP _ (w.heap.size + 1) w4.heap.size (.slice s3 p.length c3) (.slice s4 q.length c4) (slP p p.length) (slP q q.length) := ownP_of (by rw [slP_length]; exact o3) (by rw [slP_length]; exact o4) (by omega) hsz4
    exact o5.mono (by omega) (by simp)

set_option maxHeartbeats 4000000 in
theorem implTogether_any (va : Value) (p : List Int) (vb : Value) (q : List Int) (w : World) (hp : Rd w va p) (hq : Rd w vb q) :
    Calls Try.prog 26 #[va, vb] w fun e w' => ∃ a b, e = .returned (.tuple #[.agg #[a, b], .int .i64 (toC p q)]) ∧ OwnP w' w.heap.size w'.heap.size a b (toA p q) (toB p q) ∧ Below w.heap.size w w' := by
  have va1 : Hid (∀ W, Below w.heap.size w W → Calls Try.prog 57 #[va] W fun e w' => e = .returned (.bool (validB p)) ∧ Below W.heap.size W w') := fun W hW => implValid_any _ p W (hp.below hW)
  have va2 : Hid (∀ W, Below w.heap.size w W → Calls Try.prog 57 #[vb] W fun e w' => e = .returned (.bool (validB q)) ∧ Below W.heap.size W w') := fun W hW => implValid_any _ q W (hq.below hW)
  have HP := Lib.hid hp
  have HQ := Lib.hid hq
  obtain ⟨lp, ap, cp, rfl, xp⟩ := hp
  obtain ⟨lq, aq, cq, rfl, xq⟩ := hq
  clear xp xq
  cases hv1 : validB p
  · have HOK : Hid (toOk p q = false) := by show toOk p q = false; rw [toOk, hv1]; rfl
    have HTC : Hid (toC p q = 1) := by show toC p q = 1; rw [toC, hv1]; rfl
    rw [hv1] at va1
    clear hv1
    go_enter Try.func26, Try.ntmps26
    go_wp2_with fail
    generalize hW : World.alloc w _ = wb
    have r0 : wb.cell? ⟨w.heap.size, 0, none⟩ = some (.slice none 0 0) := by rw [← hW]; simp
    have r1 : wb.cell? ⟨w.heap.size, 1, none⟩ = some (.slice none 0 0) := by rw [← hW]; simp
    have z0 : wb.frozen? ⟨w.heap.size, 0, none⟩ = false := by rw [← hW]; simp
    have z1 : wb.frozen? ⟨w.heap.size, 1, none⟩ = false := by rw [← hW]; simp
    have hlt : w.heap.size < wb.heap.size := by rw [← hW]; simp
    have hB : Below w.heap.size w wb := by rw [← hW]; exact box_below _ _
    clear hW
    refine (va1.out _ hB).mono ?_
    rintro e w1 ⟨rfl, hb⟩
    replace r0 := (hb.cell (p := ⟨w.heap.size, 0, none⟩) hlt).trans r0
    replace r1 := (hb.cell (p := ⟨w.heap.size, 1, none⟩) hlt).trans r1
    replace z0 := (hb.frozen (p := ⟨w.heap.size, 0, none⟩) hlt).trans z0
    replace z1 := (hb.frozen (p := ⟨w.heap.size, 1, none⟩) hlt).trans z1
    replace hlt := Nat.lt_of_lt_of_le hlt hb.size
    replace hB := below_step hB hb hB.size
    have hsz_1 := hb.size
    clear hb
    go_wp2
    refine bodyPost_ret (v := .tuple #[.agg #[.slice none 0 0, .slice none 0 0], .int .i64 (toC p q)]) (by simp [results, Try.results26, go_sem, r0, r1]; exact HTC.out.symm) rfl ⟨_, _, rfl, ?_, (hB.setCell (p := ⟨w.heap.size, 0, none⟩) (Nat.le_refl _) _).setCell (p := ⟨w.heap.size, 1, none⟩) (Nat.le_refl _) _⟩
    rw [toA, toB, HOK.out]; exact ownP_nil _ _ _
  rw [hv1] at va1
  cases hv2 : validB q
  · have HOK : Hid (toOk p q = false) := by show toOk p q = false; rw [toOk, hv1, hv2]; rfl
    have HTC : Hid (toC p q = 1) := by show toC p q = 1; rw [toC, hv1, hv2]; rfl
    rw [hv2] at va2
    clear hv1 hv2
    go_enter Try.func26, Try.ntmps26
    go_wp2_with fail
    generalize hW : World.alloc w _ = wb
    have r0 : wb.cell? ⟨w.heap.size, 0, none⟩ = some (.slice none 0 0) := by rw [← hW]; simp
    have r1 : wb.cell? ⟨w.heap.size, 1, none⟩ = some (.slice none 0 0) := by rw [← hW]; simp
    have z0 : wb.frozen? ⟨w.heap.size, 0, none⟩ = false := by rw [← hW]; simp
    have z1 : wb.frozen? ⟨w.heap.size, 1, none⟩ = false := by rw [← hW]; simp
    have hlt : w.heap.size < wb.heap.size := by rw [← hW]; simp
    have hB : Below w.heap.size w wb := by rw [← hW]; exact box_below _ _
    clear hW
    refine (va1.out _ hB).mono ?_
    rintro e w1 ⟨rfl, hb⟩
    replace r0 := (hb.cell (p := ⟨w.heap.size, 0, none⟩) hlt).trans r0
    replace r1 := (hb.cell (p := ⟨w.heap.size, 1, none⟩) hlt).trans r1
    replace z0 := (hb.frozen (p := ⟨w.heap.size, 0, none⟩) hlt).trans z0
    replace z1 := (hb.frozen (p := ⟨w.heap.size, 1, none⟩) hlt).trans z1
    replace hlt := Nat.lt_of_lt_of_le hlt hb.size
    replace hB := below_step hB hb hB.size
    have hsz_1 := hb.size
    clear hb
    go_wp2_with fail
    refine (va2.out _ hB).mono ?_
    rintro e w2 ⟨rfl, hb⟩
    replace r0 := (hb.cell (p := ⟨w.heap.size, 0, none⟩) hlt).trans r0
    replace r1 := (hb.cell (p := ⟨w.heap.size, 1, none⟩) hlt).trans r1
    replace z0 := (hb.frozen (p := ⟨w.heap.size, 0, none⟩) hlt).trans z0
    replace z1 := (hb.frozen (p := ⟨w.heap.size, 1, none⟩) hlt).trans z1
    replace hlt := Nat.lt_of_lt_of_le hlt hb.size
    replace hB := below_step hB hb hB.size
    have hsz_2 := hb.size
    clear hb
    go_wp2
    refine bodyPost_ret (v := .tuple #[.agg #[.slice none 0 0, .slice none 0 0], .int .i64 (toC p q)]) (by simp [results, Try.results26, go_sem, r0, r1]; exact HTC.out.symm) rfl ⟨_, _, rfl, ?_, (hB.setCell (p := ⟨w.heap.size, 0, none⟩) (Nat.le_refl _) _).setCell (p := ⟨w.heap.size, 1, none⟩) (Nat.le_refl _) _⟩
    rw [toA, toB, HOK.out]; exact ownP_nil _ _ _
  rw [hv2] at va2
  obtain ⟨p1, p12, _⟩ := validB_true hv1
  obtain ⟨q1, q12, _⟩ := validB_true hv2
  by_cases hl : p.length = q.length
  rotate_left
  · have HOK : Hid (toOk p q = false) := by show toOk p q = false; rw [toOk, decide_eq_false hl]; simp
    have HTC : Hid (toC p q = 6) := by show toC p q = 6; rw [toC, hv1, hv2, if_neg hl]; rfl
    have hne : ((p.length : Int) == q.length) = false := bF (by omega)
    have hne' : ¬ (p.length : Int) = q.length := by omega
    clear hv1 hv2
    go_enter Try.func26, Try.ntmps26
    go_wp2_with fail
    generalize hW : World.alloc w _ = wb
    have r0 : wb.cell? ⟨w.heap.size, 0, none⟩ = some (.slice none 0 0) := by rw [← hW]; simp
    have r1 : wb.cell? ⟨w.heap.size, 1, none⟩ = some (.slice none 0 0) := by rw [← hW]; simp
    have z0 : wb.frozen? ⟨w.heap.size, 0, none⟩ = false := by rw [← hW]; simp
    have z1 : wb.frozen? ⟨w.heap.size, 1, none⟩ = false := by rw [← hW]; simp
    have hlt : w.heap.size < wb.heap.size := by rw [← hW]; simp
    have hB : Below w.heap.size w wb := by rw [← hW]; exact box_below _ _
    clear hW
    refine (va1.out _ hB).mono ?_
    rintro e w1 ⟨rfl, hb⟩
    replace r0 := (hb.cell (p := ⟨w.heap.size, 0, none⟩) hlt).trans r0
    replace r1 := (hb.cell (p := ⟨w.heap.size, 1, none⟩) hlt).trans r1
    replace z0 := (hb.frozen (p := ⟨w.heap.size, 0, none⟩) hlt).trans z0
    replace z1 := (hb.frozen (p := ⟨w.heap.size, 1, none⟩) hlt).trans z1
    replace hlt := Nat.lt_of_lt_of_le hlt hb.size
    replace hB := below_step hB hb hB.size
    have hsz_1 := hb.size
    clear hb
    go_wp2_with fail
    refine (va2.out _ hB).mono ?_
    rintro e w2 ⟨rfl, hb⟩
    replace r0 := (hb.cell (p := ⟨w.heap.size, 0, none⟩) hlt).trans r0
    replace r1 := (hb.cell (p := ⟨w.heap.size, 1, none⟩) hlt).trans r1
    replace z0 := (hb.frozen (p := ⟨w.heap.size, 0, none⟩) hlt).trans z0
    replace z1 := (hb.frozen (p := ⟨w.heap.size, 1, none⟩) hlt).trans z1
    replace hlt := Nat.lt_of_lt_of_le hlt hb.size
    replace hB := below_step hB hb hB.size
    have hsz_2 := hb.size
    clear hb
    go_wp2
    refine bodyPost_ret (v := .tuple #[.agg #[.slice none 0 0, .slice none 0 0], .int .i64 (toC p q)]) (by simp [results, Try.results26, go_sem, r0, r1]; exact HTC.out.symm) rfl ⟨_, _, rfl, ?_, (hB.setCell (p := ⟨w.heap.size, 0, none⟩) (Nat.le_refl _) _).setCell (p := ⟨w.heap.size, 1, none⟩) (Nat.le_refl _) _⟩
    rw [toA, toB, HOK.out]; exact ownP_nil _ _ _
  have hne : ((p.length : Int) == q.length) = true := bT (by omega)
  by_cases h8 : p.length ≤ 8
  rotate_left
  · have HOK : Hid (toOk p q = false) := by show toOk p q = false; rw [toOk, decide_eq_false h8]; simp
    have HTC : Hid (toC p q = 5) := by show toC p q = 5; rw [toC, hv1, hv2, if_pos hl, if_neg h8]; rfl
    clear hv1 hv2 hl
    go_enter Try.func26, Try.ntmps26
    go_wp2_with fail
    generalize hW : World.alloc w _ = wb
    have r0 : wb.cell? ⟨w.heap.size, 0, none⟩ = some (.slice none 0 0) := by rw [← hW]; simp
    have r1 : wb.cell? ⟨w.heap.size, 1, none⟩ = some (.slice none 0 0) := by rw [← hW]; simp
    have z0 : wb.frozen? ⟨w.heap.size, 0, none⟩ = false := by rw [← hW]; simp
    have z1 : wb.frozen? ⟨w.heap.size, 1, none⟩ = false := by rw [← hW]; simp
    have hlt : w.heap.size < wb.heap.size := by rw [← hW]; simp
    have hB : Below w.heap.size w wb := by rw [← hW]; exact box_below _ _
    clear hW
    refine (va1.out _ hB).mono ?_
    rintro e w1 ⟨rfl, hb⟩
    replace r0 := (hb.cell (p := ⟨w.heap.size, 0, none⟩) hlt).trans r0
    replace r1 := (hb.cell (p := ⟨w.heap.size, 1, none⟩) hlt).trans r1
    replace z0 := (hb.frozen (p := ⟨w.heap.size, 0, none⟩) hlt).trans z0
    replace z1 := (hb.frozen (p := ⟨w.heap.size, 1, none⟩) hlt).trans z1
    replace hlt := Nat.lt_of_lt_of_le hlt hb.size
    replace hB := below_step hB hb hB.size
    have hsz_1 := hb.size
    clear hb
    go_wp2_with fail
    refine (va2.out _ hB).mono ?_
    rintro e w2 ⟨rfl, hb⟩
    replace r0 := (hb.cell (p := ⟨w.heap.size, 0, none⟩) hlt).trans r0
    replace r1 := (hb.cell (p := ⟨w.heap.size, 1, none⟩) hlt).trans r1
    replace z0 := (hb.frozen (p := ⟨w.heap.size, 0, none⟩) hlt).trans z0
    replace z1 := (hb.frozen (p := ⟨w.heap.size, 1, none⟩) hlt).trans z1
    replace hlt := Nat.lt_of_lt_of_le hlt hb.size
    replace hB := below_step hB hb hB.size
    have hsz_2 := hb.size
    clear hb
    go_wp2
    refine bodyPost_ret (v := .tuple #[.agg #[.slice none 0 0, .slice none 0 0], .int .i64 (toC p q)]) (by simp [results, Try.results26, go_sem, r0, r1]; exact HTC.out.symm) rfl ⟨_, _, rfl, ?_, (hB.setCell (p := ⟨w.heap.size, 0, none⟩) (Nat.le_refl _) _).setCell (p := ⟨w.heap.size, 1, none⟩) (Nat.le_refl _) _⟩
    rw [toA, toB, HOK.out]; exact ownP_nil _ _ _
  · have HOK : Hid (toOk p q = true) := by show toOk p q = true; rw [toOk, hv1, hv2, decide_eq_true hl, decide_eq_true h8]; rfl
    have HTC : Hid (toC p q = 0) := by show toC p q = 0; rw [toC, hv1, hv2, if_pos hl, if_pos h8]; rfl
    clear hv1 hv2 hl
    go_enter Try.func26, Try.ntmps26
    go_wp2_with fail
    generalize hW : World.alloc w _ = wb
    have r0 : wb.cell? ⟨w.heap.size, 0, none⟩ = some (.slice none 0 0) := by rw [← hW]; simp
    have r1 : wb.cell? ⟨w.heap.size, 1, none⟩ = some (.slice none 0 0) := by rw [← hW]; simp
    have z0 : wb.frozen? ⟨w.heap.size, 0, none⟩ = false := by rw [← hW]; simp
    have z1 : wb.frozen? ⟨w.heap.size, 1, none⟩ = false := by rw [← hW]; simp
    have hlt : w.heap.size < wb.heap.size := by rw [← hW]; simp
    have hB : Below w.heap.size w wb := by rw [← hW]; exact box_below _ _
    clear hW
    refine (va1.out _ hB).mono ?_
    rintro e w1 ⟨rfl, hb⟩
    replace r0 := (hb.cell (p := ⟨w.heap.size, 0, none⟩) hlt).trans r0
    replace r1 := (hb.cell (p := ⟨w.heap.size, 1, none⟩) hlt).trans r1
    replace z0 := (hb.frozen (p := ⟨w.heap.size, 0, none⟩) hlt).trans z0
    replace z1 := (hb.frozen (p := ⟨w.heap.size, 1, none⟩) hlt).trans z1
    replace hlt := Nat.lt_of_lt_of_le hlt hb.size
    replace hB := below_step hB hb hB.size
    have hsz_1 := hb.size
    clear hb
    go_wp2_with fail
    refine (va2.out _ hB).mono ?_
    rintro e w2 ⟨rfl, hb⟩
    replace r0 := (hb.cell (p := ⟨w.heap.size, 0, none⟩) hlt).trans r0
    replace r1 := (hb.cell (p := ⟨w.heap.size, 1, none⟩) hlt).trans r1
    replace z0 := (hb.frozen (p := ⟨w.heap.size, 0, none⟩) hlt).trans z0
    replace z1 := (hb.frozen (p := ⟨w.heap.size, 1, none⟩) hlt).trans z1
    replace hlt := Nat.lt_of_lt_of_le hlt hb.size
    replace hB := below_step hB hb hB.size
    have hsz_2 := hb.size
    clear hb
    go_wp2_with fail
    have hlt2 := hlt
    refine (selfs_any _ p _ (HP.out.below hB) p12).mono ?_
    rintro e w3 ⟨u3, rfl, ho3, hb⟩
    replace r0 := (hb.cell (p := ⟨w.heap.size, 0, none⟩) hlt).trans r0
    replace r1 := (hb.cell (p := ⟨w.heap.size, 1, none⟩) hlt).trans r1
    replace z0 := (hb.frozen (p := ⟨w.heap.size, 0, none⟩) hlt).trans z0
    replace z1 := (hb.frozen (p := ⟨w.heap.size, 1, none⟩) hlt).trans z1
    replace hlt := Nat.lt_of_lt_of_le hlt hb.size
    replace hB := below_step hB hb hB.size
    have hsz_3 := hb.size
    clear hb
    obtain ⟨s3, c3, rfl⟩ := ho3.rd.form
    have hsz3 := ho3
    go_wp2_with fail
    have HO3 := Lib.hid ho3
    clear ho3 hsz3
    refine (selfs_any _ q _ (HQ.out.below hB) q12).mono ?_
    rintro e w4 ⟨u4, rfl, ho4, hb⟩
    obtain ⟨s4, c4, rfl⟩ := ho4.rd.form
    have HO4 := Lib.hid (And.intro (HO3.out.below hb) ho4)
    have hsz4 := hb.size
    have hlt3 := hlt
    replace r0 := (hb.cell (p := ⟨w.heap.size, 0, none⟩) hlt).trans r0
    replace r1 := (hb.cell (p := ⟨w.heap.size, 1, none⟩) hlt).trans r1
    replace z0 := (hb.frozen (p := ⟨w.heap.size, 0, none⟩) hlt).trans z0
    replace z1 := (hb.frozen (p := ⟨w.heap.size, 1, none⟩) hlt).trans z1
    replace hB := below_step hB hb hB.size
    clear ho4 hb
    go_wp2
    refine bodyPost_ret (v := .tuple #[.agg #[.slice s3 p.length c3, .slice s4 q.length c4], .int .i64 (toC p q)]) (by simp [results, Try.results26, go_sem, r0, r1]; exact HTC.out.symm) rfl ⟨_, _, rfl, ?_, (hB.setCell (p := ⟨w.heap.size, 0, none⟩) (Nat.le_refl _) _).setCell (p := ⟨w.heap.size, 1, none⟩) (Nat.le_refl _) _⟩
    rw [toA, toB, HOK.out, if_pos rfl, if_pos rfl]
    have hF : Chg w4 ((w4.setCell ⟨w.heap.size, 0, none⟩ (.slice s3 p.length c3)).setCell ⟨w.heap.size, 1, none⟩ (.slice s4 q.length c4)) w.heap.size (w.heap.size + 1) := ((Chg.refl _ _ _).setCell _ _ (Nat.le_refl _) (Nat.lt_succ_self _)).setCell _ _ (Nat.le_refl _) (Nat.lt_succ_self _)
    have hsz2 : w2.heap.size ≤ w3.heap.size := hsz_3
    have o3 := (HO4.out.1.mono (lo' := w.heap.size + 1) (by omega) (Nat.le_refl _)).kept hF (.inr (Nat.le_refl _))
    have o4 := HO4.out.2.kept hF (.inr (by omega))
    have o5 : OwnP _ (w.heap.size + 1) w4.heap.size (.slice s3 p.length c3) (.slice s4 q.length c4) (slP p p.length) (slP q q.length) := ownP_of (by rw [slP_length]; exact o3) (by rw [slP_length]; exact o4) (by omega) hsz4
    exact o5.mono (by omega) (by simp)
end Go.Proofs.Ytfepgbpblbccbaa
