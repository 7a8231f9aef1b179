/-
  Contracts of the functions on patterns of two jugglers (chapter 6), sixth part: the beats of passes, the jugglers apart. No condition beyond each contract's own.
-/
import Derived.Test.YtfepgbpblbccbaaP5
import Derived.Deep.RegionHeld3
namespace Go.Proofs.Ytfepgbpblbccbaa
open Go.ChangeShapes Go.WideShapes Go.ChangeAt Go.RowKit


/-- The beats of passes among the first k; the numbers of the first k throws. -/
def pbL (A : List Th) : Nat → List Int
  | 0 => []
  | k + 1 => if (gt A k).2 then pbL A k ++ [(k : Int)] else pbL A k
theorem pbL_length (A : List Th) : ∀ k, (pbL A k).length ≤ k
  | 0 => by simp [pbL]
  | k + 1 => by
    have := pbL_length A k
    simp only [pbL]
    split
    · simp; omega
    · omega
def vaL (A : List Th) : Nat → List Int
  | 0 => []
  | k + 1 => vaL A k ++ [(gt A k).1]
theorem vaL_length (A : List Th) : ∀ k, (vaL A k).length = k
  | 0 => rfl
  | k + 1 => by simp [vaL, vaL_length A k]
theorem pbL_zero {A : List Th} : ∀ {k : Nat}, ((pbL A k).length = 0 ↔ ∀ j, j < k → (gt A j).2 = false)
  | 0 => by simp [pbL]
  | k + 1 => by
    have ih := pbL_zero (A := A) (k := k)
    simp only [pbL]
    constructor
    · intro h j hj
      cases hx : (gt A k).2 with
      | true => rw [hx] at h; simp at h
      | false =>
        rw [hx] at h
        by_cases hjk : j = k
        · rw [hjk]; exact hx
        · exact ih.1 (by simpa using h) j (by omega)
    · intro h
      rw [h k (by omega)]
      simpa using ih.2 (fun j hj => h j (by omega))
def alL (A : List Th) : List Int := if (∀ j, j < A.length → (gt A j).2 = false) then vaL A A.length else []
def npB (A : List Th) : Bool := decide (∀ j, j < A.length → (gt A j).2 = false)
theorem npB_len (A : List Th) : npB A = decide ((pbL A A.length).length = 0) := by
  rw [npB, decide_eq_decide]
  exact pbL_zero.symm
theorem row_mono {w : World} {b b' size n : Nat} {e : TypeId} {v : Value} {xs : List Value} (h : w.ownsRow b e size v n xs) (hb : b' ≤ b) : w.ownsRow b' e size v n xs :=
  ⟨h.1, h.2.imp id fun ⟨g, cap, cur, h1, h2, h3⟩ => ⟨g, cap, cur, h1, Nat.le_trans hb h2, h3⟩⟩
/-- As push_int, the new block's number told apart. -/
theorem push_int2 {ops : Array Oper} {rest : List Oper} {o : Oper} {a : Act} {Q : Exit → Act → World → Prop} {w : World} {lo : Nat} {v : Value} {zs : List Int} {x : Int}
    (hgd : o.guard = none) (s xo : Operand) (ho : o.op = .call { callee := .builtin .append, args := #[s, xo], argTypes := #[37, 37] })
    (hs : a.eval s = v) (H : Nat) (hx : a.eval xo = .slice (some ⟨H, 0, none⟩) 1 1) (hH : H = w.heap.size) (hown : w.ownsRow lo 2 1 v zs.length (zs.map (Value.int .i64))) (hlo : lo ≤ w.heap.size) (hl : zs.length ≤ 17592186044415)
    (h : ∀ v' w', w'.ownsRow lo 2 1 v' (zs ++ [x]).length ((zs ++ [x]).map (Value.int .i64)) → Below lo w w' → wpList Try.prog ops Q rest (a.put o.dst v') w') :
    wpList Try.prog ops Q (o :: rest) a (w.alloc (.cells #[.int .i64 x] 2)) := by
  subst hH
  exact push_int hgd s xo ho hs hx hown hlo hl h

set_option maxHeartbeats 2000000 in
theorem l06Passes_any (v : Value) (A : List Th) (w : World) (hp : RdT 1 w v A.length A) (h8 : A.length ≤ 8) :
    Calls Try.prog 64 #[v] w fun e w' => ∃ u, e = .returned u ∧ Own w' w.heap.size w'.heap.size u (pbL A A.length) ∧ Below w.heap.size w w' := by
  obtain ⟨x1, la, a, ca, rfl, ha⟩ := hp
  clear x1
  go_enter Try.func64, Try.ntmps64
  go_wp2
  go_loopw [3, 4] (fun o i wr => ∃ k : Nat, k ≤ A.length ∧ i = .int .i64 k ∧ wr.ownsRow w.heap.size 2 1 o (pbL A k).length ((pbL A k).map (Value.int .i64)) ∧ Below w.heap.size w wr) (fun _ i _ => A.length - (intOf i).toNat)
  case atStart => exact ⟨0, Nat.zero_le _, rfl, own_made w, below_made w⟩
  case round =>
    obtain ⟨k, hk, rfl, hown, hB⟩ := hrel
    by_cases hlt : k < A.length
    · obtain ⟨ba, oa, rfl, hba, hca⟩ := ha (by omega)
      obtain ⟨p1, p2⟩ := cellsP hca hlt
      have f := fun o => hB.cell (p := ⟨ba, o, none⟩) hba
      rw [← f] at p1 p2
      clear hca ha f
      have hll := Lib.hid (pbL_length A k)
      have hs := Lib.hid (show pbL A (k + 1) = if (gt A k).2 then pbL A k ++ [(k : Int)] else pbL A k from rfl)
      cases hx : (gt A k).2
      all_goals
        rw [hx] at p2
        have Hx := Lib.hid hx
        clear hx
      · go_wp2
        go_roundw
        case rel => exact ⟨k + 1, by omega, by go_num, by rw [hs.out, Hx.out]; exact hown, hB⟩
        case measure => simp [intOf]; omega
      · go_wp2_with (at_builtin; refine push_int rfl _ _ rfl rfl rfl hown hB.size (by have := hll.out; omega) ?_; intro v' w' hown' hb')
        go_roundw
        case rel => exact ⟨k + 1, by omega, by go_num, by rw [hs.out, Hx.out]; exact hown', hB.trans hb'⟩
        case measure => simp [intOf]; omega
    · go_wp2
      go_ret
      obtain rfl : k = A.length := by omega
      exact ⟨_, rfl, own_of (by have := pbL_length A A.length; omega) hown, hB⟩

set_option maxHeartbeats 2000000 in
theorem passBeats_any (v : Value) (A : List Th) (w : World) (hp : RdT 1 w v A.length A) (h8 : A.length ≤ 8) :
    Calls Try.prog 62 #[v] w fun e w' => ∃ u, e = .returned u ∧ Own w' w.heap.size w'.heap.size u (pbL A A.length) ∧ Below w.heap.size w w' := by
  obtain ⟨x1, la, a, ca, rfl, ha⟩ := hp
  clear x1
  go_enter Try.func62, Try.ntmps62
  go_wp2
  go_loopw [3, 9] (fun o i wr => ∃ k : Nat, k ≤ A.length ∧ i = .int .i64 k ∧ wr.ownsRow w.heap.size 2 1 o (pbL A k).length ((pbL A k).map (Value.int .i64)) ∧ Below w.heap.size w wr) (fun _ i _ => A.length - (intOf i).toNat)
  case atStart => exact ⟨0, Nat.zero_le _, rfl, own_made w, below_made w⟩
  case round =>
    obtain ⟨k, hk, rfl, hown, hB⟩ := hrel
    by_cases hlt : k < A.length
    · obtain ⟨ba, oa, rfl, hba, hca⟩ := ha (by omega)
      obtain ⟨p1, p2⟩ := cellsP hca hlt
      have f := fun o => hB.cell (p := ⟨ba, o, none⟩) hba
      rw [← f] at p1 p2
      clear hca ha f
      have hll := Lib.hid (pbL_length A k)
      have hs := Lib.hid (show pbL A (k + 1) = if (gt A k).2 then pbL A k ++ [(k : Int)] else pbL A k from rfl)
      have HAL := Lib.hid (fun o => And.intro (row_below hown (box_below wr o)) (hB.alloc hB.size o))
      clear hown hB
      cases hx : (gt A k).2
      all_goals
        rw [hx] at p2
        have Hx := Lib.hid hx
        clear hx
      · go_wp2
        go_roundw
        case rel => exact ⟨k + 1, by omega, by go_num, by rw [hs.out, Hx.out]; exact (HAL.out _).1, (HAL.out _).2⟩
        case measure => simp [intOf]; omega
      · go_wp2_with (at_builtin; refine push_int2 rfl _ _ rfl rfl (wr.heap.size + 1) rfl (by simp) (HAL.out _).1 (HAL.out _).2.size (by have := hll.out; omega) ?_; intro v' w' hown' hb')
        go_roundw
        case rel => exact ⟨k + 1, by omega, by go_num, by rw [hs.out, Hx.out]; exact hown', (HAL.out _).2.trans hb'⟩
        case measure => simp [intOf]; omega
    · go_wp2
      go_ret
      obtain rfl : k = A.length := by omega
      exact ⟨_, rfl, own_of (by have := pbL_length A A.length; omega) hown, hB⟩

set_option maxHeartbeats 2000000 in
theorem valuesOf_any (v : Value) (A : List Th) (w : World) (hp : RdT 1 w v A.length A) (h8 : A.length ≤ 8) :
    Calls Try.prog 63 #[v] w fun e w' => ∃ u, e = .returned u ∧ Own w' w.heap.size w'.heap.size u (vaL A A.length) ∧ Below w.heap.size w w' := by
  obtain ⟨x1, la, a, ca, rfl, ha⟩ := hp
  clear x1
  go_enter Try.func63, Try.ntmps63
  go_wp2
  go_loopw [3, 9] (fun o i wr => ∃ k : Nat, k ≤ A.length ∧ i = .int .i64 k ∧ wr.ownsRow w.heap.size 2 1 o (vaL A k).length ((vaL A k).map (Value.int .i64)) ∧ Below w.heap.size w wr) (fun _ i _ => A.length - (intOf i).toNat)
  case atStart => exact ⟨0, Nat.zero_le _, rfl, own_made w, below_made w⟩
  case round =>
    obtain ⟨k, hk, rfl, hown, hB⟩ := hrel
    by_cases hlt : k < A.length
    · obtain ⟨ba, oa, rfl, hba, hca⟩ := ha (by omega)
      obtain ⟨p1, p2⟩ := cellsP hca hlt
      have f := fun o => hB.cell (p := ⟨ba, o, none⟩) hba
      rw [← f] at p1 p2
      clear hca ha f
      have hll := Lib.hid (vaL_length A k)
      have HAL := Lib.hid (fun o => And.intro (row_below hown (box_below wr o)) (hB.alloc hB.size o))
      clear hown hB
      go_wp2_with (at_builtin; refine push_int2 rfl _ _ rfl rfl (wr.heap.size + 1) rfl (by simp) (HAL.out _).1 (HAL.out _).2.size (by have := hll.out; omega) ?_; intro v' w' hown' hb')
      go_roundw
      case rel => exact ⟨k + 1, by omega, by go_num, hown', (HAL.out _).2.trans hb'⟩
      case measure => simp [intOf]; omega
    · go_wp2
      go_ret
      obtain rfl : k = A.length := by omega
      exact ⟨_, rfl, own_of (by have := vaL_length A A.length; omega) hown, hB⟩

set_option maxHeartbeats 2000000 in
theorem l06Alone_any (v : Value) (A : List Th) (w : World) (hp : RdT 1 w v A.length A) (h8 : A.length ≤ 8) :
    Calls Try.prog 61 #[v] w fun e w' => ∃ u, e = .returned (.tuple #[u, .bool (npB A)]) ∧ Own w' w.heap.size w'.heap.size u (alL A) ∧ Below w.heap.size w w' := by
  obtain ⟨x1, la, a, ca, rfl, ha⟩ := hp
  clear x1
  obtain ⟨nb, hnb⟩ : ∃ nb, nb = npB A := ⟨_, rfl⟩
  rw [← hnb]
  have HNB := Lib.hid hnb
  clear hnb
  go_enter Try.func61, Try.ntmps61
  go_wp2
  go_loopw [4, 5] (fun o i wr => ∃ k : Nat, k ≤ A.length ∧ i = .int .i64 k ∧ wr.ownsRow w.heap.size 2 1 o (vaL A k).length ((vaL A k).map (Value.int .i64)) ∧ (∀ j, j < k → (gt A j).2 = false) ∧ Below w.heap.size w wr) (fun _ i _ => A.length - (intOf i).toNat)
  case atStart => exact ⟨0, Nat.zero_le _, rfl, own_made w, fun j hj => absurd hj (Nat.not_lt_zero j), below_made w⟩
  case round =>
    obtain ⟨k, hk, rfl, hown, heq, hB⟩ := hrel
    have Heq := Lib.hid heq
    clear heq
    by_cases hlt : k < A.length
    · obtain ⟨ba, oa, rfl, hba, hca⟩ := ha (by omega)
      obtain ⟨p1, p2⟩ := cellsP hca hlt
      have f := fun o => hB.cell (p := ⟨ba, o, none⟩) hba
      rw [← f] at p1 p2
      clear hca ha f
      have hll := Lib.hid (vaL_length A k)
      cases hx : (gt A k).2
      all_goals
        rw [hx] at p2
        have Hx := Lib.hid hx
        clear hx
      · go_wp2_with (at_builtin; refine push_int rfl _ _ rfl rfl rfl hown hB.size (by have := hll.out; omega) ?_; intro v' w' hown' hb')
        go_roundw
        case rel =>
          refine ⟨k + 1, by omega, by go_num, hown', fun j hj => ?_, hB.trans hb'⟩
          by_cases hjk : j = k
          · rw [hjk]; exact Hx.out
          · exact Heq.out j (by omega)
        case measure => simp [intOf]; omega
      · have hnp : Hid (nb = false) := HNB.out.trans (decide_eq_false (fun h => by have := h k hlt; rw [Hx.out] at this; cases this))
        go_wp2
        go_ret2
        exact ⟨_, ret2 rfl (vbool hnp.out.symm), by rw [alL, if_neg (of_decide_eq_false (HNB.out.symm.trans hnp.out))]; exact own_nil _ _ _, hB⟩
    · obtain rfl : k = A.length := by omega
      have hnp : Hid (nb = true) := HNB.out.trans (decide_eq_true Heq.out)
      go_wp2
      go_ret2
      exact ⟨_, ret2 rfl (vbool hnp.out.symm), by rw [alL, if_pos Heq.out]; exact own_of (zs := vaL A A.length) (by have := vaL_length A A.length; omega) hown, hB⟩

noncomputable def poA (A B : List Th) : List Int := if vpB A B then pbL A A.length else []
noncomputable def poB (A B : List Th) : List Int := if vpB A B then pbL B B.length else []

set_option maxHeartbeats 4000000 in
theorem specPassesOf_any (a b : Value) (A B : List Th) (w : World) (h : RdP w a b A B) :
    Calls Try.prog 34 #[.agg #[a, b]] w fun e w' => ∃ u1 u2 mid, e = .returned (.tuple #[u1, u2, .int .i64 (ppC A B)]) ∧ Own w' w.heap.size mid u1 (poA A B) ∧ Own w' mid w'.heap.size u2 (poB A B) ∧ w.heap.size ≤ mid ∧ mid ≤ w'.heap.size ∧ Below w.heap.size w w' := by
  obtain ⟨⟨s1, c1, rfl⟩, s2, c2, rfl⟩ := h.form
  have hv0 := l06Ok_any _ A B _ (rdQ_box h)
  cases hval : vpB A B
  · rw [hval] at hv0
    have hv := Lib.hid hv0
    clear hv0 h
    go_enter Try.func34, Try.ntmps34
    go_wp2_with fail
    refine hv.out.mono ?_
    rintro e w' ⟨rfl, hb⟩
    have HB := Lib.hid (below_step (box_below _ _) hb (by simp))
    clear hb
    go_wp2
    go_ret3
    refine ⟨_, _, w.heap.size, ret3 rfl rfl (vint (by rw [ppC, hval]; rfl)), ?_, ?_, Nat.le_refl _, HB.out.size, HB.out⟩
    · rw [poA, hval]; exact own_nil _ _ _
    · rw [poB, hval]; exact own_nil _ _ _
  · rw [hval] at hv0
    have hv := Lib.hid hv0
    clear hv0
    obtain ⟨h1, h8, hAB, hbA, hbB⟩ := shB_true (vpB_ok hval)
    have HAB := Lib.hid hAB
    have hB1 : 1 ≤ B.length := by omega
    have hB8 : B.length ≤ 8 := by omega
    clear hAB
    have Hval := Lib.hid hval
    clear hval
    go_enter Try.func34, Try.ntmps34
    go_wp2_with fail
    refine hv.out.mono ?_
    rintro e w1 ⟨rfl, hb⟩
    obtain ⟨hcc, hzz⟩ := bcell hb
    have k0 : w1.cell? ⟨w.heap.size, 0, none⟩ = some (.slice s1 A.length c1) := (hcc _ _ (by simp)).trans (by simp)
    have k1 : w1.cell? ⟨w.heap.size, 1, none⟩ = some (.slice s2 B.length c2) := (hcc _ _ (by simp)).trans (by simp)
    have hB := below_step (box_below _ _) hb (by simp)
    have hlt0 : w.heap.size < w1.heap.size := by have := hb.size; simp at this; omega
    clear hcc hzz hb
    have HR := Lib.hid (And.intro h.1 h.2)
    have HB := Lib.hid hB
    have HLT := Lib.hid hlt0
    clear h hbA hbB hB
    have t1 : Hid (∀ W, Below w.heap.size w W → Calls Try.prog 64 #[.slice s1 A.length c1] W fun e w' => ∃ u, e = .returned u ∧ Own w' W.heap.size w'.heap.size u (pbL A A.length) ∧ Below W.heap.size W w') := fun W hW => l06Passes_any _ A W (HR.out.1.below hW) h8
    have t2 : Hid (∀ W, Below w.heap.size w W → Calls Try.prog 64 #[.slice s2 B.length c2] W fun e w' => ∃ u, e = .returned u ∧ Own w' W.heap.size w'.heap.size u (pbL B B.length) ∧ Below W.heap.size W w') := fun W hW => l06Passes_any _ B W (HR.out.2.below hW) hB8
    have hBd := HB.out.drew
    have hlt0' : w.heap.size < w1.heap.size := hlt0
    go_wp2
    go_region_held3 (fun w' => w'.cell? ⟨w.heap.size, 0, none⟩ = some (.slice s1 A.length c1) ∧ w'.cell? ⟨w.heap.size, 1, none⟩ = some (.slice s2 B.length c2))
      (first
        | go_keep
        | (go_split_ands
           refine ⟨?_, ?_⟩ <;> (rw [hb2.cell (p := ⟨w.heap.size, _, none⟩) hlt0]; assumption))
        | (go_split_ands
           refine ⟨?_, ?_⟩ <;> (rw [hb3.cell (p := ⟨w.heap.size, _, none⟩) hlt2]; assumption)))
      (first
        | (go_at_call_of 64 (Value.slice s1 A.length c1); (with_reducible refine (t1.out _ hBd).mono ?_); rintro e w2 ⟨u1, rfl, ho1, hb2⟩; obtain ⟨_, ga1, gc1, hgv1, _⟩ := ho1.rd; subst hgv1; have hlt2 : w.heap.size < w2.heap.size := Nat.lt_of_lt_of_le hlt0 hb2.size; have hB2 := below_step hBd hb2 hBd.size)
        | (go_at_call_of 64 (Value.slice s2 B.length c2); (with_reducible refine (t2.out _ hB2).mono ?_); rintro e w3 ⟨u2, rfl, ho2, hb3⟩; obtain ⟨_, ga2, gc2, hgv2, _⟩ := ho2.rd; subst hgv2))
    have HF := Lib.hid (And.intro ((ho1.mono (lo' := w.heap.size) (Nat.le_of_lt HLT.out) (Nat.le_refl _)).below hb3) (And.intro ho2 (below_step hB2 hb3 hB2.size)))
    have HS2 := Lib.hid (And.intro hlt2 hb3.size)
    clear ho1 ho2 hb2 hb3 hB2
    go_wp2
    go_ret3
    refine ⟨_, _, w2.heap.size, ret3 rfl rfl (vint (by rw [ppC, Hval.out]; rfl)), ?_, ?_, Nat.le_of_lt HS2.out.1, HS2.out.2, HF.out.2.2⟩
    · rw [poA, Hval.out]; exact HF.out.1
    · rw [poB, Hval.out]; exact HF.out.2.1

set_option maxHeartbeats 4000000 in
theorem implPassesOf_any (a b : Value) (A B : List Th) (w : World) (h : RdP w a b A B) :
    Calls Try.prog 35 #[.agg #[a, b]] w fun e w' => ∃ u1 u2 mid, e = .returned (.tuple #[u1, u2, .int .i64 (ppC A B)]) ∧ Own w' w.heap.size mid u1 (poA A B) ∧ Own w' mid w'.heap.size u2 (poB A B) ∧ w.heap.size ≤ mid ∧ mid ≤ w'.heap.size ∧ Below w.heap.size w w' := by
  obtain ⟨⟨s1, c1, rfl⟩, s2, c2, rfl⟩ := h.form
  have hv0 := implValidP_any _ _ A B (w.alloc (.cells #[.slice s1 A.length c1, .slice s2 B.length c2] 29)) (h.below (box_below _ _))
  cases hval : vpB A B
  · rw [hval] at hv0
    have hv := Lib.hid hv0
    clear hv0 h
    go_enter Try.func35, Try.ntmps35
    go_wp2_with fail
    refine hv.out.mono ?_
    rintro e w' ⟨rfl, hb⟩
    have HB := Lib.hid (below_step (box_below _ _) hb (by simp))
    clear hb
    go_wp2
    go_ret3
    refine ⟨_, _, w.heap.size, ret3 rfl rfl (vint (by rw [ppC, hval]; rfl)), ?_, ?_, Nat.le_refl _, HB.out.size, HB.out⟩
    · rw [poA, hval]; exact own_nil _ _ _
    · rw [poB, hval]; exact own_nil _ _ _
  · rw [hval] at hv0
    have hv := Lib.hid hv0
    clear hv0
    obtain ⟨h1, h8, hAB, hbA, hbB⟩ := shB_true (vpB_ok hval)
    have HAB := Lib.hid hAB
    have hB1 : 1 ≤ B.length := by omega
    have hB8 : B.length ≤ 8 := by omega
    clear hAB
    have Hval := Lib.hid hval
    clear hval
    go_enter Try.func35, Try.ntmps35
    go_wp2_with fail
    refine hv.out.mono ?_
    rintro e w1 ⟨rfl, hb⟩
    obtain ⟨hcc, hzz⟩ := bcell hb
    have k0 : w1.cell? ⟨w.heap.size, 0, none⟩ = some (.slice s1 A.length c1) := (hcc _ _ (by simp)).trans (by simp)
    have k1 : w1.cell? ⟨w.heap.size, 1, none⟩ = some (.slice s2 B.length c2) := (hcc _ _ (by simp)).trans (by simp)
    have hB := below_step (box_below _ _) hb (by simp)
    have hlt0 : w.heap.size < w1.heap.size := by have := hb.size; simp at this; omega
    clear hcc hzz hb
    have HR := Lib.hid (And.intro h.1 h.2)
    have HB := Lib.hid hB
    have HLT := Lib.hid hlt0
    clear h hbA hbB hB
    have t1 : Hid (∀ W, Below w.heap.size w W → Calls Try.prog 62 #[.slice s1 A.length c1] W fun e w' => ∃ u, e = .returned u ∧ Own w' W.heap.size w'.heap.size u (pbL A A.length) ∧ Below W.heap.size W w') := fun W hW => passBeats_any _ A W (HR.out.1.below hW) h8
    have t2 : Hid (∀ W, Below w.heap.size w W → Calls Try.prog 62 #[.slice s2 B.length c2] W fun e w' => ∃ u, e = .returned u ∧ Own w' W.heap.size w'.heap.size u (pbL B B.length) ∧ Below W.heap.size W w') := fun W hW => passBeats_any _ B W (HR.out.2.below hW) hB8
    have hBd := HB.out.drew
    have hlt0' : w.heap.size < w1.heap.size := hlt0
    go_wp2
    go_region_held3 (fun w' => w'.cell? ⟨w.heap.size, 0, none⟩ = some (.slice s1 A.length c1) ∧ w'.cell? ⟨w.heap.size, 1, none⟩ = some (.slice s2 B.length c2))
      (first
        | go_keep
        | (go_split_ands
           refine ⟨?_, ?_⟩ <;> (rw [hb2.cell (p := ⟨w.heap.size, _, none⟩) hlt0]; assumption))
        | (go_split_ands
           refine ⟨?_, ?_⟩ <;> (rw [hb3.cell (p := ⟨w.heap.size, _, none⟩) hlt2]; assumption)))
      (first
        | (go_at_call_of 62 (Value.slice s1 A.length c1); (with_reducible refine (t1.out _ hBd).mono ?_); rintro e w2 ⟨u1, rfl, ho1, hb2⟩; obtain ⟨_, ga1, gc1, hgv1, _⟩ := ho1.rd; subst hgv1; have hlt2 : w.heap.size < w2.heap.size := Nat.lt_of_lt_of_le hlt0 hb2.size; have hB2 := below_step hBd hb2 hBd.size)
        | (go_at_call_of 62 (Value.slice s2 B.length c2); (with_reducible refine (t2.out _ hB2).mono ?_); rintro e w3 ⟨u2, rfl, ho2, hb3⟩; obtain ⟨_, ga2, gc2, hgv2, _⟩ := ho2.rd; subst hgv2))
    have HF := Lib.hid (And.intro ((ho1.mono (lo' := w.heap.size) (Nat.le_of_lt HLT.out) (Nat.le_refl _)).below hb3) (And.intro ho2 (below_step hB2 hb3 hB2.size)))
    have HS2 := Lib.hid (And.intro hlt2 hb3.size)
    clear ho1 ho2 hb2 hb3 hB2
    go_wp2
    go_ret3
    refine ⟨_, _, w2.heap.size, ret3 rfl rfl (vint (by rw [ppC, Hval.out]; rfl)), ?_, ?_, Nat.le_of_lt HS2.out.1, HS2.out.2, HF.out.2.2⟩
    · rw [poA, Hval.out]; exact HF.out.1
    · rw [poB, Hval.out]; exact HF.out.2.1
end Go.Proofs.Ytfepgbpblbccbaa
