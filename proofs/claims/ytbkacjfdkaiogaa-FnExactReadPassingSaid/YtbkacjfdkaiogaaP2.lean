/-
  Contracts of the functions on patterns of two jugglers (chapter 6), second part: throws, shapes, landings. No condition beyond each contract's own.
-/
import Derived.Test.YtbkacjfdkaiogaaPhelp2
import Derived.Test.YtbkacjfdkaiogaaL02
namespace Go.Proofs.Ytbkacjfdkaiogaa
open Go.ChangeShapes Go.WideShapes Go.ChangeAt Go.RowKit


/-- A throw of a juggler. -/
def pth (t : Th) : Bool := btw t.1 0 15 && !(t.1 == 0 && t.2)
def arB (A : List Th) : Bool := decide (∀ k, k < A.length → pth (gt A k) = true)
theorem arB_bad {A : List Th} {k : Nat} (hk : k < A.length) (h : pth (gt A k) = false) : arB A = false := by
  simp only [arB, decide_eq_false_iff_not]
  intro hh
  rw [hh k hk] at h
  cases h
theorem arB_true {A : List Th} (h : arB A = true) : ∀ k, k < A.length → 0 ≤ (gt A k).1 ∧ (gt A k).1 ≤ 15 := by
  simp only [arB, decide_eq_true_eq] at h
  intro k hk
  have := h k hk
  simp only [pth, Bool.and_eq_true] at this
  exact btw_iff.1 this.1
def lpB (A : List Th) : Bool := arB A && btw (A.length : Int) 1 8
/-- Throws of the right kind for both jugglers, equally many. -/
def shB (A B : List Th) : Bool := btw (A.length : Int) 1 8 && decide (A.length = B.length) && arB A && arB B
theorem shB_spec (A B : List Th) : (lpB A && lpB B && decide ((A.length : Int) = B.length)) = shB A B := by
  unfold lpB shB
  by_cases h : A.length = B.length
  · rw [h, decide_eq_true rfl, decide_eq_true rfl]
    cases arB A <;> cases arB B <;> cases btw (B.length : Int) 1 8 <;> rfl
  · rw [decide_eq_false h, decide_eq_false (show ¬ (A.length : Int) = B.length by omega)]
    simp
theorem shB_true {A B : List Th} (h : shB A B = true) : 1 ≤ A.length ∧ A.length ≤ 8 ∧ A.length = B.length ∧ (∀ k, k < A.length → 0 ≤ (gt A k).1 ∧ (gt A k).1 ≤ 15) ∧ ∀ k, k < A.length → 0 ≤ (gt B k).1 ∧ (gt B k).1 ≤ 15 := by
  simp only [shB, Bool.and_eq_true, decide_eq_true_eq] at h
  obtain ⟨⟨⟨h1, h2⟩, h3⟩, h4⟩ := h
  have := btw_iff.1 h1
  refine ⟨by omega, by omega, h2, arB_true h3, ?_⟩
  rw [h2]
  exact arB_true h4

set_option maxHeartbeats 2000000 in
theorem l06List_any (v : Value) (A : List Th) (w : World) (hp : RdT 1 w v A.length A) :
    Calls Try.prog 25 #[v] w fun e w' => e = .returned (.bool (lpB A)) ∧ w = w' := by
  obtain ⟨hx, la, a, ca, rfl, ha⟩ := hp
  clear hx
  go_enter Try.func25, Try.ntmps25
  go_wp2
  go_loop [3] (fun i => ∃ k : Nat, k ≤ A.length ∧ i = .int .i64 k ∧ ∀ j, j < k → pth (gt A j) = true) (fun i => A.length - (intOf i).toNat)
  case atStart => exact ⟨0, Nat.zero_le _, rfl, fun j hj => absurd hj (Nat.not_lt_zero j)⟩
  case round =>
    obtain ⟨k, hk, rfl, heq⟩ := hrel
    have Heq := Lib.hid heq
    clear heq
    by_cases hlt : k < A.length
    · obtain ⟨ba, oa, rfl, hba, hca⟩ := ha (by omega)
      obtain ⟨p1, p2⟩ := cellsP hca hlt
      clear hca ha
      have hpt := Lib.hid (show pth (gt A k) = (btw (gt A k).1 0 15 && !((gt A k).1 == 0 && (gt A k).2)) from rfl)
      cases h1 : btw (gt A k).1 0 15
      · have H1 := Lib.hid (show pth (gt A k) = false by rw [hpt.out, h1]; rfl)
        go_wp2_with (go_at_call 29; refine (l00In_any _ _ _ _).mono ?_; rintro e w' ⟨rfl, rfl⟩)
        go_ret
        exact ⟨ret_bool (by rw [lpB, arB_bad hlt H1.out]; rfl), rfl⟩
      · cases h2 : ((gt A k).1 == 0) <;> cases h3 : (gt A k).2
        all_goals
          rw [h3] at p2
          have H1 := hpt.out
          rw [h1, h2, h3] at H1
          have H2 := Lib.hid H1
          clear H1 h3
          go_wp2_with (go_at_call 29; refine (l00In_any _ _ _ _).mono ?_; rintro e w' ⟨rfl, rfl⟩)
          first
          | (go_round
             case rel =>
               refine ⟨k + 1, by omega, by go_num, fun j hj => ?_⟩
               by_cases hjk : j = k
               · rw [hjk]; exact H2.out
               · exact Heq.out j (by omega)
             case measure => simp [intOf]; omega)
          | (go_ret
             exact ⟨ret_bool (by rw [lpB, arB_bad hlt H2.out]; rfl), rfl⟩)
    · go_wp2_with (go_at_call 29; refine (l00In_any _ _ _ _).mono ?_; rintro e w' ⟨rfl, rfl⟩)
      go_ret
      have har : arB A = true := by
        simp only [arB, decide_eq_true_eq]
        exact fun j hj => Heq.out j (by omega)
      exact ⟨ret_bool (by rw [lpB, har]; rfl), rfl⟩

set_option maxHeartbeats 2000000 in
theorem arePasses_any (v : Value) (A : List Th) (w : World) (hp : RdT 1 w v A.length A) :
    Calls Try.prog 28 #[v] w fun e w' => e = .returned (.bool (arB A)) ∧ Below w.heap.size w w' := by
  obtain ⟨hx, la, a, ca, rfl, ha⟩ := hp
  clear hx
  go_enter Try.func28, Try.ntmps28
  go_wp2
  go_loopw [7] (fun i wr => ∃ k : Nat, k ≤ A.length ∧ i = .int .i64 k ∧ (∀ j, j < k → pth (gt A j) = true) ∧ Below w.heap.size w wr) (fun i _ => A.length - (intOf i).toNat)
  case atStart => exact ⟨0, Nat.zero_le _, rfl, fun j hj => absurd hj (Nat.not_lt_zero j), Below.refl _ _⟩
  case round =>
    obtain ⟨k, hk, rfl, heq, hB⟩ := hrel
    have Heq := Lib.hid heq
    clear heq
    by_cases hlt : k < A.length
    · obtain ⟨ba, oa, rfl, hba, hca⟩ := ha (by omega)
      obtain ⟨p1, p2⟩ := cellsP hca hlt
      have f := fun o => hB.cell (p := ⟨ba, o, none⟩) hba
      rw [← f] at p1 p2
      clear hca ha f
      have HB := Lib.hid (fun o => hB.alloc hB.size o)
      clear hB
      have hpt := Lib.hid (show pth (gt A k) = (btw (gt A k).1 0 15 && !((gt A k).1 == 0 && (gt A k).2)) from rfl)
      cases h1 : btw (gt A k).1 0 15
      · have H1 := Lib.hid (show pth (gt A k) = false by rw [hpt.out, h1]; rfl)
        go_wp2_with (go_at_call 27; refine (between_any _ _ _ _).mono ?_; rintro e w' ⟨rfl, rfl⟩)
        go_ret
        exact ⟨ret_bool (arB_bad hlt H1.out).symm, HB.out _⟩
      · cases h2 : ((gt A k).1 == 0) <;> cases h3 : (gt A k).2
        all_goals
          rw [h3] at p2
          have H1 := hpt.out
          rw [h1, h2, h3] at H1
          have H2 := Lib.hid H1
          clear H1 h3
          go_wp2_with (go_at_call 27; refine (between_any _ _ _ _).mono ?_; rintro e w' ⟨rfl, rfl⟩)
          first
          | (go_roundw
             case rel =>
               refine ⟨k + 1, by omega, by go_num, fun j hj => ?_, HB.out _⟩
               by_cases hjk : j = k
               · rw [hjk]; exact H2.out
               · exact Heq.out j (by omega)
             case measure => simp [intOf]; omega)
          | (go_ret
             exact ⟨ret_bool (arB_bad hlt H2.out).symm, HB.out _⟩)
    · go_wp2
      go_ret
      have har : arB A = true := by
        simp only [arB, decide_eq_true_eq]
        exact fun j hj => Heq.out j (by omega)
      exact ⟨ret_bool har.symm, hB⟩

/-- The pointer p leads to a pattern that reads as A and B. -/
def RdQ (w : World) (p : Value) (A B : List Th) : Prop :=
  ∃ b s1 n1 c1 s2 n2 c2, p = .pointer (some ⟨b, 0, none⟩) ∧ b < w.heap.size ∧ w.cell? ⟨b, 0, none⟩ = some (.slice s1 n1 c1) ∧ w.cell? ⟨b, 1, none⟩ = some (.slice s2 n2 c2) ∧ RdP w (.slice s1 n1 c1) (.slice s2 n2 c2) A B
theorem RdQ.below {w w' : World} {p : Value} {A B : List Th} (h : RdQ w p A B) (hb : Below w.heap.size w w') : RdQ w' p A B := by
  obtain ⟨b, s1, n1, c1, s2, n2, c2, hp, hlt, h1, h2, h3⟩ := h
  exact ⟨b, s1, n1, c1, s2, n2, c2, hp, Nat.lt_of_lt_of_le hlt hb.size, (hb.cell (p := ⟨b, 0, none⟩) hlt).trans h1, (hb.cell (p := ⟨b, 1, none⟩) hlt).trans h2, h3.below hb⟩
/-- A pattern, boxed. -/
theorem rdQ_box {w : World} {s1 : Option Addr} {n1 c1 : Nat} {s2 : Option Addr} {n2 c2 : Nat} {A B : List Th} (h : RdP w (.slice s1 n1 c1) (.slice s2 n2 c2) A B) :
    RdQ (w.alloc (.cells #[.slice s1 n1 c1, .slice s2 n2 c2] 24)) (.pointer (some ⟨w.heap.size, 0, none⟩)) A B :=
  ⟨w.heap.size, s1, n1, c1, s2, n2, c2, rfl, by simp, by simp, by simp, h.below ((Below.refl _ _).alloc (Nat.le_refl _) _)⟩
/-- The same, the lengths told. -/
theorem RdQ.lens {w : World} {p : Value} {A B : List Th} (h : RdQ w p A B) :
    ∃ b s1 c1 s2 c2, p = .pointer (some ⟨b, 0, none⟩) ∧ b < w.heap.size ∧ w.cell? ⟨b, 0, none⟩ = some (.slice s1 A.length c1) ∧ w.cell? ⟨b, 1, none⟩ = some (.slice s2 B.length c2) ∧ RdT 1 w (.slice s1 A.length c1) A.length A ∧ RdT 1 w (.slice s2 B.length c2) B.length B := by
  obtain ⟨b, s1, n1, c1, s2, n2, c2, hp, hlt, h1, h2, h3, h4⟩ := h
  have e1 := h3
  have e2 := h4
  obtain ⟨_, _, _, _, hv, _⟩ := e1
  obtain ⟨_, _, _, _, hv', _⟩ := e2
  cases hv
  cases hv'
  exact ⟨b, s1, c1, s2, c2, hp, hlt, h1, h2, h3, h4⟩

set_option maxRecDepth 20000 in
set_option maxHeartbeats 4000000 in
theorem l06Shape_any (p : Value) (A B : List Th) (w : World) (h : RdQ w p A B) :
    Calls Try.prog 18 #[p] w fun e w' => e = .returned (.bool (shB A B)) ∧ ∃ n, w' = w.drewN n := by
  obtain ⟨b, s1, c1, s2, c2, rfl, hlt, d1, d2, h1, h2⟩ := h.lens
  have la := h1.2.1
  have lb := h2.2.1
  have l1 : Hid (∀ n, Calls Try.prog 25 #[.slice s1 A.length c1] (w.drewN n) fun e w' => e = .returned (.bool (lpB A)) ∧ w' = w.drewN n) := fun n => (l06List_any _ A _ (h1.drewN n)).mono fun e w' ⟨he, hw⟩ => ⟨he, hw.symm⟩
  have l2 : Hid (∀ n, Calls Try.prog 25 #[.slice s2 B.length c2] (w.drewN n) fun e w' => e = .returned (.bool (lpB B)) ∧ w' = w.drewN n) := fun n => (l06List_any _ B _ (h2.drewN n)).mono fun e w' ⟨he, hw⟩ => ⟨he, hw.symm⟩
  have hs := shB_spec A B
  clear h1 h2 h
  cases e1 : lpB A <;> cases e2 : lpB B <;> cases e3 : decide ((A.length : Int) = B.length)
  all_goals
    rw [e1, e2, e3] at hs
    rw [e1] at l1
    rw [e2] at l2
    have HS := Lib.hid hs
    clear hs e1 e2
    go_enter Try.func18, Try.ntmps18
    go_wp2
    go_quiet (first | (go_at_call_of 25 (Value.slice s1 A.length c1); exact Calls.quiet_of_same (l1.out _)) | (go_at_call_of 25 (Value.slice s2 B.length c2); exact Calls.quiet_of_same (l2.out _)))
    go_wp2
    go_ret
    exact ⟨ret_bool (by first | exact HS.out | (rw [← HS.out]; exact e3)), _, rfl⟩

set_option maxHeartbeats 2000000 in
theorem isPassingForm_any (a b : Value) (A B : List Th) (w : World) (h : RdP w a b A B) :
    Calls Try.prog 22 #[.agg #[a, b]] w fun e w' => e = .returned (.bool (shB A B)) ∧ Below w.heap.size w w' := by
  obtain ⟨⟨s1, c1, rfl⟩, s2, c2, rfl⟩ := h.form
  have la := h.1.2.1
  have lb := h.2.2.1
  have l1 : Hid (∀ W, Below w.heap.size w W → Calls Try.prog 28 #[.slice s1 A.length c1] W fun e w' => e = .returned (.bool (arB A)) ∧ Below W.heap.size W w') := fun W hW => arePasses_any _ A W (h.1.below hW)
  have l2 : Hid (∀ W, Below w.heap.size w W → Calls Try.prog 28 #[.slice s2 B.length c2] W fun e w' => e = .returned (.bool (arB B)) ∧ Below W.heap.size W w') := fun W hW => arePasses_any _ B W (h.2.below hW)
  clear h
  have hs := Lib.hid (show shB A B = (btw (A.length : Int) 1 8 && decide (A.length = B.length) && arB A && arB B) from rfl)
  cases e1 : btw (A.length : Int) 1 8
  · go_enter Try.func22, Try.ntmps22
    go_wp2_with (go_at_call 27; refine (between_any _ _ _ _).mono ?_; rintro e w' ⟨rfl, rfl⟩)
    go_ret
    exact ⟨ret_bool (by rw [hs.out, e1]; rfl), box_below _ _⟩
  by_cases e2 : A.length = B.length
  rotate_left
  · have e2' : ((A.length : Int) == B.length) = false := bF (by omega)
    have E2 := Lib.hid e2
    clear e2
    go_enter Try.func22, Try.ntmps22
    go_wp2_with (go_at_call 27; refine (between_any _ _ _ _).mono ?_; rintro e w' ⟨rfl, rfl⟩)
    go_ret
    exact ⟨ret_bool (by rw [hs.out, decide_eq_false E2.out]; simp), box_below _ _⟩
  · have e2' : ((A.length : Int) == B.length) = true := bT (by omega)
    have E2 := Lib.hid e2
    clear e2
    cases e3 : arB A
    · rw [e3] at l1
      have E3 := Lib.hid e3
      clear e3
      go_enter Try.func22, Try.ntmps22
      go_wp2_with (go_at_call 27; refine (between_any _ _ _ _).mono ?_; rintro e w' ⟨rfl, rfl⟩)
      refine (l1.out _ (box_below _ _)).mono ?_
      rintro e w1 ⟨rfl, hb1⟩
      have HB := Lib.hid (below_step (box_below _ _) hb1 (by simp))
      clear hb1
      go_wp2
      go_ret
      exact ⟨ret_bool (by rw [hs.out, E3.out]; simp), HB.out⟩
    · rw [e3] at l1
      have E3 := Lib.hid e3
      clear e3
      cases e4 : arB B
      all_goals
        rw [e4] at l2
        have E4 := Lib.hid e4
        clear e4
        go_enter Try.func22, Try.ntmps22
        go_wp2_with (go_at_call 27; refine (between_any _ _ _ _).mono ?_; rintro e w' ⟨rfl, rfl⟩)
        refine (l1.out _ (box_below _ _)).mono ?_
        rintro e w1 ⟨rfl, hb1⟩
        obtain ⟨hc1, hz1⟩ := bcell hb1
        have HB := Lib.hid (below_step (box_below _ _) hb1 (by simp))
        clear hb1
        go_wp2_with fail
        refine (l2.out _ HB.out).mono ?_
        rintro e w2 ⟨rfl, hb2⟩
        have HB2 := Lib.hid (below_step HB.out hb2 HB.out.size)
        clear hb2
        go_wp2
        go_ret
        exact ⟨ret_bool (by rw [hs.out, e1, decide_eq_true E2.out, E3.out, E4.out]; rfl), HB2.out⟩

/-- Where throw k of a juggler lands, by twice the beat plus the juggler. -/
def ldV (t : Th) (j : Int) (k n : Int) : Int := (k + t.1) % n * 2 + (if t.2 then 1 - j else j)
set_option maxHeartbeats 2000000 in
theorem l06Land_any (a : Int) (x : Bool) (j k n : Int) (w : World) (h0 : 0 ≤ a) (h15 : a ≤ 15) (hj0 : 0 ≤ j) (hj1 : j ≤ 1) (hk0 : 0 ≤ k) (hk : k ≤ 8) (hn1 : 1 ≤ n) (hn : n ≤ 8) :
    Calls Try.prog 19 #[.agg #[.int .i64 a, .bool x], .int .i64 j, .int .i64 k, .int .i64 n] w fun e w' => e = .returned (.int .i64 (ldV (a, x) j k n)) ∧ Below w.heap.size w w' := by
  have m4 : (k + a).tmod n = (k + a) % n := Int.tmod_eq_emod_of_nonneg (by omega)
  have b1 : 0 ≤ (k + a) % n := Int.emod_nonneg _ (by omega)
  have b2 : (k + a) % n < n := Int.emod_lt_of_pos _ (by omega)
  have hn0 : ¬ n = 0 := by omega
  cases x
  all_goals
    go_enter Try.func19, Try.ntmps19
    go_wp2
    go_ret
    exact ⟨ret_int rfl, box_below _ _⟩
end Go.Proofs.Ytbkacjfdkaiogaa
