/-
  Contracts of the functions on siteswaps (chapter 2), sixth part: reading. No condition beyond each contract's own.
-/
import Derived.Test.YtckhldclogkooaaL02e
namespace Go.Proofs.Ytckhldclogkooaa
open Go.ChangeShapes Go.WideShapes Go.ChangeAt Go.RowKit

open Go.PlainAid

/-- The throws of the first k bytes of a text. -/
def rdL (s : ByteArray) (k : Nat) : List Int := (List.range k).map fun (j : Nat) => hexV (bt s j)
theorem rdL_succ (s : ByteArray) (k : Nat) : rdL s (k + 1) = rdL s k ++ [hexV (bt s k)] := by simp [rdL, List.range_succ]
theorem rdL_length (s : ByteArray) (k : Nat) : (rdL s k).length = k := by simp [rdL]

set_option maxHeartbeats 1000000 in
theorem l02Read_any (s : ByteArray) (w : World) (hs : s.size ≤ 1048576) :
    Calls Try.prog 60 #[.string s] w fun e w' => ∃ u, e = .returned u ∧ Own w' w.heap.size w'.heap.size u (rdL s s.size) ∧ Below w.heap.size w w' := by
  have hbt := get_bt s
  have hb0 := bt_nonneg s
  have hb1 := bt_le s
  have HB := Lib.hid (And.intro hb0 hb1)
  clear hb0 hb1
  go_enter Try.func60, Try.ntmps60
  go_wp2
  go_loopw [3, 4] (fun o i wr => ∃ k : Nat, k ≤ s.size ∧ i = .int .i64 k ∧ wr.ownsRow w.heap.size 2 1 o (rdL s k).length ((rdL s k).map (Value.int .i64)) ∧ Below w.heap.size w wr) (fun _ i _ => s.size - (intOf i).toNat)
  case atStart => exact ⟨0, Nat.zero_le _, rfl, own_made w, below_made w⟩
  case round =>
    obtain ⟨k, hk, rfl, hown, hB⟩ := hrel
    by_cases hlt : k < s.size
    · have hll := Lib.hid (rdL_length s k)
      have hd := Lib.hid (fun W => l02Digit_any (bt s k) W (HB.out.1 k) (HB.out.2 k))
      go_wp2_with (first | (go_at_call 76; refine (hd.out _).mono ?_; rintro e w' ⟨rfl, rfl⟩) | (at_builtin; refine push_int rfl _ _ rfl rfl rfl hown hB.size (by rw [hll.out]; omega) ?_; intro v' w' hown' hb'))
      go_roundw
      case rel => exact ⟨k + 1, by omega, by go_num, by rw [rdL_succ]; exact hown', hB.trans hb'⟩
      case measure => simp [intOf]; omega
    · go_wp2
      go_ret
      obtain rfl : k = s.size := by omega
      exact ⟨_, rfl, own_of (by rw [rdL_length]; omega) hown, hB⟩

/-- ReadPattern: the pattern of a text, if there is one. -/
def rpB (s : ByteArray) : Bool := validB (rdL s s.size)
def rpT (s : ByteArray) : List Int := if rpB s then rdL s s.size else []
theorem validB_long {p : List Int} (h : 12 < p.length) : validB p = false := by
  cases hv : validB p with
  | false => rfl
  | true => have := (validB_true hv).2.1; omega
theorem rpB_long {s : ByteArray} (h : 12 < s.size) : rpB s = false := validB_long (by rw [rdL_length]; exact h)
theorem validB_nil : validB [] = false := rfl

set_option maxHeartbeats 1000000 in
theorem specRead_any (s : ByteArray) (w : World) (hs : s.size ≤ 1048576) :
    Calls Try.prog 35 #[.string s] w fun e w' => ∃ u, e = .returned (.tuple #[u, .bool (rpB s)]) ∧ Own w' w.heap.size w'.heap.size u (rpT s) ∧ Below w.heap.size w w' := by
  have hr := Lib.hid (l02Read_any s w hs)
  cases hval : rpB s
  all_goals
    have hv := fun (v : Value) (W : World) (hp : Rd W v (rdL s s.size)) => l02Ok_any v (rdL s s.size) W hp
    rw [show validB (rdL s s.size) = _ from hval] at hv
    have Hv := Lib.hid hv
    clear hv
    go_enter Try.func35, Try.ntmps35
    go_wp2_with fail
    refine hr.out.mono ?_
    rintro e w1 ⟨u, rfl, hown, hb⟩
    go_wp2_with fail
    refine (Hv.out _ _ hown.rd).mono ?_
    rintro e w' ⟨rfl, n, rfl⟩
    go_wp2
    go_ret2
  · exact ⟨_, rfl, by rw [rpT, hval]; exact own_nil _ _ _, below_step hb (below_dn _ n) hb.size⟩
  · exact ⟨_, rfl, by rw [rpT, hval]; exact hown.below (below_dn _ n), below_step hb (below_dn _ n) hb.size⟩

set_option maxHeartbeats 1000000 in
theorem readThrows_short (s : ByteArray) (w : World) (hs : s.size ≤ 12) :
    Calls Try.prog 61 #[.string s] w fun e w' => ∃ u, e = .returned (.tuple #[u, .bool (okT (rdL s s.size))]) ∧ Own w' w.heap.size w'.heap.size u (rdL s s.size) ∧ Below w.heap.size w w' := by
  have hbt := get_bt s
  go_enter Try.func61, Try.ntmps61
  go_wp2
  go_loopw [4, 12] (fun o i wr => ∃ k : Nat, k ≤ s.size ∧ i = .int .i64 k ∧ wr.ownsRow w.heap.size 2 1 o (rdL s k).length ((rdL s k).map (Value.int .i64)) ∧ Below w.heap.size w wr) (fun _ i _ => s.size - (intOf i).toNat)
  case atStart => exact ⟨0, Nat.zero_le _, rfl, own_made w, below_made w⟩
  case round =>
    obtain ⟨k, hk, rfl, hown, hB⟩ := hrel
    by_cases hlt : k < s.size
    · have hll := Lib.hid (rdL_length s k)
      go_wp2_with (first | (go_at_call 77; refine (hexOf_any _ _).mono ?_; rintro e w' ⟨rfl, rfl⟩) | (at_builtin; refine push_int rfl _ _ rfl rfl rfl hown hB.size (by rw [hll.out]; omega) ?_; intro v' w' hown' hb'))
      go_roundw
      case rel => exact ⟨k + 1, by omega, by go_num, by rw [rdL_succ]; exact hown', hB.trans hb'⟩
      case measure => simp [intOf]; omega
    · obtain rfl : k = s.size := by omega
      have hO := own_of (by rw [rdL_length]; omega) hown
      go_wp2_with (go_at_call 45; refine (areThrows_any _ _ _ hO.rd).mono ?_; rintro e w' ⟨rfl, rfl⟩)
      go_ret2
      exact ⟨_, rfl, hO, hB⟩

set_option maxHeartbeats 1000000 in
theorem readThrows_long (s : ByteArray) (w : World) (hs : 12 < s.size) (hs2 : s.size ≤ 1048576) :
    Calls Try.prog 61 #[.string s] w fun e w' => e = .returned (.tuple #[.slice none 0 0, .bool false]) ∧ w = w' := by
  go_enter Try.func61, Try.ntmps61
  go_wp2
  go_ret2
  exact ⟨rfl, rfl⟩

set_option maxHeartbeats 1000000 in
theorem implRead_any (s : ByteArray) (w : World) (hs : s.size ≤ 1048576) :
    Calls Try.prog 36 #[.string s] w fun e w' => ∃ u, e = .returned (.tuple #[u, .bool (rpB s)]) ∧ Own w' w.heap.size w'.heap.size u (rpT s) ∧ Below w.heap.size w w' := by
  by_cases hl : s.size ≤ 12
  · have hr := Lib.hid (readThrows_short s w hl)
    cases hval : rpB s
    all_goals
      have hv := fun (v : Value) (W : World) (hp : Rd W v (rdL s s.size)) => implValid_any v (rdL s s.size) W hp
      rw [show validB (rdL s s.size) = _ from hval] at hv
      have Hv := Lib.hid hv
      clear hv
      go_enter Try.func36, Try.ntmps36
      go_wp2_with fail
      refine hr.out.mono ?_
      rintro e w1 ⟨u, rfl, hown, hb⟩
      go_wp2_with fail
      refine (Hv.out _ _ hown.rd).mono ?_
      rintro e w' ⟨rfl, hb2⟩
      go_wp2
      go_ret2
    · exact ⟨_, rfl, by rw [rpT, hval]; exact own_nil _ _ _, below_step hb hb2 hb.size⟩
    · exact ⟨_, rfl, by rw [rpT, hval]; exact (hown.below hb2).mono (Nat.le_refl _) hb2.size, below_step hb hb2 hb.size⟩
  · have hval := rpB_long (s := s) (by omega)
    have Hval := Lib.hid hval
    rw [hval]
    clear hval
    have hr := Lib.hid (readThrows_long s w (by omega) hs)
    have hv := Lib.hid (fun (W : World) => implValid_any (.slice none 0 0) [] W (own_nil W 0 0).rd)
    rw [validB_nil] at hv
    go_enter Try.func36, Try.ntmps36
    go_wp2_with fail
    refine hr.out.mono ?_
    rintro e w1 ⟨rfl, rfl⟩
    go_wp2_with fail
    refine (hv.out _).mono ?_
    rintro e w' ⟨rfl, hb2⟩
    go_wp2
    go_ret2
    exact ⟨_, rfl, by rw [rpT, Hval.out]; exact own_nil _ _ _, hb2⟩
end Go.Proofs.Ytckhldclogkooaa
