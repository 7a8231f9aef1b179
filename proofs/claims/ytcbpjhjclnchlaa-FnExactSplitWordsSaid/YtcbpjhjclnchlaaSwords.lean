/-
  The laws' own helpers on rows of strings: eqStringS, markText, markStringS, heldStringS. No condition.
-/
import Derived.Test.YtcbpjhjclnchlaaSplit
import Derived.Test.YtcbpjhjclnchlaaBytes
import Derived.Deep.RegionHeld3
namespace Go.Proofs.Ytcbpjhjclnchlaa
open Go.ChangeShapes Go.WideShapes Go.ChangeAt Go.RowKit

open Go.PlainAid

set_option maxHeartbeats 400000 in
theorem eqStringS_same (va vb : Value) (A : List ByteArray) (w : World) (hA : RdS w va A) (hB : RdS w vb A) :
    Calls Try.prog 8 #[va, vb] w fun e w' => e = .returned (.bool true) ∧ Below w.heap.size w w' := by
  obtain ⟨la, a, ca, rfl, ha⟩ := hA
  obtain ⟨lb, b, cb, rfl, hb⟩ := hB
  go_enter Try.func8, Try.ntmps8
  go_wp2
  go_loopw [5] (fun i wr => ∃ k n : Nat, k ≤ A.length ∧ i = .int .i64 k ∧ wr = w.drewN n) (fun i _ => A.length - (intOf i).toNat)
  case atStart => exact ⟨0, 0, Nat.zero_le _, rfl, rfl⟩
  case round =>
    obtain ⟨k, n, hk, rfl, rfl⟩ := hrel
    by_cases hlt : k < A.length
    · obtain ⟨ba, oa, rfl, hba, hca⟩ := ha (by omega)
      obtain ⟨bb, ob, rfl, hbb, hcb⟩ := hb (by omega)
      have h1 := hca k hlt
      have h2 := hcb k hlt
      clear hca hcb
      go_wp2
      go_quiet (fail)
      go_wp2
      go_roundw
      case rel => exact ⟨k + 1, _, by omega, by go_num, rfl⟩
      case measure => simp [intOf]; omega
    · go_wp2
      go_ret
      exact ⟨rfl, below_dn w n⟩

/-- The decimal digits of a number, ahead of a text. -/
def dgL (k : Nat) (o : ByteArray) : ByteArray := if k = 0 then o else dgL (k / 10) (strOfNums [48 + (k : Int) % 10] ++ o)
termination_by k
decreasing_by omega
theorem dgL_zero (o : ByteArray) : dgL 0 o = o := by rw [dgL, if_pos rfl]
theorem dgL_step {k : Nat} (h : 0 < k) (o : ByteArray) : dgL k o = dgL (k / 10) (strOfNums [48 + (k : Int) % 10] ++ o) := by rw [dgL, if_neg (by omega)]
/-- The text that the law's own function marks a place with. -/
def mkS (k : Nat) : ByteArray := (⟨#[109]⟩ : ByteArray) ++ dgL k ⟨#[]⟩

theorem size_str (xs : List Int) : (strOfNums xs).size = xs.length := by simp [strOfNums, ByteArray.size]

theorem byte_one (w : World) (x : Int) : (w.alloc (.cells #[.int .u8 x] 5)).ownsRow w.heap.size 5 1 (.slice (some ⟨w.heap.size, 0, none⟩) 1 1) [x].length ([x].map (Value.int .u8)) :=
  ⟨by simp, .inr ⟨w.heap.size, 1, _, rfl, Nat.le_refl _, heap_alloc_new w _, Nat.le_refl _, by decide, by simp, by simp⟩⟩

set_option maxHeartbeats 1000000 in
theorem markText_any (k : Nat) (w : World) (h1 : 1 ≤ k) (h2 : k ≤ 4000000000000000000) :
    Calls Try.prog 21 #[.int .i64 k] w fun e w' => e = .returned (.string (mkS k)) ∧ Below w.heap.size w w' := by
  go_enter Try.func21, Try.ntmps21
  go_wp2
  go_loopw [0, 3] (fun q o wr => ∃ (m : Nat) (t : ByteArray), m ≤ k ∧ q = .int .i64 m ∧ o = .string t ∧ t.size + m ≤ k ∧ Hid (dgL m t = dgL k ⟨#[]⟩) ∧ Below w.heap.size w wr) (fun q _ _ => (intOf q).toNat)
  case atStart => exact ⟨k, ⟨#[]⟩, Nat.le_refl _, rfl, rfl, by simp [ByteArray.size], rfl, Below.refl _ _⟩
  case round =>
    obtain ⟨m, t, hm, rfl, rfl, hts, HD, hB⟩ := hrel
    by_cases hlt : 0 < m
    · have hmt : (m : Int).tmod 10 = (m : Int) % 10 := Int.tmod_eq_emod_of_nonneg (by omega)
      have hmd : (m : Int).tdiv 10 = ((m / 10 : Nat) : Int) := by rw [Int.tdiv_eq_ediv_of_nonneg (by omega)]; omega
      have hw8 : IntKind.u8.wrap (48 + (m : Int) % 10) = 48 + (m : Int) % 10 := IntWalk.u8_in _ (by omega)
      have hcv := conv_own (byte_one wr (48 + (m : Int) % 10))
      have hs1 := size_str [48 + (m : Int) % 10]
      rw [List.length_singleton] at hs1
      go_wp2
      go_roundw
      case rel => exact ⟨m / 10, _, by omega, by go_num, rfl, by rw [ByteArray.size_append]; omega, by show dgL _ _ = _; rw [← HD.out, dgL_step hlt], hB.alloc hB.size _⟩
      case measure => simp [intOf]; omega
    · go_wp2
      go_ret
      obtain rfl : m = 0 := by omega
      exact ⟨ret_string (by rw [mkS, ← HD.out, dgL_zero]), hB⟩

/-- The texts q, q + 1, ..: what a marked slice of n places holds. -/
def mkL (q n : Nat) : List ByteArray := (List.range n).map fun j => mkS (q + j)
theorem mkL_length (q n : Nat) : (mkL q n).length = n := by simp [mkL]
theorem mkL_gs (q n j : Nat) (h : j < n) : gs (mkL q n) j = mkS (q + j) := by
  rw [gs_eq (by simpa [mkL] using h)]
  simp [mkL]
theorem mkL_snoc (q n : Nat) : mkL q (n + 1) = mkL q n ++ [mkS (q + n)] := by simp [mkL, List.range_succ]
theorem mkL_set (q : Nat) (A : List ByteArray) (k : Nat) (h : k < A.length) :
    ((mkL q k ++ A.drop k).map Value.string).set k (.string (mkS (q + k))) = (mkL q (k + 1) ++ A.drop (k + 1)).map Value.string := by
  rw [mkL_snoc, List.drop_eq_getElem_cons h, List.append_assoc, ← List.map_set, List.set_append, if_neg (by simp [mkL])]
  rw [mkL_length, Nat.sub_self, List.set_cons_zero, List.singleton_append]
theorem mkL_at (q : Nat) (A : List ByteArray) (k : Nat) (h : k < A.length) : ((mkL q k ++ A.drop k).map Value.string)[k]? = some (.string (gs A k)) := by
  rw [List.getElem?_map, List.getElem?_append_right (by simp [mkL]), mkL_length, List.getElem?_drop, Nat.sub_self, Nat.add_zero, List.getElem?_eq_getElem h, gs_eq h]
  rfl

set_option maxHeartbeats 1000000 in
theorem markStringS_any (va : Value) (A : List ByteArray) (q : Int) (lo hi : Nat) (w : World) (hA : OwnS w lo hi va A) (h0 : 1 ≤ q) (h1 : q ≤ 1000000000000000) :
    Calls Try.prog 9 #[va, .int .i64 q] w fun e w' => e = .returned (.int .i64 (q + A.length)) ∧ OwnS w' lo hi va (mkL q.toNat A.length) ∧ Chg w w' lo hi := by
  obtain ⟨Q, hQ⟩ : ∃ Q : Nat, q = (Q : Int) := ⟨q.toNat, by omega⟩
  subst hQ
  rw [Int.toNat_natCast]
  obtain ⟨la, hA, hhi⟩ := hA
  have hA2 := hA
  obtain ⟨hlen, hcase⟩ := hA2
  rcases hcase with ⟨rfl, hn⟩ | ⟨g, cap, cur, rfl, hb, hg, hnc, hm, hs, ht⟩
  · obtain rfl : A = [] := List.length_eq_zero_iff.1 hn
    go_enter Try.func9, Try.ntmps9
    go_wp2
    refine wp_loop_rounds 1 ?_
    rw [rounds_succ]
    go_wp2
    go_ret
    exact ⟨by simp, ownS_nil _ _ _, Chg.refl _ _ _⟩
  · have hgh := hhi g rfl
    clear hg hs ht
    go_enter Try.func9, Try.ntmps9
    go_wp2
    go_loopw [1, 5] (fun q' i wr => ∃ k : Nat, k ≤ A.length ∧ i = .int .i64 k ∧ q' = .int .i64 ((Q + k : Nat) : Int) ∧ wr.ownsRow lo 9 1 (.slice (some ⟨g, 0, none⟩) A.length cap) A.length ((mkL Q k ++ A.drop k).map Value.string) ∧ Chg w wr lo hi) (fun _ i _ => A.length - (intOf i).toNat)
    case atStart => exact ⟨0, Nat.zero_le _, rfl, by go_num, by simpa [mkL] using hA, Chg.refl _ _ _⟩
    case round =>
      obtain ⟨k, hk, rfl, rfl, hown, hgr⟩ := hrel
      by_cases hlt : k < A.length
      · obtain ⟨J, hJ⟩ : ∃ J, J = Q + k := ⟨_, rfl⟩
        rw [← hJ]
        have HJ := Lib.hid hJ
        have hmt := Lib.hid (fun W => markText_any J W (by omega) (by omega))
        have hJ9 : J ≤ 4000000000000000000 := by omega
        have HG := Lib.hid (And.intro hown hgr)
        clear hown hgr hJ
        go_wp2_with fail
        refine (hmt.out _).mono ?_
        rintro e w2 ⟨rfl, hb2⟩
        have hown := row_below HG.out.1 hb2
        have hgr := HG.out.2.trans (below_chg hb2 lo hi)
        have hfz := hown.frozenAt k
        have hc0 : w2.cell? ⟨g, k, none⟩ = some (.string (gs A k)) := by
          rw [hown.cellAt k (by omega)]
          exact mkL_at Q A k hlt
        have HG2 := Lib.hid (And.intro hown hgr)
        clear hown hgr hb2
        go_wp2
        go_roundw
        case rel =>
          have hst := HG2.out.1.stored k (.string (mkS J))
          rw [HJ.out, mkL_set Q A k hlt] at hst
          refine ⟨k + 1, by omega, by go_num, by rw [HJ.out]; go_num, ?_, HG2.out.2.setCell _ _ hb hgh⟩
          rw [HJ.out]; exact hst.1
        case measure => simp [intOf]; omega
      · go_wp2
        go_ret
        have hk' : k = A.length := by omega
        subst hk'
        refine ⟨by go_num, ⟨by rw [mkL_length]; exact la, ?_, hhi⟩, hgr⟩
        rw [mkL_length]
        simpa using hown

set_option maxHeartbeats 1000000 in
theorem heldStringS_same (va : Value) (q : Int) (n lo hi : Nat) (w : World) (hA : OwnS w lo hi va (mkL q.toNat n)) (h0 : 1 ≤ q) (h1 : q ≤ 1000000000000000) :
    Calls Try.prog 10 #[va, .int .i64 q] w fun e w' => e = .returned (.int .i64 (q + n)) ∧ Below w.heap.size w w' := by
  obtain ⟨Q, hQ⟩ : ∃ Q : Nat, q = (Q : Int) := ⟨q.toNat, by omega⟩
  subst hQ
  rw [Int.toNat_natCast] at hA
  obtain ⟨la, a, ca, hv, ha⟩ := hA.rd
  rw [mkL_length] at la hv ha
  subst hv
  clear hA
  go_enter Try.func10, Try.ntmps10
  go_wp2
  go_loopw [1, 5] (fun q' i wr => ∃ k : Nat, k ≤ n ∧ i = .int .i64 k ∧ q' = .int .i64 ((Q + k : Nat) : Int) ∧ Below w.heap.size w wr) (fun _ i _ => n - (intOf i).toNat)
  case atStart => exact ⟨0, Nat.zero_le _, rfl, by go_num, Below.refl _ _⟩
  case round =>
    obtain ⟨k, hk, rfl, rfl, hB⟩ := hrel
    by_cases hlt : k < n
    · obtain ⟨ba, oa, rfl, hba, hca⟩ := ha (by omega)
      have h1 := (hB.cell (p := ⟨ba, oa + k, none⟩) hba).trans (hca k hlt)
      rw [mkL_gs Q n k hlt] at h1
      obtain ⟨J, hJ⟩ : ∃ J, J = Q + k := ⟨_, rfl⟩
      rw [← hJ] at h1 ⊢
      have HJ := Lib.hid hJ
      have hmt := Lib.hid (fun W => markText_any J W (by omega) (by omega))
      have hJ9 : J ≤ 4000000000000000000 := by omega
      have hbr : ba < wr.heap.size := Nat.lt_of_lt_of_le hba hB.size
      clear hca ha hJ
      go_wp2
      go_region_held3 (fun w' => w'.cell? ⟨ba, oa + k, none⟩ = some (.string (mkS J)))
        (first | go_keep | (exact (hb2.cell (p := ⟨ba, oa + k, none⟩) hbr).trans (by assumption)))
        ((go_at_call 21; (with_reducible refine (hmt.out _).mono ?_); rintro e w2 ⟨rfl, hb2⟩))
      all_goals
        have HB2 := Lib.hid (below_step hB.drew hb2 hB.size)
        clear hb2 hB
        go_wp2
        go_roundw
        case rel => exact ⟨k + 1, by omega, by go_num, by rw [HJ.out]; go_num, HB2.out⟩
        case measure => simp [intOf]; omega
    · go_wp2
      go_ret
      obtain rfl : k = n := by omega
      exact ⟨by go_num, hB⟩
end Go.Proofs.Ytcbpjhjclnchlaa
