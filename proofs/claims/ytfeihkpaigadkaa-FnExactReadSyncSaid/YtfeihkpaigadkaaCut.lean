/-
  The program's cut of a text at the first place of a byte. No condition beyond the contract's own.
-/
import Derived.Test.YtfeihkpaigadkaaInts
import Derived.Test.YtfeihkpaigadkaaSub
namespace Go.Proofs.Ytfeihkpaigadkaa
open Go.ChangeShapes Go.WideShapes Go.ChangeAt Go.RowKit

open Go.PlainAid

/-- The first place of a byte in a text, if there is one. -/
def fx (t : ByteArray) (c : Int) : Option Nat := findI (fun j => bt t j == c) t.size
def cuA (t : ByteArray) (c : Int) : ByteArray := match fx t c with | some i => sub t 0 i | none => t
def cuB (t : ByteArray) (c : Int) : ByteArray := match fx t c with | some i => sub t (i + 1) t.size | none => ⟨#[]⟩
def cuF (t : ByteArray) (c : Int) : Bool := (fx t c).isSome

theorem one_str {t : ByteArray} {k : Nat} (h : k < t.size) : t.extract k (k + 1) = { data := #[t[k]] } := by
  have hs : (t.extract k (k + 1)).size = 1 := by simp [ByteArray.size_extract]; omega
  apply ByteArray.ext
  apply Array.ext
  · exact hs
  · intro j h1 h2
    have hj : j = 0 := by simp at h2; omega
    subst hj
    show (t.extract k (k + 1))[0]'(by omega) = t[k]
    rw [ByteArray.getElem_extract]
    rfl
theorem one_eq {t : ByteArray} {k : Nat} (h : k < t.size) (x : UInt8) : ((t.extract k (k + 1)).toList == ({ data := #[x] } : ByteArray).toList) = (bt t k == (x.toNat : Int)) := by
  rw [one_str h, ByteArray.toList_eq, ByteArray.toList_eq, ← get_bt t k h]
  show ([t[k]] == [x]) = _
  rw [Bool.eq_iff_iff]
  simp
  constructor
  · rintro rfl; rfl
  · intro e; exact UInt8.toNat_inj.1 (by omega)
theorem fx_some {t : ByteArray} {c : Int} {k : Nat} (hk : k < t.size) (h : bt t k = c) (hb : ∀ j, j < k → bt t j ≠ c) : fx t c = some k := findI_some (by simp [h]) (fun j hj => by simp [hb j hj]) hk
theorem fx_none {t : ByteArray} {c : Int} (hb : ∀ j, j < t.size → bt t j ≠ c) : fx t c = none := findI_none (fun j hj => by simp [hb j hj])

set_option maxHeartbeats 2000000 in
theorem cut_any (t : ByteArray) (x : UInt8) (w : World) (hs : t.size ≤ 1048576) :
    Calls Try.prog 21 #[.string t, .string { data := #[x] }] w fun e w' => e = .returned (.tuple #[.string (cuA t (x.toNat : Int)), .string (cuB t (x.toNat : Int)), .bool (cuF t (x.toNat : Int))]) ∧ ∃ n, w' = w.drewN n := by
  have hsep : ({ data := #[x] } : ByteArray).size = 1 := rfl
  obtain ⟨p, hp⟩ : ∃ p : ByteArray, p = { data := #[x] } := ⟨_, rfl⟩
  rw [← hp] at hsep ⊢
  have HP := Lib.hid hp
  clear hp
  have hbt := get_bt t
  go_enter Try.func21, Try.ntmps21
  go_wp2
  go_loopw [7] (fun i wr => ∃ k n : Nat, k ≤ t.size ∧ i = .int .i64 k ∧ wr = w.drewN n ∧ ∀ j, j < k → bt t j ≠ (x.toNat : Int)) (fun i _ => t.size - (intOf i).toNat)
  case atStart => exact ⟨0, 0, Nat.zero_le _, rfl, rfl, fun j hj => absurd hj (Nat.not_lt_zero j)⟩
  case round =>
    obtain ⟨k, n, hk, rfl, rfl, heq⟩ := hrel
    have Heq := Lib.hid heq
    clear heq
    by_cases hlt : k < t.size
    · have he := one_eq hlt x
      rw [← HP.out] at he
      by_cases hc : bt t k = (x.toNat : Int)
      · have he2 : ((t.extract k (k + 1)).toList == p.toList) = true := by rw [he]; simpa using hc
        have HF := Lib.hid (fx_some hlt hc Heq.out)
        clear he hc
        go_wp2
        go_quiet (fail)
        go_wp2
        go_ret3
        exact ⟨by rw [cuA, cuB, cuF, HF.out]; rfl, _, dd2 _ _ _⟩
      · have he2 : ((t.extract k (k + 1)).toList == p.toList) = false := by rw [he]; simpa using hc
        have HN := Lib.hid hc
        clear he hc
        go_wp2
        go_roundw
        case rel =>
          refine ⟨k + 1, n, by omega, by go_num, rfl, fun j hj => ?_⟩
          by_cases hjk : j = k
          · rw [hjk]; exact HN.out
          · exact Heq.out j (by omega)
        case measure => simp [intOf]; omega
    · have HF := Lib.hid (fx_none (t := t) (c := (x.toNat : Int)) (fun j hj => Heq.out j (by omega)))
      go_wp2
      go_ret3
      exact ⟨by rw [cuA, cuB, cuF, HF.out]; rfl, _, rfl⟩
end Go.Proofs.Ytfeihkpaigadkaa
