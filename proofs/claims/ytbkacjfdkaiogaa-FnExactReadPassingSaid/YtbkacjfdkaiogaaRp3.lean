/-
  Contracts of ReadPassing (chapter 6), of the program. No condition beyond each contract's own.
-/
import Derived.Test.YtbkacjfdkaiogaaRp2b
import Derived.Deep.RegionHeld3
namespace Go.Proofs.Ytbkacjfdkaiogaa
open Go.ChangeShapes Go.WideShapes Go.ChangeAt Go.RowKit

open Go.PlainAid

/-- What the program reads off the parts of a text. -/
def rdPs (S : List ByteArray) (T : List Th) (ok : Bool) : Prop := (ok = true → thB S = true ∧ T = thL S) ∧ (ok = false → goT S = false)
def rdPost (t : ByteArray) (w : World) (e : Ending) (w' : World) : Prop :=
  ∃ (u : Value) (T : List Th) (ok : Bool), e = .returned (.tuple #[u, .bool ok]) ∧ OwnT 42 1 w' w.heap.size w'.heap.size u T.length T ∧ Below w.heap.size w w' ∧ rdPs (spL t 32) T ok
theorem drop_head {S : List ByteArray} {k : Nat} {x : ByteArray} {L : List ByteArray} (h : S.drop k = x :: L) : k < S.length ∧ gs S k = x ∧ S.drop (k + 1) = L := by
  have hk : k < S.length := by
    by_cases hk : k < S.length
    · exact hk
    · rw [List.drop_eq_nil_of_le (by omega)] at h; cases h
  rw [List.drop_eq_getElem_cons hk] at h
  injection h with h1 h2
  exact ⟨hk, by rw [gs_eq hk]; exact h1, h2⟩
theorem cut32_any (t : ByteArray) (w : World) (hs : t.size ≤ 1048576) :
    Calls Try.prog 20 #[.string t, .string { data := #[32] }] w fun e w' => e = .returned (.tuple #[.string (cuA t 32), .string (cuB t 32), .bool (cuF t 32)]) ∧ Below w.heap.size w w' :=
  (cut_any t 32 w hs).mono fun e w' ⟨h, n, hn⟩ => ⟨h, by rw [hn]; exact below_dn _ _⟩
theorem cut124_any (t : ByteArray) (w : World) (hs : t.size ≤ 1048576) :
    Calls Try.prog 20 #[.string t, .string { data := #[124] }] w fun e w' => e = .returned (.tuple #[.string (cuA t 124), .string (cuB t 124), .bool (cuF t 124)]) ∧ Below w.heap.size w w' :=
  (cut_any t 124 w hs).mono fun e w' ⟨h, n, hn⟩ => ⟨h, by rw [hn]; exact below_dn _ _⟩

set_option maxRecDepth 20000 in
set_option maxHeartbeats 16000000 in
theorem readPasses_any (t : ByteArray) (w : World) (hs : t.size ≤ 1048576) :
    Calls Try.prog 21 #[.string t] w (rdPost t w) := by
  obtain ⟨S, hS⟩ : ∃ S, S = spL t 32 := ⟨_, rfl⟩
  have HS0 := Lib.hid hS
  clear hS
  go_enter Try.func21, Try.ntmps21
  go_wp2
  go_loopw [0, 4] (fun sv o wr => ∃ (k : Nat) (r : ByteArray), k ≤ 9 ∧ k < S.length ∧ sv = .string r ∧ r.size ≤ 1048576 ∧ Hid (S.drop k = spL r 32) ∧ wr.ownsRow w.heap.size 42 2 o k (cT (tkM S k)) ∧ Below w.heap.size w wr ∧ Hid (∀ j, j < k → tkB (gs S j) = true)) (fun sv _ _ => lenOf sv)
  case atStart => exact ⟨0, t, by omega, by rw [HS0.out]; exact (spL_length t 32).1, rfl, hs, by show List.drop 0 S = _; rw [List.drop_zero]; exact HS0.out, pass_made w, below_pass w, fun j hj => absurd hj (Nat.not_lt_zero j)⟩
  case round =>
    obtain ⟨k, r, hk9, hkS, rfl, hrz, HD, hown, hB, HT⟩ := hrel
    have hrd : RdT 1 wr _ k (tkM S k) := (ownT_of (by rw [tkM_length (by omega)]; omega) (by omega) hown).rd
    obtain ⟨so, co, rfl⟩ := hrd.form
    have HH := Lib.hid (And.intro hown hB)
    have hBs := hB.size
    clear hown hB hrd
    by_cases h8 : k ≤ 8
    · have hcut := Lib.hid (fun W => cut32_any r W hrz)
      have hb := cuB_size r 32
      go_wp2_with fail
      refine (hcut.out _).mono ?_
      rintro e w2 ⟨rfl, hb2⟩
      obtain ⟨x, hxx⟩ : ∃ x, x = cuA r 32 := ⟨_, rfl⟩
      have HM : Hid (gs S k = x ∧ (if cuF r 32 = true then S.drop (k + 1) = spL (cuB r 32) 32 ∧ (cuB r 32).size < r.size else S.drop (k + 1) = [])) := by
        show _ ∧ _
        rw [hxx]
        have hd := HD.out
        by_cases hm : cuF r 32 = true
        · obtain ⟨e1, e2⟩ := spL_yes hm
          rw [e1] at hd
          obtain ⟨_, d2, d3⟩ := drop_head hd
          rw [if_pos hm]
          exact ⟨d2, d3, e2⟩
        · obtain ⟨e1, e2⟩ := spL_not (by simpa using hm)
          rw [e1, ← e2] at hd
          obtain ⟨_, d2, d3⟩ := drop_head hd
          rw [if_neg hm]
          exact ⟨d2, d3⟩
      have HS := Lib.hid (tkM_succ hkS)
      have hbad := Lib.hid (fun h => goT_bad hkS (tkB_no h))
      have hgood := Lib.hid (fun h => tkB_yes (t := gs S k) h)
      have h1T := Lib.hid (fun h => tkT_one (t := gs S k) h)
      have h2T := Lib.hid (fun h => tkT_two (t := gs S k) h)
      have hneg := Lib.hid (fun h => goT_neg hkS h)
      rw [HM.out.1] at hbad hgood h1T h2T HS hneg
      have hbt := get_bt x
      have hv := Lib.hid (fun W => hexOf_any (bt x 0) W)
      obtain ⟨hx, hhx⟩ : ∃ hx, hx = hexV (bt x 0) := ⟨_, rfl⟩
      rw [← hhx] at hv hneg
      have HHX := Lib.hid hhx
      rw [← hxx]
      have HW := Lib.hid (And.intro hb2 (below_step HH.out.2 hb2 hBs))
      have hs2 := hb2.size
      clear hhx hxx hb2 hcut
      have hcase : x.size = 1 ∨ (x.size = 2 ∧ bt x 1 = 112) ∨ (x.size = 2 ∧ bt x 1 ≠ 112) ∨ (x.size ≠ 1 ∧ x.size ≠ 2) := by omega
      rcases hcase with h | ⟨h, h'⟩ | ⟨h, h'⟩ | ⟨h, h'⟩
      · have HG := Lib.hid (hgood.out (by omega))
        have HTK := Lib.hid (HS.out.trans (congrArg (fun y => tkM S k ++ [y]) (h1T.out h)))
        by_cases hn : hx < 0
        · have HN := Lib.hid (hneg.out hn)
          go_wp2_with (go_at_call 26; refine (hv.out _).mono ?_; rintro e w' ⟨rfl, rfl⟩)
          go_ret2
          exact ⟨_, [], false, rfl, ownT_nil _ _ _ _ _, HW.out.2.alloc HW.out.2.size _, ⟨fun h => absurd h (by simp), fun _ => by rw [← HS0.out]; exact HN.out⟩⟩
        · have HO1 := Lib.hid (And.intro (row_below HH.out.1 (HW.out.1.alloc HW.out.1.size (.cells #[.int .i64 hx, .bool false] 42))) (HW.out.2.alloc HW.out.2.size (.cells #[.int .i64 hx, .bool false] 42)))
          have hsx : (w2.alloc (.cells #[.int .i64 hx, .bool false] 42)).heap.size = w2.heap.size + 1 := by simp
          cases hm : cuF r 32
          all_goals
            obtain ⟨hgs, hdr⟩ := HM.out
            rw [hm] at hdr
            have HDR := Lib.hid hdr
            clear hdr hgs
            go_wp2_with (first | (go_at_call 26; refine (hv.out _).mono ?_; rintro e w' ⟨rfl, rfl⟩) | (at_builtin; refine push_pass (x := (hx, false)) rfl _ _ rfl rfl (w2.heap.size + 1) rfl hsx.symm HO1.out.1 HO1.out.2.size (by omega) ?_; intro v' w' hown' hb'))
          · go_ret2
            have hd := HDR.out
            rw [if_neg (by simp)] at hd
            have hsl : S.length = k + 1 := by have := List.drop_eq_nil_iff.1 hd; omega
            have el : (tkM S (k + 1)).length = k + 1 := tkM_length (by omega)
            refine ⟨v', tkM S (k + 1), true, rfl, by rw [el]; exact ownT_of (by omega) (by omega) (by rw [HTK.out, ← HHX.out]; exact hown'), HO1.out.2.trans hb', ⟨fun _ => ?_, fun h => absurd h (by simp)⟩⟩
            rw [← HS0.out]
            refine ⟨decide_eq_true (fun j hj => ?_), by rw [thL, hsl]⟩
            by_cases hjk : j = k
            · rw [hjk, HM.out.1]; exact HG.out
            · exact HT.out j (by omega)
          · go_roundw
            case rel =>
              have hd := HDR.out
              first | rw [if_pos rfl] at hd | rw [if_pos trivial] at hd
              have hl1 := congrArg List.length hd.1
              have hl2 := (spL_length (cuB r 32) 32).1
              rw [List.length_drop] at hl1
              refine ⟨k + 1, cuB r 32, by omega, by omega, rfl, by omega, hd.1, by rw [HTK.out, ← HHX.out]; exact hown', HO1.out.2.trans hb', Lib.hid (fun j hj => ?_)⟩
              by_cases hjk : j = k
              · rw [hjk, HM.out.1]; exact HG.out
              · exact HT.out j (by omega)
            case measure =>
              have hd := HDR.out
              first | rw [if_pos rfl] at hd | rw [if_pos trivial] at hd
              exact hd.2
      · have hq : (bt x 1 == 112) = true := by simpa using h'
        obtain ⟨p, hp⟩ : ∃ p, x.extract 0 1 = p := ⟨_, rfl⟩
        have hps : p.size = 1 := by rw [← hp, ByteArray.size_extract]; omega
        have hbp : ∀ n (h : n < p.size), ((p[n]'h).toNat : Int) = bt x n := fun n hn => by
          subst hp
          rw [get_bt]
          have := sub_bt (s := x) (i := 0) (k := 1) (j := n) (by omega) (by omega)
          rw [Nat.zero_add] at this
          exact this
        have HG := Lib.hid (hgood.out (by omega))
        have HTK := Lib.hid (HS.out.trans (congrArg (fun y => tkM S k ++ [y]) (h2T.out h)))
        by_cases hn : hx < 0
        · have HN := Lib.hid (hneg.out hn)
          go_wp2_with (go_at_call 26; refine (hv.out _).mono ?_; rintro e w' ⟨rfl, rfl⟩)
          go_ret2
          exact ⟨_, [], false, rfl, ownT_nil _ _ _ _ _, HW.out.2.alloc HW.out.2.size _, ⟨fun h => absurd h (by simp), fun _ => by rw [← HS0.out]; exact HN.out⟩⟩
        · have HO1 := Lib.hid (And.intro (row_below HH.out.1 (HW.out.1.alloc HW.out.1.size (.cells #[.int .i64 hx, .bool true] 42))) (HW.out.2.alloc HW.out.2.size (.cells #[.int .i64 hx, .bool true] 42)))
          have hsx : (w2.alloc (.cells #[.int .i64 hx, .bool true] 42)).heap.size = w2.heap.size + 1 := by simp
          cases hm : cuF r 32
          all_goals
            obtain ⟨hgs, hdr⟩ := HM.out
            rw [hm] at hdr
            have HDR := Lib.hid hdr
            clear hdr hgs
            go_wp2_with (first | (go_at_call 26; refine (hv.out _).mono ?_; rintro e w' ⟨rfl, rfl⟩) | (at_builtin; refine push_pass (x := (hx, true)) rfl _ _ rfl rfl (w2.heap.size + 1) rfl hsx.symm HO1.out.1 HO1.out.2.size (by omega) ?_; intro v' w' hown' hb'))
          · go_ret2
            have hd := HDR.out
            rw [if_neg (by simp)] at hd
            have hsl : S.length = k + 1 := by have := List.drop_eq_nil_iff.1 hd; omega
            have el : (tkM S (k + 1)).length = k + 1 := tkM_length (by omega)
            refine ⟨v', tkM S (k + 1), true, rfl, by rw [el]; exact ownT_of (by omega) (by omega) (by rw [HTK.out, ← HHX.out]; exact hown'), HO1.out.2.trans hb', ⟨fun _ => ?_, fun h => absurd h (by simp)⟩⟩
            rw [← HS0.out]
            refine ⟨decide_eq_true (fun j hj => ?_), by rw [thL, hsl]⟩
            by_cases hjk : j = k
            · rw [hjk, HM.out.1]; exact HG.out
            · exact HT.out j (by omega)
          · go_roundw
            case rel =>
              have hd := HDR.out
              first | rw [if_pos rfl] at hd | rw [if_pos trivial] at hd
              have hl1 := congrArg List.length hd.1
              have hl2 := (spL_length (cuB r 32) 32).1
              rw [List.length_drop] at hl1
              refine ⟨k + 1, cuB r 32, by omega, by omega, rfl, by omega, hd.1, by rw [HTK.out, ← HHX.out]; exact hown', HO1.out.2.trans hb', Lib.hid (fun j hj => ?_)⟩
              by_cases hjk : j = k
              · rw [hjk, HM.out.1]; exact HG.out
              · exact HT.out j (by omega)
            case measure =>
              have hd := HDR.out
              first | rw [if_pos rfl] at hd | rw [if_pos trivial] at hd
              exact hd.2
      · have hq : (bt x 1 == 112) = false := by simpa using h'
        have HBD := Lib.hid (hbad.out (by omega))
        go_wp2
        go_ret2
        exact ⟨_, [], false, rfl, ownT_nil _ _ _ _ _, HW.out.2.alloc HW.out.2.size _, ⟨fun h => absurd h (by simp), fun _ => by rw [← HS0.out]; exact HBD.out⟩⟩
      · have HBD := Lib.hid (hbad.out (by omega))
        have hn1 : ¬ (x.size : Int) = 1 := by omega
        have hn2 : ¬ (x.size : Int) = 2 := by omega
        have hb1 : ((x.size : Int) == 2) = false := by simp; omega
        have hb3 : ((x.size : Int) != 1) = true := by simp; omega
        go_wp2
        go_ret2
        exact ⟨_, [], false, rfl, ownT_nil _ _ _ _ _, HW.out.2.alloc HW.out.2.size _, ⟨fun h => absurd h (by simp), fun _ => by rw [← HS0.out]; exact HBD.out⟩⟩
    · have hlong := Lib.hid (goT_long (S := S) (by omega))
      go_wp2
      go_ret2
      exact ⟨_, [], false, rfl, ownT_nil _ _ _ _ _, HH.out.2, ⟨fun h => absurd h (by simp), fun _ => by rw [← HS0.out]; exact hlong.out⟩⟩
end Go.Proofs.Ytbkacjfdkaiogaa
