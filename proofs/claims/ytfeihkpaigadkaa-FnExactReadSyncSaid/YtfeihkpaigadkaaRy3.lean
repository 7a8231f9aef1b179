/-
  Contracts of ReadSync (chapter 5), of the reference, second part. No condition beyond each contract's own.
-/
import Derived.Test.YtfeihkpaigadkaaRy2
namespace Go.Proofs.Ytfeihkpaigadkaa
open Go.ChangeShapes Go.WideShapes Go.ChangeAt Go.RowKit

open Go.PlainAid

/-- What the reading of beats answers. -/
def rbPost (s : ByteArray) (w : World) (e : Ending) (w' : World) : Prop :=
  ∃ (u : Value) (n : Nat) (T : List Th), e = .returned (.tuple #[u, .bool (ryF s)]) ∧ OwnT 35 2 w' w.heap.size w'.heap.size u n T ∧ Below w.heap.size w w' ∧ (ryF s = true → n = ryN s ∧ T = ryT s)

set_option maxRecDepth 20000 in
set_option maxHeartbeats 16000000 in
theorem l05Beats_any (s : ByteArray) (w : World) (hs : s.size ≤ 1048576) :
    Calls Try.prog 9 #[.string s] w (rbPost s w) := by
  have hsp := l01Split_any s 41 w hs
  have hgz := fun k (h : k < (spL s 41).length) => Nat.le_trans (gs_size (t := s) (c := 41) (k := k) h) hs
  have hl1 := (spL_length s 41).1
  have hl2 := (spL_length s 41).2
  have HF := Lib.hid (show ryF s = ryG (spL s 41) from rfl)
  have HNT := Lib.hid (show ryN s = (spL s 41).length - 1 ∧ ryT s = ryM (spL s 41) ((spL s 41).length - 1) from ⟨rfl, rfl⟩)
  obtain ⟨S, hS⟩ : ∃ S, S = spL s 41 := ⟨_, rfl⟩
  rw [← hS] at hsp hgz hl1 hl2 HF HNT
  have hsp := Lib.hid hsp
  have hgz := Lib.hid hgz
  clear hS
  obtain ⟨N, hN⟩ : ∃ N, S.length = N + 1 := ⟨S.length - 1, by omega⟩
  rw [show S.length - 1 = N by omega] at HNT
  have HN := Lib.hid hN
  have hNz : N ≤ 1048576 := by omega
  have BADX : Hid (∀ (W : World) (h : ryG S = false), Below w.heap.size w W → rbPost s w (.returned (.tuple #[.slice none 0 0, .bool false])) W) := fun W h hB => ⟨_, 0, [], by rw [HF.out, h], ownT_nil _ _ _ _ _, hB, fun hh => by rw [HF.out, h] at hh; cases hh⟩
  go_enter Try.func9, Try.ntmps9
  go_wp2_with fail
  refine hsp.out.mono ?_
  rintro e w1 ⟨u, rfl, hu, hb1⟩
  obtain ⟨la, a, ca, rfl, ha⟩ := hu.rd
  rw [hN] at ha ⊢
  obtain ⟨ba, oa, rfl, hba, hca⟩ := ha (by omega)
  have HCA := Lib.hid hca
  have HB1 := Lib.hid hb1
  have hz1 := hb1.size
  have pN := hca N (by omega)
  have pN1 := ((below_sync w1).cell (p := ⟨ba, oa + N, none⟩) hba).trans pN
  have HLAST := Lib.hid (fun h => ryG_last (S := S) (by rw [hN]; exact h))
  have HLEN := Lib.hid (fun h => ryG_len (S := S) h)
  have HBAD := Lib.hid (fun k hk h => ryG_bad (S := S) (k := k) hk h)
  have HYES := Lib.hid (fun h1 h2 h3 => ryG_yes (S := S) h1 h2 h3)
  obtain ⟨x, hx⟩ : ∃ x, x = gs S N := ⟨_, rfl⟩
  have HX := Lib.hid hx
  rw [← hx] at pN pN1
  rw [show N + 1 - 1 = N by omega, ← hx] at HLAST
  clear hu hb1 ha hca hsp la hx hl1 hN
  by_cases hxz : x.size = 0
  rotate_left
  · have hne := str_ne (s := x) (by omega)
    have HB := Lib.hid (HLAST.out hxz)
    go_wp2
    go_ret2
    exact BADX.out _ HB.out (HB1.out.trans ((below_sync w1).mono hz1))
  have hne := str_nil hxz
  by_cases h7 : N ≤ 6
  rotate_left
  · have HB := Lib.hid (HLEN.out (by have := HN.out; omega))
    have h7' : (7 : Int) < (N : Int) + 1 := by omega
    go_wp2
    go_ret2
    exact BADX.out _ HB.out (HB1.out.trans ((below_sync w1).mono hz1))
  have hLX := Lib.hid (show (gs S (S.length - 1)).size = 0 by rw [HN.out, show N + 1 - 1 = N by omega, ← HX.out]; exact hxz)
  go_wp2
  go_loopw [5, 6] (fun o i wr => ∃ k : Nat, k ≤ N ∧ i = .int .i64 k ∧ wr.ownsRow w1.heap.size 35 4 o k (cT (ryM S k)) ∧ Below w1.heap.size w1 wr ∧ Hid (∀ j, j < k → bbB (gs S j) = true)) (fun _ i _ => N - (intOf i).toNat)
  case atStart => exact ⟨0, Nat.zero_le _, rfl, sync_made w1, below_sync w1, fun j hj => absurd hj (Nat.not_lt_zero j)⟩
  case round =>
    obtain ⟨k, hk, rfl, hown, hB, HT⟩ := hrel
    have hrd : RdT 2 wr _ k (ryM S k) := (ownT_of (ryM_length S k) (by omega) hown).rd
    obtain ⟨so, co, rfl⟩ := hrd.form
    have HH := Lib.hid (And.intro hown (And.intro hB (below_step HB1.out hB hz1)))
    have hBs := hB.size
    clear hrd
    by_cases hlt : k < N
    · have p1 := (hB.cell (p := ⟨ba, oa + k, none⟩) hba).trans (HCA.out k (by omega))
      have hkS : k + 1 < S.length := by have := HN.out; omega
      have HBK := Lib.hid (fun h => HBAD.out k hkS h)
      have hbr := Lib.hid (fun h => bb_br (t := gs S k) h)
      have hblen := Lib.hid (fun h => bb_len (t := gs S k) h)
      have hbx := Lib.hid (fun h => bb_x (t := gs S k) h)
      have hby := Lib.hid (fun h => bb_y (t := gs S k) h)
      have hbyes := Lib.hid (fun h1 h2 h3 h4 => bb_yes (t := gs S k) h1 h2 h3 h4)
      have hsx := Lib.hid (show ryM S (k + 1) = ryM S k ++ [sqT (gs (bbW (gs S k)) 0), sqT (gs (bbW (gs S k)) 1)] from rfl)
      have htz := hgz.out k (by omega)
      clear hown hB
      obtain ⟨t, ht⟩ : ∃ t, t = gs S k := ⟨_, rfl⟩
      have HTK := Lib.hid ht
      rw [← ht] at p1 HBK hbr hblen hbx hby hbyes hsx htz
      have hbt := get_bt t
      clear ht
      by_cases ht0 : t.size = 0
      · have hne2 := str_nil ht0
        have HB := Lib.hid (HBK.out (hbr.out (by omega)))
        go_wp2
        go_ret2
        exact BADX.out _ HB.out HH.out.2.2
      have hne2 := str_ne (s := t) (by omega)
      by_cases h40 : bt t 0 = 40
      rotate_left
      · have hq : (bt t 0 != 40) = true := by simpa using h40
        have HB := Lib.hid (HBK.out (hbr.out (fun h => h40 h.2)))
        go_wp2
        go_ret2
        exact BADX.out _ HB.out HH.out.2.2
      have hq0 : (bt t 0 != 40) = false := by simpa using h40
      have H0 := Lib.hid (show 1 ≤ t.size ∧ bt t 0 = 40 from ⟨by omega, h40⟩)
      obtain ⟨q, hq⟩ : ∃ q, t.extract 1 t.size = q := ⟨_, rfl⟩
      have hqs : q = sub t 1 t.size := hq.symm
      have hqz : q.size ≤ 1048576 := by rw [hqs, sub_size (Nat.le_refl _)]; omega
      have hsp2 := fun W => l01Split_any q 44 W hqz
      rw [show spL q 44 = bbW t by rw [hqs]; rfl] at hsp2
      have hsp2 := Lib.hid hsp2
      clear hqs hqz h40
      go_wp2_with fail
      refine (hsp2.out _).mono ?_
      rintro e w2 ⟨u, rfl, hu, hb⟩
      have hB2 := below_step HH.out.2.2 hb HH.out.2.2.size
      have hBw := Lib.hid hb
      have hs2 := hb.size
      obtain ⟨lb, b, cb, rfl, hbb⟩ := hu.rd
      clear hu hb hsp2
      by_cases hl : (bbW t).length = 2
      rotate_left
      · have HB := Lib.hid (HBK.out (hblen.out hl))
        have HB2 := Lib.hid hB2
        have hl' : ¬ ((bbW t).length : Int) = 2 := by omega
        have hl2 : (((bbW t).length : Int) != 2) = true := by simp; omega
        obtain ⟨M, hM⟩ : ∃ M, M = (bbW t).length := ⟨_, rfl⟩
        rw [← hM] at hl' hl2 ⊢
        clear hM hl hbb lb hB2
        go_wp2
        go_ret2
        exact BADX.out _ HB.out HB2.out
      rw [hl] at hbb ⊢
      obtain ⟨bb, ob, rfl, hlb, hcb⟩ := hbb (by omega)
      have p0 := hcb 0 (by omega)
      have p2 := hcb 1 (by omega)
      rw [Nat.add_zero] at p0
      have HL := Lib.hid hl
      have hcb := Lib.hid hcb
      clear hbb lb hl
      obtain ⟨X, hX⟩ : ∃ X, X = gs (bbW t) 0 := ⟨_, rfl⟩
      obtain ⟨Y, hY⟩ : ∃ Y, Y = gs (bbW t) 1 := ⟨_, rfl⟩
      rw [← hX] at p0 hbx hbyes hsx
      rw [← hY] at p2 hby hbyes hsx
      clear hX hY hcb
      have hrx := Lib.hid (fun W => l05Read_any X W)
      have hry := Lib.hid (fun W => l05Read_any Y W)
      go_wp2_with fail
      refine (hrx.out _).mono ?_
      rintro e w3 ⟨a1, x1, rfl, hb, hT1⟩
      have hs3 := hb.size
      have hlb3 := Nat.lt_of_lt_of_le hlb hb.size
      have hA3 := (Below.refl w3.heap.size w3).alloc (Nat.le_refl _) (.cells #[.int .i64 a1, .bool x1] 33)
      replace p2 := (hA3.cell (p := ⟨bb, ob + 1, none⟩) hlb3).trans ((hb.cell (p := ⟨bb, ob + 1, none⟩) hlb).trans p2)
      have k0 : (w3.alloc (.cells #[.int .i64 a1, .bool x1] 33)).cell? ⟨w3.heap.size, 0, none⟩ = some (.int .i64 a1) := by simp
      have k1 : (w3.alloc (.cells #[.int .i64 a1, .bool x1] 33)).cell? ⟨w3.heap.size, 1, none⟩ = some (.bool x1) := by simp
      have hltA : w3.heap.size < (w3.alloc (.cells #[.int .i64 a1, .bool x1] 33)).heap.size := by simp
      have B3 := Lib.hid ((below_step hBw.out hb hs2).alloc (Nat.le_trans hs2 hs3) (.cells #[.int .i64 a1, .bool x1] 33))
      have HT1 := Lib.hid hT1
      clear hb hT1 hA3 hB2 p0 p1
      go_wp2_with fail
      refine (hry.out _).mono ?_
      rintro e w4 ⟨a2, x2, rfl, hb, hT2⟩
      have hs4 := hb.size
      have hA4 := (Below.refl w4.heap.size w4).alloc (Nat.le_refl _) (.cells #[.int .i64 a2, .bool x2] 33)
      replace k0 := (hA4.cell (p := ⟨w3.heap.size, 0, none⟩) (Nat.lt_of_lt_of_le hltA hs4)).trans ((hb.cell (p := ⟨w3.heap.size, 0, none⟩) hltA).trans k0)
      replace k1 := (hA4.cell (p := ⟨w3.heap.size, 1, none⟩) (Nat.lt_of_lt_of_le hltA hs4)).trans ((hb.cell (p := ⟨w3.heap.size, 1, none⟩) hltA).trans k1)
      have B4 := Lib.hid ((below_step B3.out hb B3.out.size).alloc (Nat.le_trans B3.out.size hs4) (.cells #[.int .i64 a2, .bool x2] 33))
      have HT2 := Lib.hid hT2
      have hH4 : (w4.alloc (.cells #[.int .i64 a2, .bool x2] 33)).heap.size = w4.heap.size + 1 := by simp
      have hw34 : ¬ w4.heap.size = w3.heap.size := by simp at hs4; omega
      clear hb hT2 hA4 p2 hs4
      have HO := Lib.hid (And.intro (row_below HH.out.1 B4.out) (And.intro (below_step HH.out.2.1 B4.out hBs) (below_step HH.out.2.2 B4.out HH.out.2.2.size)))
      cases ok1 : sqB X
      · have HB := Lib.hid (HBK.out (hbx.out ok1))
        clear ok1
        go_wp2
        go_ret2
        exact BADX.out _ HB.out HO.out.2.2
      cases ok2 : sqB Y
      · have HB := Lib.hid (HBK.out (hby.out ok2))
        clear ok1 ok2
        go_wp2
        go_ret2
        exact BADX.out _ HB.out HO.out.2.2
      have HG := Lib.hid (hbyes.out H0.out HL.out ok1 ok2)
      have HSX := Lib.hid (show ryM S (k + 1) = ryM S k ++ [(a1, x1), (a2, x2)] by rw [hsx.out, HT1.out ok1, HT2.out ok2])
      clear ok1 ok2
      go_wp2_with (at_builtin; refine push_sync (x := (a1, x1)) (y := (a2, x2)) rfl _ _ rfl rfl (w4.heap.size + 1) rfl hH4.symm HO.out.1 HO.out.2.1.size (by omega) ?_; intro v' w' hown' hb')
      go_roundw
      case rel =>
        refine ⟨k + 1, by omega, by go_num, by rw [HSX.out]; exact hown', HO.out.2.1.trans hb', Lib.hid (fun j hj => ?_)⟩
        by_cases hjk : j = k
        · rw [hjk, ← HTK.out]; exact HG.out
        · exact HT.out j (by omega)
      case measure => simp [intOf]; omega
    · obtain rfl : k = N := by omega
      have hO : OwnT 35 2 wr w1.heap.size wr.heap.size _ k (ryM S k) := ownT_of (ryM_length S k) (by omega) hown
      have HO := Lib.hid (hO.mono hz1 (Nat.le_refl _))
      clear hO hown hB
      by_cases hk0 : k = 0
      · have HB := Lib.hid (HLEN.out (by have := HN.out; omega))
        have hd : ¬ (0 : Int) < (k : Int) := by omega
        have hd2 : decide ((0 : Int) < (k : Int)) = false := decide_eq_false hd
        clear hk0
        go_wp2
        go_ret2
        exact ⟨_, k, ryM S k, by rw [HF.out, HB.out]; simp; omega, HO.out, HH.out.2.2, fun h => by rw [HF.out, HB.out] at h; cases h⟩
      · have HB := Lib.hid (HYES.out hLX.out (by have := HN.out; omega) (fun j hj => HT.out j (by have := HN.out; omega)))
        have hd : (0 : Int) < (k : Int) := by omega
        have hd2 : decide ((0 : Int) < (k : Int)) = true := decide_eq_true hd
        clear hk0
        go_wp2
        go_ret2
        exact ⟨_, k, ryM S k, by rw [HF.out, HB.out]; simp; omega, HO.out, HH.out.2.2, fun _ => ⟨HNT.out.1.symm, HNT.out.2.symm⟩⟩
end Go.Proofs.Ytfeihkpaigadkaa
