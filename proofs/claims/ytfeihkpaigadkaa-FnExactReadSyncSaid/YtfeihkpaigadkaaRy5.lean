/-
  Contracts of ReadSync (chapter 5), of the program, second part. No condition beyond each contract's own.
-/
import Derived.Test.YtfeihkpaigadkaaRy4
namespace Go.Proofs.Ytfeihkpaigadkaa
open Go.ChangeShapes Go.WideShapes Go.ChangeAt Go.RowKit

open Go.PlainAid

set_option maxRecDepth 20000 in
set_option maxHeartbeats 16000000 in
theorem readSyncBeats_any (s : ByteArray) (w : World) (hs : s.size ≤ 1048576) :
    Calls Try.prog 12 #[.string s] w (rbPost s w) := by
  have hl1 := (spL_length s 41).1
  have hl2 := (spL_length s 41).2
  have HF := Lib.hid (show ryF s = ryG (spL s 41) from rfl)
  have HNT := Lib.hid (show ryN s = (spL s 41).length - 1 ∧ ryT s = ryM (spL s 41) ((spL s 41).length - 1) from ⟨rfl, rfl⟩)
  obtain ⟨S, hS⟩ : ∃ S, S = spL s 41 := ⟨_, rfl⟩
  have HS0 := Lib.hid hS
  rw [← hS] at hl1 hl2 HF HNT
  clear hS
  have BADX : Hid (∀ (W : World) (h : ryG S = false), Below w.heap.size w W → rbPost s w (.returned (.tuple #[.slice none 0 0, .bool false])) W) := fun W h hB => ⟨_, 0, [], by rw [HF.out, h], ownT_nil _ _ _ _ _, hB, fun hh => by rw [HF.out, h] at hh; cases hh⟩
  have HLAST := Lib.hid (fun h => ryG_last (S := S) h)
  have HLEN := Lib.hid (fun h => ryG_len (S := S) h)
  have HBAD := Lib.hid (fun k hk h => ryG_bad (S := S) (k := k) hk h)
  have HYES := Lib.hid (fun h1 h2 h3 => ryG_yes (S := S) h1 h2 h3)
  go_enter Try.func12, Try.ntmps12
  go_wp2
  go_loopw [0, 4] (fun sv o wr => ∃ (k : Nat) (r : ByteArray), k ≤ 7 ∧ k < S.length ∧ sv = .string r ∧ r.size ≤ 1048576 ∧ Hid (S.drop k = spL r 41) ∧ wr.ownsRow w.heap.size 35 4 o k (cT (ryM S k)) ∧ Below w.heap.size w wr ∧ Hid (∀ j, j < k → bbB (gs S j) = true)) (fun sv _ _ => lenOf sv)
  case atStart => exact ⟨0, s, by omega, by omega, rfl, hs, by show List.drop 0 S = _; rw [List.drop_zero]; exact HS0.out, sync_made w, below_sync w, fun j hj => absurd hj (Nat.not_lt_zero j)⟩
  case round =>
    obtain ⟨k, r, hk7, hkS, rfl, hrz, HD, hown, hB, HT⟩ := hrel
    have hO : OwnT 35 2 wr w.heap.size wr.heap.size _ k (ryM S k) := ownT_of (ryM_length S k) (by omega) hown
    obtain ⟨so, co, rfl⟩ := hO.rd.form
    have HH := Lib.hid (And.intro hown (And.intro hB hO))
    have hBs := hB.size
    clear hown hB hO
    have hare := Lib.hid (areSyncBeats_any _ k (ryM S k) wr HH.out.2.2.rd)
    have HOK := Lib.hid (okY_end (T := ryM S k) (n := k) (ryM_ok k HT.out))
    by_cases hr0 : r.size = 0
    · have hne := str_nil hr0
      have hcf : cuF r 41 = false := by
        cases hf : cuF r 41 with
        | false => rfl
        | true => obtain ⟨j, hj, _⟩ := cuF_has hf; omega
      obtain ⟨e1, e2⟩ := drop_last HD.out hcf
      have HG : Hid (okY (ryM S k) k = ryG S) := by
        show _ = _
        rw [HOK.out]
        by_cases hk : 1 ≤ k ∧ k ≤ 6
        · rw [HYES.out (by rw [e1, show k + 1 - 1 = k by omega, e2]; exact hr0) (by omega) (fun j hj => HT.out j (by omega))]
          exact btw_iff.2 (by omega)
        · rw [HLEN.out (by omega)]
          exact btw_false_iff.2 (by omega)
      have HE := Lib.hid (show ryN s = k ∧ ryT s = ryM S k by rw [HNT.out.1, HNT.out.2, e1]; exact ⟨rfl, rfl⟩)
      clear hcf e1 e2
      go_wp2_with (go_at_call 23; refine hare.out.mono ?_; rintro e w2 ⟨rfl, hb2⟩; refine Hid.out ?_)
      refine Lib.hid ?_
      have HB2 := Lib.hid hb2
      clear hb2
      go_wp2
      go_ret2
      exact ⟨_, k, ryM S k, by rw [HF.out, ← HG.out]; rfl, (HH.out.2.2.below HB2.out).mono (Nat.le_refl _) HB2.out.size, below_step HH.out.2.1 HB2.out hBs, fun _ => ⟨HE.out.1.symm, HE.out.2.symm⟩⟩
    have hne := str_ne (s := r) (by omega)
    by_cases h6 : k ≤ 6
    rotate_left
    · have HB : Hid (ryG S = false) := by
        show _ = _
        cases hf : cuF r 41 with
        | false =>
          obtain ⟨e1, e2⟩ := drop_last HD.out hf
          exact HLAST.out (by rw [e1, show k + 1 - 1 = k by omega, e2]; exact hr0)
        | true =>
          obtain ⟨e1, _⟩ := drop_more HD.out hf
          exact HLEN.out (by omega)
      have HG := Lib.hid (show okY (ryM S k) k = false by rw [HOK.out]; exact btw_false_iff.2 (by omega))
      go_wp2_with (go_at_call 23; refine hare.out.mono ?_; rintro e w2 ⟨rfl, hb2⟩; refine Hid.out ?_)
      refine Lib.hid ?_
      have HB2 := Lib.hid hb2
      clear hb2
      go_wp2
      go_ret2
      exact ⟨_, k, ryM S k, by rw [HF.out, HB.out, ← HG.out]; rfl, (HH.out.2.2.below HB2.out).mono (Nat.le_refl _) HB2.out.size, below_step HH.out.2.1 HB2.out hBs, fun h => by rw [HF.out, HB.out] at h; cases h⟩
    have hbt := get_bt r
    by_cases h40 : bt r 0 = 40
    rotate_left
    · have hq : (bt r 0 != 40) = true := by simpa using h40
      have HB := Lib.hid (ry_first HD.out (by omega) h40)
      clear hare
      go_wp2
      go_ret2
      exact BADX.out _ HB.out HH.out.2.1
    have hq0 : (bt r 0 != 40) = false := by simpa using h40
    obtain ⟨c1, c2, c3⟩ := cut_tail (r := r) (by omega) h40
    have hqz : (sub r 1 r.size).size ≤ 1048576 := by rw [sub_size (Nat.le_refl _)]; omega
    have hcut := fun W => cut41_any (sub r 1 r.size) W hqz
    have hoz := cuA_size (sub r 1 r.size) 41
    rw [c1, c2] at hcut
    obtain ⟨o, ho⟩ : ∃ o, o = cuA (sub r 1 r.size) 41 := ⟨_, rfl⟩
    rw [← ho] at hcut hoz c3
    have hcut2 := Lib.hid (fun W => cut44_any o W (by omega))
    obtain ⟨q, hq⟩ : ∃ q, r.extract 1 r.size = q := ⟨_, rfl⟩
    rw [show sub r 1 r.size = q from hq] at hcut
    have hcut := Lib.hid hcut
    have HC3 := Lib.hid c3
    clear c1 c2 c3 ho hoz hqz hare h40
    obtain ⟨m, hm⟩ : ∃ m, m = cuF r 41 := ⟨_, rfl⟩
    obtain ⟨y, hy⟩ : ∃ y, y = cuB r 41 := ⟨_, rfl⟩
    obtain ⟨lf, hlf⟩ : ∃ lf, lf = cuA o 44 := ⟨_, rfl⟩
    obtain ⟨rt, hrt⟩ : ∃ rt, rt = cuB o 44 := ⟨_, rfl⟩
    obtain ⟨two, htw⟩ : ∃ two, two = cuF o 44 := ⟨_, rfl⟩
    rw [← hm, ← hy] at hcut
    rw [← hlf, ← hrt, ← htw] at hcut2
    have HQ := Lib.hid (And.intro hm (And.intro hy (And.intro hlf (And.intro hrt htw))))
    clear hm hy hlf hrt htw
    have hrl := Lib.hid (fun W => readSyncThrow_any lf W)
    have hrr := Lib.hid (fun W => readSyncThrow_any rt W)
    go_wp2_with fail
    refine (hcut.out _).mono ?_
    rintro e w2 ⟨rfl, hb2⟩
    go_wp2_with fail
    refine (hcut2.out _).mono ?_
    rintro e w3 ⟨rfl, hb3⟩
    have C3 := Lib.hid (below_step hb2 hb3 hb2.size)
    have hs3 := C3.out.size
    clear hb2 hb3
    go_wp2_with fail
    refine (hrl.out _).mono ?_
    rintro e w4 ⟨a1, x1, rfl, hb, hT1⟩
    have hs4 := hb.size
    have k0 : (w4.alloc (.cells #[.int .i64 a1, .bool x1] 33)).cell? ⟨w4.heap.size, 0, none⟩ = some (.int .i64 a1) := by simp
    have k1 : (w4.alloc (.cells #[.int .i64 a1, .bool x1] 33)).cell? ⟨w4.heap.size, 1, none⟩ = some (.bool x1) := by simp
    have hltA : w4.heap.size < (w4.alloc (.cells #[.int .i64 a1, .bool x1] 33)).heap.size := by simp
    have B4 := Lib.hid ((below_step C3.out hb hs3).alloc (Nat.le_trans hs3 hs4) (.cells #[.int .i64 a1, .bool x1] 33))
    have HT1 := Lib.hid hT1
    clear hb hT1
    go_wp2_with fail
    refine (hrr.out _).mono ?_
    rintro e w5 ⟨a2, x2, rfl, hb, hT2⟩
    have hs5 := hb.size
    have hA5 := (Below.refl w5.heap.size w5).alloc (Nat.le_refl _) (.cells #[.int .i64 a2, .bool x2] 33)
    replace k0 := (hA5.cell (p := ⟨w4.heap.size, 0, none⟩) (Nat.lt_of_lt_of_le hltA hs5)).trans ((hb.cell (p := ⟨w4.heap.size, 0, none⟩) hltA).trans k0)
    replace k1 := (hA5.cell (p := ⟨w4.heap.size, 1, none⟩) (Nat.lt_of_lt_of_le hltA hs5)).trans ((hb.cell (p := ⟨w4.heap.size, 1, none⟩) hltA).trans k1)
    have B5 := Lib.hid ((below_step B4.out hb B4.out.size).alloc (Nat.le_trans B4.out.size hs5) (.cells #[.int .i64 a2, .bool x2] 33))
    have HT2 := Lib.hid hT2
    have hH5 : (w5.alloc (.cells #[.int .i64 a2, .bool x2] 33)).heap.size = w5.heap.size + 1 := by simp
    have hw45 : ¬ w5.heap.size = w4.heap.size := by simp at hs5; omega
    clear hb hT2 hA5 hs5
    have HO := Lib.hid (And.intro (row_below HH.out.1 B5.out) (below_step HH.out.2.1 B5.out hBs))
    cases m
    · have HB : Hid (ryG S = false) := by
        show _ = _
        obtain ⟨e1, e2⟩ := drop_last HD.out HQ.out.1.symm
        exact HLAST.out (by rw [e1, show k + 1 - 1 = k by omega, e2]; exact hr0)
      go_wp2
      go_ret2
      exact BADX.out _ HB.out HO.out.2
    obtain ⟨d1, d2, d3, d4⟩ := drop_more HD.out HQ.out.1.symm
    obtain ⟨f1, f2, f3⟩ := HC3.out HQ.out.1.symm
    rw [← d2] at f1 f2 f3
    have HX1 := Lib.hid (fun h => bb_one (t := gs S k) h)
    have HX2 := Lib.hid (fun h1 h2 => bb_badx (t := gs S k) h1 h2)
    have HX3 := Lib.hid (fun h1 h2 => bb_bady (t := gs S k) h1 h2)
    have HX4 := Lib.hid (fun h1 h2 h3 => bb_ok (t := gs S k) ⟨f2, f3⟩ h1 h2 h3)
    rw [← f1] at HX1 HX2 HX3 HX4
    rw [← HQ.out.2.2.2.2] at HX1 HX2 HX3 HX4
    rw [← HQ.out.2.2.1] at HX2 HX4
    rw [← HQ.out.2.2.2.1] at HX3 HX4
    rw [← HQ.out.2.1] at d3 d4
    have HDD := Lib.hid (And.intro d1 (And.intro d3 d4))
    have HBK := Lib.hid (fun h => HBAD.out k d1 h)
    clear d1 d2 d3 d4 f1 f2 f3
    cases two
    · have HB := Lib.hid (HBK.out (HX1.out rfl))
      go_wp2
      go_ret2
      exact BADX.out _ HB.out HO.out.2
    cases ok1 : sqB lf
    · have HB := Lib.hid (HBK.out (HX2.out rfl ok1))
      clear ok1
      go_wp2
      go_ret2
      exact BADX.out _ HB.out HO.out.2
    cases ok2 : sqB rt
    · have HB := Lib.hid (HBK.out (HX3.out rfl ok2))
      clear ok1 ok2
      go_wp2
      go_ret2
      exact BADX.out _ HB.out HO.out.2
    have HG := Lib.hid (HX4.out rfl ok1 ok2)
    have HSX := Lib.hid (show ryM S (k + 1) = ryM S k ++ [(a1, x1), (a2, x2)] by
      show ryM S k ++ [bbX (gs S k), bbY (gs S k)] = _
      rw [HG.out.2.1, HG.out.2.2, HT1.out ok1, HT2.out ok2])
    clear ok1 ok2
    go_wp2_with (at_builtin; refine push_sync (x := (a1, x1)) (y := (a2, x2)) rfl _ _ rfl rfl (w5.heap.size + 1) rfl hH5.symm HO.out.1 HO.out.2.size (by omega) ?_; intro v' w' hown' hb')
    go_roundw
    case rel =>
      refine ⟨k + 1, y, by omega, HDD.out.1, rfl, by have := HDD.out.2.2; omega, HDD.out.2.1, by rw [HSX.out]; exact hown', HO.out.2.trans hb', Lib.hid (fun j hj => ?_)⟩
      by_cases hjk : j = k
      · rw [hjk]; exact HG.out.1
      · exact HT.out j (by omega)
    case measure => exact HDD.out.2.2
end Go.Proofs.Ytfeihkpaigadkaa
