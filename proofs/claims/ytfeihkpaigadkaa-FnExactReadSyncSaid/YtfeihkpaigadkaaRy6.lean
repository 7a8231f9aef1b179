/-
  Contracts of ReadSync (chapter 5), of the reference and of the program, last part. No condition beyond each contract's own.
-/
import Derived.Test.YtfeihkpaigadkaaRy5
namespace Go.Proofs.Ytfeihkpaigadkaa
open Go.ChangeShapes Go.WideShapes Go.ChangeAt Go.RowKit

open Go.PlainAid

/-- A text ends with a star. -/
def rsS (s : ByteArray) : Bool := decide (1 ≤ s.size ∧ bt s (s.size - 1) = 42)
def rsQ (s : ByteArray) : ByteArray := sub s 0 (s.size - 1)
def rsB (s : ByteArray) : Bool := if rsS s = true then (ryF (rsQ s) && (stC (ryT (rsQ s)) (ryN (rsQ s)) == 0)) else (ryF s && validY (ryT s) (ryN s))
def rsN (s : ByteArray) : Nat := if rsS s = true then (if ryF (rsQ s) then stN (ryT (rsQ s)) (ryN (rsQ s)) else 0) else (if rsB s then ryN s else 0)
def rsT (s : ByteArray) : List Th := if rsS s = true then (if ryF (rsQ s) then stL (ryT (rsQ s)) (ryN (rsQ s)) else []) else (if rsB s then ryT s else [])

set_option maxRecDepth 20000 in
set_option maxHeartbeats 8000000 in
theorem specReadSync_any (s : ByteArray) (w : World) (hs : s.size ≤ 1048576) :
    Calls Try.prog 4 #[.string s] w fun e w' => ∃ u, e = .returned (.tuple #[u, .bool (rsB s)]) ∧ OwnT 35 2 w' w.heap.size w'.heap.size u (rsN s) (rsT s) ∧ Below w.heap.size w w' := by
  have hbt := get_bt s
  by_cases hst : 1 ≤ s.size ∧ bt s (s.size - 1) = 42
  · have HST := Lib.hid (show rsS s = true from decide_eq_true hst)
    obtain ⟨m, hm⟩ : ∃ m, s.size = m + 1 := ⟨s.size - 1, by omega⟩
    have h42 : bt s m = 42 := by have := hst.2; rwa [hm] at this
    have hq1 : (bt s m == 42) = true := by simpa using h42
    have hne := str_ne hst.1
    have hqq : s.extract 0 m = rsQ s := by rw [rsQ, hm]; rfl
    have hqz : (rsQ s).size ≤ 1048576 := by rw [rsQ, sub_size (by omega)]; omega
    have hr := Lib.hid (fun W => l05Beats_any (rsQ s) W hqz)
    have HDB := Lib.hid (show rsB s = (ryF (rsQ s) && (stC (ryT (rsQ s)) (ryN (rsQ s)) == 0)) by rw [rsB, if_pos HST.out])
    have HDN := Lib.hid (show rsN s = if ryF (rsQ s) then stN (ryT (rsQ s)) (ryN (rsQ s)) else 0 by rw [rsN, if_pos HST.out])
    have HDT := Lib.hid (show rsT s = if ryF (rsQ s) then stL (ryT (rsQ s)) (ryN (rsQ s)) else [] by rw [rsT, if_pos HST.out])
    obtain ⟨q, hq⟩ : ∃ q, q = rsQ s := ⟨_, rfl⟩
    rw [← hq] at hqq hr HDB HDN HDT
    clear hq hqz hst h42
    go_enter Try.func4, Try.ntmps4
    go_wp2_with fail
    refine (hr.out _).mono ?_
    rintro e w1 ⟨u, n, T, rfl, hu, hb, hP⟩
    obtain ⟨so, co, rfl⟩ := hu.rd.form
    have hs1 := hb.size
    cases hf : ryF q
    · have HB := Lib.hid (show rsB s = false by rw [HDB.out, hf]; rfl)
      have HN := Lib.hid (show rsN s = 0 by rw [HDN.out, hf]; rfl)
      have HT := Lib.hid (show rsT s = [] by rw [HDT.out, hf]; rfl)
      clear hP hf
      go_wp2
      go_ret2
      exact ⟨_, by rw [HB.out]; rfl, by rw [HN.out, HT.out]; exact ownT_nil _ _ _ _ _, hb⟩
    · obtain ⟨hn, hT⟩ := hP hf
      rw [← hn, ← hT, hf] at HDB HDN HDT
      have hss := Lib.hid (specStarSync_any _ n T w1 hu.rd)
      have HU := Lib.hid hb
      clear hn hT hP hf hu hb
      go_wp2_with fail
      refine hss.out.mono ?_
      rintro e w2 ⟨u2, rfl, hu2, hb2⟩
      obtain ⟨so2, co2, rfl⟩ := hu2.rd.form
      have HU2 := Lib.hid (And.intro hu2 hb2)
      clear hu2 hb2
      go_wp2
      go_ret2
      exact ⟨_, by rw [HDB.out]; rfl, by rw [HDN.out, HDT.out]; exact HU2.out.1.mono hs1 (Nat.le_refl _), below_step HU.out HU2.out.2 hs1⟩
  have HST := Lib.hid (show rsS s = false from decide_eq_false hst)
  have hr := Lib.hid (fun W => l05Beats_any s W hs)
  by_cases h0 : s.size = 0
  · have hne := str_nil h0
    clear hst
    go_enter Try.func4, Try.ntmps4
    go_wp2_with fail
    refine (hr.out _).mono ?_
    rintro e w1 ⟨u, n, T, rfl, hu, hb, hP⟩
    obtain ⟨so, co, rfl⟩ := hu.rd.form
    have hs1 := hb.size
    have hv := fun W (hW : Below w1.heap.size w1 W) => l05Ok_any _ n T W (hu.rd.below hW)
    have HU := Lib.hid (And.intro hu hb)
    clear hu hb
    cases hf : ryF s
    · have HB := Lib.hid (show rsB s = false by rw [rsB, if_neg (by rw [HST.out]; simp), hf]; rfl)
      have HN := Lib.hid (show rsN s = 0 by rw [rsN, if_neg (by rw [HST.out]; simp), HB.out]; rfl)
      have HT := Lib.hid (show rsT s = [] by rw [rsT, if_neg (by rw [HST.out]; simp), HB.out]; rfl)
      clear hv hP hf
      go_wp2
      go_ret2
      exact ⟨_, by rw [HB.out]; rfl, by rw [HN.out, HT.out]; exact ownT_nil _ _ _ _ _, HU.out.2⟩
    · obtain ⟨hn, hT⟩ := hP hf
      have HNT := Lib.hid (And.intro hn hT)
      have HRB := Lib.hid (show rsB s = validY T n by rw [rsB, if_neg (by rw [HST.out]; simp), hf, hn, hT]; rfl)
      have HRN := Lib.hid (show rsN s = if rsB s then n else 0 by rw [rsN, if_neg (by rw [HST.out]; simp), hn])
      have HRT := Lib.hid (show rsT s = if rsB s then T else [] by rw [rsT, if_neg (by rw [HST.out]; simp), hT])
      clear hn hT hP hf
      have hv2 := hv
      clear hv
      cases hval : validY T n
      all_goals
        rw [hval] at hv2 HRB
        have HV := Lib.hid hv2
        clear hv2 hval
        go_wp2_with fail
        refine (HV.out _ (Below.refl _ _)).mono ?_
        rintro e w2 ⟨rfl, hb2⟩
        have HB2 := Lib.hid hb2
        clear hb2
        go_wp2
        go_ret2
      · exact ⟨_, by rw [HRB.out]; rfl, by rw [HRN.out, HRT.out, HRB.out]; exact ownT_nil _ _ _ _ _, below_step HU.out.2 HB2.out hs1⟩
      · exact ⟨_, by rw [HRB.out]; rfl, by rw [HRN.out, HRT.out, HRB.out]; exact (HU.out.1.below HB2.out).mono (Nat.le_refl _) HB2.out.size, below_step HU.out.2 HB2.out hs1⟩
  · obtain ⟨m, hm⟩ : ∃ m, s.size = m + 1 := ⟨s.size - 1, by omega⟩
    have h42 : ¬ bt s m = 42 := fun h => hst ⟨by omega, by rw [hm]; exact h⟩
    have hq1 : (bt s m == 42) = false := by simpa using h42
    have hne := str_ne (s := s) (by omega)
    clear hst h42
    go_enter Try.func4, Try.ntmps4
    go_wp2_with fail
    refine (hr.out _).mono ?_
    rintro e w1 ⟨u, n, T, rfl, hu, hb, hP⟩
    obtain ⟨so, co, rfl⟩ := hu.rd.form
    have hs1 := hb.size
    have hv := fun W (hW : Below w1.heap.size w1 W) => l05Ok_any _ n T W (hu.rd.below hW)
    have HU := Lib.hid (And.intro hu hb)
    clear hu hb
    cases hf : ryF s
    · have HB := Lib.hid (show rsB s = false by rw [rsB, if_neg (by rw [HST.out]; simp), hf]; rfl)
      have HN := Lib.hid (show rsN s = 0 by rw [rsN, if_neg (by rw [HST.out]; simp), HB.out]; rfl)
      have HT := Lib.hid (show rsT s = [] by rw [rsT, if_neg (by rw [HST.out]; simp), HB.out]; rfl)
      clear hv hP hf
      go_wp2
      go_ret2
      exact ⟨_, by rw [HB.out]; rfl, by rw [HN.out, HT.out]; exact ownT_nil _ _ _ _ _, HU.out.2⟩
    · obtain ⟨hn, hT⟩ := hP hf
      have HNT := Lib.hid (And.intro hn hT)
      have HRB := Lib.hid (show rsB s = validY T n by rw [rsB, if_neg (by rw [HST.out]; simp), hf, hn, hT]; rfl)
      have HRN := Lib.hid (show rsN s = if rsB s then n else 0 by rw [rsN, if_neg (by rw [HST.out]; simp), hn])
      have HRT := Lib.hid (show rsT s = if rsB s then T else [] by rw [rsT, if_neg (by rw [HST.out]; simp), hT])
      clear hn hT hP hf
      have hv2 := hv
      clear hv
      cases hval : validY T n
      all_goals
        rw [hval] at hv2 HRB
        have HV := Lib.hid hv2
        clear hv2 hval
        go_wp2_with fail
        refine (HV.out _ (Below.refl _ _)).mono ?_
        rintro e w2 ⟨rfl, hb2⟩
        have HB2 := Lib.hid hb2
        clear hb2
        go_wp2
        go_ret2
      · exact ⟨_, by rw [HRB.out]; rfl, by rw [HRN.out, HRT.out, HRB.out]; exact ownT_nil _ _ _ _ _, below_step HU.out.2 HB2.out hs1⟩
      · exact ⟨_, by rw [HRB.out]; rfl, by rw [HRN.out, HRT.out, HRB.out]; exact (HU.out.1.below HB2.out).mono (Nat.le_refl _) HB2.out.size, below_step HU.out.2 HB2.out hs1⟩

set_option maxRecDepth 20000 in
set_option maxHeartbeats 8000000 in
theorem implReadSync_any (s : ByteArray) (w : World) (hs : s.size ≤ 1048576) :
    Calls Try.prog 5 #[.string s] w fun e w' => ∃ u, e = .returned (.tuple #[u, .bool (rsB s)]) ∧ OwnT 35 2 w' w.heap.size w'.heap.size u (rsN s) (rsT s) ∧ Below w.heap.size w w' := by
  have hbt := get_bt s
  by_cases hst : 1 ≤ s.size ∧ bt s (s.size - 1) = 42
  · have HST := Lib.hid (show rsS s = true from decide_eq_true hst)
    obtain ⟨m, hm⟩ : ∃ m, s.size = m + 1 := ⟨s.size - 1, by omega⟩
    have h42 : bt s m = 42 := by have := hst.2; rwa [hm] at this
    have hq1 : (bt s m == 42) = true := by simpa using h42
    have hne := str_ne hst.1
    have hqq : s.extract 0 m = rsQ s := by rw [rsQ, hm]; rfl
    have hqz : (rsQ s).size ≤ 1048576 := by rw [rsQ, sub_size (by omega)]; omega
    have hr := Lib.hid (fun W => readSyncBeats_any (rsQ s) W hqz)
    have HDB := Lib.hid (show rsB s = (ryF (rsQ s) && (stC (ryT (rsQ s)) (ryN (rsQ s)) == 0)) by rw [rsB, if_pos HST.out])
    have HDN := Lib.hid (show rsN s = if ryF (rsQ s) then stN (ryT (rsQ s)) (ryN (rsQ s)) else 0 by rw [rsN, if_pos HST.out])
    have HDT := Lib.hid (show rsT s = if ryF (rsQ s) then stL (ryT (rsQ s)) (ryN (rsQ s)) else [] by rw [rsT, if_pos HST.out])
    obtain ⟨q, hq⟩ : ∃ q, q = rsQ s := ⟨_, rfl⟩
    rw [← hq] at hqq hr HDB HDN HDT
    clear hq hqz hst h42
    go_enter Try.func5, Try.ntmps5
    go_wp2_with fail
    refine (hr.out _).mono ?_
    rintro e w1 ⟨u, n, T, rfl, hu, hb, hP⟩
    obtain ⟨so, co, rfl⟩ := hu.rd.form
    have hs1 := hb.size
    cases hf : ryF q
    · have HB := Lib.hid (show rsB s = false by rw [HDB.out, hf]; rfl)
      have HN := Lib.hid (show rsN s = 0 by rw [HDN.out, hf]; rfl)
      have HT := Lib.hid (show rsT s = [] by rw [HDT.out, hf]; rfl)
      clear hP hf
      go_wp2
      go_ret2
      exact ⟨_, by rw [HB.out]; rfl, by rw [HN.out, HT.out]; exact ownT_nil _ _ _ _ _, hb⟩
    · obtain ⟨hn, hT⟩ := hP hf
      rw [← hn, ← hT, hf] at HDB HDN HDT
      have hss := Lib.hid (implStarSync_any _ n T w1 hu.rd)
      have HU := Lib.hid hb
      clear hn hT hP hf hu hb
      go_wp2_with fail
      refine hss.out.mono ?_
      rintro e w2 ⟨u2, rfl, hu2, hb2⟩
      obtain ⟨so2, co2, rfl⟩ := hu2.rd.form
      have HU2 := Lib.hid (And.intro hu2 hb2)
      clear hu2 hb2
      go_wp2
      go_ret2
      exact ⟨_, by rw [HDB.out]; rfl, by rw [HDN.out, HDT.out]; exact HU2.out.1.mono hs1 (Nat.le_refl _), below_step HU.out HU2.out.2 hs1⟩
  have HST := Lib.hid (show rsS s = false from decide_eq_false hst)
  have hr := Lib.hid (fun W => readSyncBeats_any s W hs)
  by_cases h0 : s.size = 0
  · have hne := str_nil h0
    clear hst
    go_enter Try.func5, Try.ntmps5
    go_wp2_with fail
    refine (hr.out _).mono ?_
    rintro e w1 ⟨u, n, T, rfl, hu, hb, hP⟩
    obtain ⟨so, co, rfl⟩ := hu.rd.form
    have hs1 := hb.size
    have hv := fun W (hW : Below w1.heap.size w1 W) => implValidSync_any _ n T W (hu.rd.below hW)
    have HU := Lib.hid (And.intro hu hb)
    clear hu hb
    cases hf : ryF s
    · have HB := Lib.hid (show rsB s = false by rw [rsB, if_neg (by rw [HST.out]; simp), hf]; rfl)
      have HN := Lib.hid (show rsN s = 0 by rw [rsN, if_neg (by rw [HST.out]; simp), HB.out]; rfl)
      have HT := Lib.hid (show rsT s = [] by rw [rsT, if_neg (by rw [HST.out]; simp), HB.out]; rfl)
      clear hv hP hf
      go_wp2
      go_ret2
      exact ⟨_, by rw [HB.out]; rfl, by rw [HN.out, HT.out]; exact ownT_nil _ _ _ _ _, HU.out.2⟩
    · obtain ⟨hn, hT⟩ := hP hf
      have HNT := Lib.hid (And.intro hn hT)
      have HRB := Lib.hid (show rsB s = validY T n by rw [rsB, if_neg (by rw [HST.out]; simp), hf, hn, hT]; rfl)
      have HRN := Lib.hid (show rsN s = if rsB s then n else 0 by rw [rsN, if_neg (by rw [HST.out]; simp), hn])
      have HRT := Lib.hid (show rsT s = if rsB s then T else [] by rw [rsT, if_neg (by rw [HST.out]; simp), hT])
      clear hn hT hP hf
      have hv2 := hv
      clear hv
      cases hval : validY T n
      all_goals
        rw [hval] at hv2 HRB
        have HV := Lib.hid hv2
        clear hv2 hval
        go_wp2_with fail
        refine (HV.out _ (Below.refl _ _)).mono ?_
        rintro e w2 ⟨rfl, hb2⟩
        have HB2 := Lib.hid hb2
        clear hb2
        go_wp2
        go_ret2
      · exact ⟨_, by rw [HRB.out]; rfl, by rw [HRN.out, HRT.out, HRB.out]; exact ownT_nil _ _ _ _ _, below_step HU.out.2 HB2.out hs1⟩
      · exact ⟨_, by rw [HRB.out]; rfl, by rw [HRN.out, HRT.out, HRB.out]; exact (HU.out.1.below HB2.out).mono (Nat.le_refl _) HB2.out.size, below_step HU.out.2 HB2.out hs1⟩
  · obtain ⟨m, hm⟩ : ∃ m, s.size = m + 1 := ⟨s.size - 1, by omega⟩
    have h42 : ¬ bt s m = 42 := fun h => hst ⟨by omega, by rw [hm]; exact h⟩
    have hq1 : (bt s m == 42) = false := by simpa using h42
    have hne := str_ne (s := s) (by omega)
    clear hst h42
    go_enter Try.func5, Try.ntmps5
    go_wp2_with fail
    refine (hr.out _).mono ?_
    rintro e w1 ⟨u, n, T, rfl, hu, hb, hP⟩
    obtain ⟨so, co, rfl⟩ := hu.rd.form
    have hs1 := hb.size
    have hv := fun W (hW : Below w1.heap.size w1 W) => implValidSync_any _ n T W (hu.rd.below hW)
    have HU := Lib.hid (And.intro hu hb)
    clear hu hb
    cases hf : ryF s
    · have HB := Lib.hid (show rsB s = false by rw [rsB, if_neg (by rw [HST.out]; simp), hf]; rfl)
      have HN := Lib.hid (show rsN s = 0 by rw [rsN, if_neg (by rw [HST.out]; simp), HB.out]; rfl)
      have HT := Lib.hid (show rsT s = [] by rw [rsT, if_neg (by rw [HST.out]; simp), HB.out]; rfl)
      clear hv hP hf
      go_wp2
      go_ret2
      exact ⟨_, by rw [HB.out]; rfl, by rw [HN.out, HT.out]; exact ownT_nil _ _ _ _ _, HU.out.2⟩
    · obtain ⟨hn, hT⟩ := hP hf
      have HNT := Lib.hid (And.intro hn hT)
      have HRB := Lib.hid (show rsB s = validY T n by rw [rsB, if_neg (by rw [HST.out]; simp), hf, hn, hT]; rfl)
      have HRN := Lib.hid (show rsN s = if rsB s then n else 0 by rw [rsN, if_neg (by rw [HST.out]; simp), hn])
      have HRT := Lib.hid (show rsT s = if rsB s then T else [] by rw [rsT, if_neg (by rw [HST.out]; simp), hT])
      clear hn hT hP hf
      have hv2 := hv
      clear hv
      cases hval : validY T n
      all_goals
        rw [hval] at hv2 HRB
        have HV := Lib.hid hv2
        clear hv2 hval
        go_wp2_with fail
        refine (HV.out _ (Below.refl _ _)).mono ?_
        rintro e w2 ⟨rfl, hb2⟩
        have HB2 := Lib.hid hb2
        clear hb2
        go_wp2
        go_ret2
      · exact ⟨_, by rw [HRB.out]; rfl, by rw [HRN.out, HRT.out, HRB.out]; exact ownT_nil _ _ _ _ _, below_step HU.out.2 HB2.out hs1⟩
      · exact ⟨_, by rw [HRB.out]; rfl, by rw [HRN.out, HRT.out, HRB.out]; exact (HU.out.1.below HB2.out).mono (Nat.le_refl _) HB2.out.size, below_step HU.out.2 HB2.out hs1⟩
end Go.Proofs.Ytfeihkpaigadkaa
