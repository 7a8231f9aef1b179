/-
  Contracts of ReadMulti (chapter 4), of the reference. No condition beyond each contract's own.
-/
import Derived.Test.YtenjonopdffjeaaRm1
import Derived.Test.YtenjonopdffjeaaVal
import Derived.Test.YtenjonopdffjeaaM10
import Derived.Deep.RegionHeld3
namespace Go.Proofs.Ytenjonopdffjeaa
open Go.ChangeShapes Go.WideShapes Go.ChangeAt Go.RowKit

open Go.PlainAid

/-- What a beat at place p of a text is read as. -/
def beatP (s : ByteArray) (p : Nat) (R : List (List Int)) (L : List Int) (rest : ByteArray) (ok : Bool) : Prop :=
  (ok = true → ∃ q, rest = sub s q s.size ∧ p < q ∧ q ≤ s.size ∧ pmG s q = some (R ++ [L], none)) ∧ (ok = false → rmB s = false)

set_option maxHeartbeats 4000000 in
theorem l04Beat_any (s : ByteArray) (p : Nat) (R : List (List Int)) (w : World) (hp : p < s.size) (hs : s.size ≤ 1048576) (hG : pmG s p = some (R, none)) :
    Calls Try.prog 16 #[.string (sub s p s.size)] w fun e w' => ∃ (u : Value) (L : List Int) (rest : ByteArray) (ok : Bool), e = .returned (.tuple #[u, .string rest, .bool ok]) ∧ Own w' w.heap.size w'.heap.size u L ∧ Below w.heap.size w w' ∧ beatP s p R L rest ok := by
  have hbt : ∀ n (h : n < (sub s p s.size).size), (((sub s p s.size)[n]'h).toNat : Int) = bt s (p + n) := fun n h => by rw [get_bt, sub_bt (Nat.le_refl _) (by rw [sub_size (Nat.le_refl _)] at h; exact h)]
  have hsz := sub_size (s := s) (i := p) (Nat.le_refl _)
  have hsub := Lib.hid (fun a (h : p + a ≤ s.size) => show (sub s p s.size).extract a (s.size - p) = sub s (p + a) s.size by have := sub_sub (s := s) (i := p) (k := s.size) (a := a) (b := s.size - p) (Nat.le_refl _) (by omega); rw [show p + (s.size - p) = s.size by omega] at this; exact this)
  obtain ⟨t, ht⟩ : ∃ t, t = sub s p s.size := ⟨_, rfl⟩
  rw [← ht] at hbt hsz hsub ⊢
  clear ht
  have hb0 := bt_nonneg s
  have hb1 := bt_le s
  have HB := Lib.hid (And.intro hb0 hb1)
  have HG := Lib.hid hG
  clear hb0 hb1 hG
  by_cases hc : bt s p = 91
  · have HC := Lib.hid (pm_open HG.out hc)
    have hc1 : (bt s p != 91) = false := by simpa using hc
    clear hc
    go_enter Try.func16, Try.ntmps16
    go_wp2
    go_loopw [6, 7] (fun l i wr => ∃ (k : Nat) (L : List Int), 1 ≤ k ∧ k ≤ t.size ∧ i = .int .i64 k ∧ wr.ownsRow w.heap.size 2 1 l L.length (L.map (Value.int .i64)) ∧ L.length + 1 = k ∧ Hid (pmG s (p + k) = some (R, some L)) ∧ Below w.heap.size w wr) (fun _ i _ => t.size - (intOf i).toNat)
    case atStart => exact ⟨1, [], Nat.le_refl _, by omega, rfl, own_made w, rfl, HC, below_made w⟩
    case round =>
      obtain ⟨k, L, h1k, hk, rfl, hown, hlk, HGk, hB⟩ := hrel
      have HO := Lib.hid (And.intro hown hB)
      have hbs := hB.size
      have hb' := hown
      obtain ⟨la, a, ca, hv, qa⟩ := (own_of (by omega) hown).rd
      clear qa la hb'
      subst hv
      clear hown hB
      by_cases hlt : k < t.size
      · by_cases hc : bt s (p + k) = 93
        · have hc1 : (bt s (p + k) == 93) = true := by simpa using hc
          have HQ := Lib.hid hc
          clear hc
          have hcat : IntKind.i64.wrap ((k : Int) + 1) = (k : Int) + 1 := IntWalk.i64_in _ (by omega)
          have hsx := hsub.out (k + 1) (by omega)
          go_wp2
          go_quiet (fail)
          go_wp2
          go_ret3
          refine ⟨_, L, _, _, rfl, (own_of (by omega) HO.out.1).below (below_dn _ _), below_step HO.out.2 (below_dn _ _) HO.out.2.size, ⟨fun h => ⟨p + (k + 1), rfl, by omega, by omega, pm_shut HGk.out HQ.out (by simp at h; omega)⟩, fun h => rm_bad (k := p + k + 1) (by omega) (by rw [pm_bad HGk.out HQ.out (by simp at h; omega)]; trivial)⟩⟩
        · have hc1 : (bt s (p + k) == 93) = false := by simpa using hc
          have HQ := Lib.hid (pm_more HGk.out hc)
          clear hc
          have hv := Lib.hid (fun W => l04Value_any (bt s (p + k)) W (HB.out.1 _) (HB.out.2 _))
          obtain ⟨x, hx⟩ : ∃ x, x = hexV (bt s (p + k)) := ⟨_, rfl⟩
          rw [← hx] at hv HQ
          clear hx
          by_cases hn : x < 0
          · go_wp2_with (go_at_call 27; refine (hv.out _).mono ?_; rintro e w' ⟨rfl, rfl⟩)
            go_ret3
            exact ⟨_, [], _, _, rfl, own_nil _ _ _, HO.out.2, ⟨fun h => absurd h (by simp), fun _ => rm_bad (k := p + k + 1) (by omega) (by rw [HQ.out]; exact Or.inr (ngL_new L hn))⟩⟩
          · go_wp2_with (first | (go_at_call 27; refine (hv.out _).mono ?_; rintro e w' ⟨rfl, rfl⟩) | (at_builtin; refine push_int rfl _ _ rfl rfl rfl HO.out.1 HO.out.2.size (by omega) ?_; intro v' w' hown' hb'))
            go_roundw
            case rel => exact ⟨k + 1, L ++ [x], by omega, by omega, by go_num, hown', by simp; omega, HQ, HO.out.2.trans hb'⟩
            case measure => simp [intOf]; omega
      · have hkt : p + k = s.size := by omega
        have HE := HGk.out
        rw [hkt] at HE
        have HR := Lib.hid (show rmB s = false by rw [rmB, pmR_open HE]; exact vmB_nil)
        clear HE hkt
        go_wp2
        go_ret3
        exact ⟨_, [], _, _, rfl, own_nil _ _ _, HO.out.2, ⟨fun h => absurd h (by simp), fun _ => HR.out⟩⟩
  · have HC := Lib.hid (pm_one HG.out hc)
    have hc1 : (bt s p != 91) = true := by simpa using hc
    have hv := Lib.hid (fun W => l04Value_any (bt s p) W (HB.out.1 p) (HB.out.2 p))
    clear hc
    obtain ⟨x, hx⟩ : ∃ x, x = hexV (bt s p) := ⟨_, rfl⟩
    rw [← hx] at hv HC
    clear hx
    have hsx := hsub.out 1 (by omega)
    go_enter Try.func16, Try.ntmps16
    go_wp2_with (go_at_call 27; refine (hv.out _).mono ?_; rintro e w' ⟨rfl, rfl⟩)
    go_region
    all_goals
      go_wp2
      go_ret3
      refine ⟨_, [x], _, _, rfl, ((own_one w x).mono (Nat.le_refl _) (by simp)).below (Below.refl _ _).drew, ((Below.refl _ _).alloc (Nat.le_refl _) _).drew, ⟨fun h => ⟨p + 1, rfl, by omega, by omega, HC.out⟩, fun h => rm_bad (k := p + 1) (by omega) (by rw [HC.out]; exact bdR_new R (ngL_one (by simp at h; omega)))⟩⟩

def lenOf (v : Value) : Nat := match v with | .string b => b.size | _ => 0
/-- What the beats of a text are read as. -/
def readP (s : ByteArray) (T : List (List Int)) (ok : Bool) : Prop := (ok = true → T = pmR s) ∧ (ok = false → rmB s = false)

set_option maxRecDepth 20000 in
set_option maxHeartbeats 8000000 in
theorem l04Read_any (s : ByteArray) (w : World) (hs : s.size ≤ 1048576) :
    Calls Try.prog 9 #[.string s] w fun e w' => ∃ (a : Value) (T : List (List Int)) (ok : Bool), e = .returned (.tuple #[.agg #[a], .bool ok]) ∧ OwnR w' w.heap.size w'.heap.size a T ∧ Below w.heap.size w w' ∧ readP s T ok := by
  have hall := sub_all s
  go_enter Try.func9, Try.ntmps9
  go_wp2
  obtain ⟨wb, hwb⟩ : ∃ wb, wb = w.alloc (.cells #[.slice none 0 0] 24) := ⟨_, rfl⟩
  rw [← hwb]
  have r0 : wb.cell? ⟨w.heap.size, 0, none⟩ = some (.slice none 0 0) := by rw [hwb]; simp
  have z0 : wb.frozen? ⟨w.heap.size, 0, none⟩ = false := by rw [hwb]; simp
  have hlt : w.heap.size < wb.heap.size := by rw [hwb]; simp
  have hbz : wb.heap.size = w.heap.size + 1 := by rw [hwb]; simp
  have hB : Below w.heap.size w wb := by rw [hwb]; exact box_below _ _
  clear hwb
  rw [← hbz]
  have HB := Lib.hid hB
  have HK := Lib.hid (And.intro r0 z0)
  have HZ := Lib.hid hbz
  clear hB r0 z0 hbz
  go_loopw [0] (fun sv wr => ∃ (p : Nat) (R : List (List Int)) (o : Value), p ≤ s.size ∧ sv = .string (sub s p s.size) ∧ Hid (pmG s p = some (R, none)) ∧ R.length ≤ 12 ∧ OutN wb wr o R) (fun sv _ => lenOf sv)
  case atStart => exact ⟨0, [], _, Nat.zero_le _, by rw [hall], rfl, by simp, outN_start wb _⟩
  case round =>
    obtain ⟨p, R, o, hp, rfl, HG, h12, hout⟩ := hrel
    obtain ⟨qa, g, cc, rfl, qb⟩ := hout.2.2.1.rd
    clear qa qb
    have HO := Lib.hid hout
    have r1 := (hout.2.2.2.1.cell (p := ⟨w.heap.size, 0, none⟩) hlt).trans HK.out.1
    have q1 := (hout.2.2.2.1.frozen (p := ⟨w.heap.size, 0, none⟩) hlt).trans HK.out.2
    have z1 := hout.1
    have hrs := hout.2.2.2.2
    have HB2 := Lib.hid (below_step HB.out hout.2.2.2.1 HB.out.size)
    have hw0 : w.heap.size < wr.heap.size := by omega
    clear hout
    have hsz := Lib.hid (sub_size (s := s) (i := p) (Nat.le_refl _))
    by_cases hlt2 : p < s.size
    · have hbeat := Lib.hid (l04Beat_any s p R wr hlt2 hs HG.out)
      have hne := str_ne (s := sub s p s.size) (by rw [hsz.out]; omega)
      obtain ⟨t, ht⟩ : ∃ t, t = sub s p s.size := ⟨_, rfl⟩
      rw [← ht] at hbeat hne hsz ⊢
      clear ht
      go_wp2_with fail
      refine hbeat.out.mono ?_
      rintro e w3 ⟨u, L, rest, ok, rfl, hu, hb, hP⟩
      obtain ⟨qa, gu, cu, hvu, qb⟩ := hu.rd
      clear qa qb
      subst hvu
      have hs3 := hb.size
      replace r1 := (hb.cell (p := ⟨w.heap.size, 0, none⟩) hw0).trans r1
      replace q1 := (hb.frozen (p := ⟨w.heap.size, 0, none⟩) hw0).trans q1
      replace z1 := (hb.cell (p := ⟨wb.heap.size, 0, none⟩) hrs).trans z1
      have HB3 := Lib.hid (below_step HB2.out hb HB2.out.size)
      have HU := Lib.hid (And.intro hu hb)
      clear hu hb
      cases ok
      · have HR := Lib.hid (hP.2 rfl)
        clear hP
        go_wp2
        refine bodyPost_ret (v := .tuple #[.agg #[.slice none 0 0], .bool false]) (by simp [results, Try.results9, go_sem, r1]) rfl ⟨_, [], false, rfl, ownR_nil _ _ _, HB3.out.setCell (p := ⟨w.heap.size, 0, none⟩) (Nat.le_refl _) _, ⟨fun h => absurd h (by simp), fun _ => HR.out⟩⟩
      · obtain ⟨q, rfl, hq1, hq2, hq⟩ := hP.1 rfl
        have HQ := Lib.hid hq
        clear hP hq
        by_cases hm : 12 ≤ R.length
        · have HR := Lib.hid (rm_bad (s := s) (k := q) hq2 (by rw [HQ.out]; exact Or.inl (by simp; omega)))
          go_wp2
          refine bodyPost_ret (v := .tuple #[.agg #[.slice none 0 0], .bool false]) (by simp [results, Try.results9, go_sem, r1]) rfl ⟨_, [], false, rfl, ownR_nil _ _ _, HB3.out.setCell (p := ⟨w.heap.size, 0, none⟩) (Nat.le_refl _) _, ⟨fun h => absurd h (by simp), fun _ => HR.out⟩⟩
        · have hn := outN_row HO.out HU.out.2 HU.out.1 (.cells #[.slice gu L.length cu] 37)
          have hn4 := hn.2.2.2.1
          have hn8 := hn.2.2.2.2.2.2.2
          have HNR := Lib.hid hn
          have hbd := Lib.hid (pm_bd1 HG.out)
          have hbn := Lib.hid (pm_bd1 HQ.out)
          clear hn
          have hlr := Lib.hid (show L.length ≤ 1048576 by have h1 := hbn.out.2; rw [sumLen_app] at h1; omega)
          go_wp2_with (at_builtin; refine push_row rfl _ _ rfl rfl _ rfl HNR.out.2.2.1 HNR.out.1 HNR.out.2.1 ⟨by omega, by have := hbd.out.2; omega⟩ (by have := hlr.out; omega) HO.out.2.2.2.2 HNR.out.2.2.2.2.2.2.1 ?_; intro v' w' hown' hb'; obtain ⟨qa, g', cc', hv', qb⟩ := hown'.rd; clear qa qb; rw [List.length_append, List.length_singleton] at hv'; subst hv'; have f1 := (hb'.cell (p := ⟨wb.heap.size, 0, none⟩) (Nat.lt_succ_self _)).trans HNR.out.2.2.2.1; have f2 := (hb'.frozen (p := ⟨wb.heap.size, 0, none⟩) (Nat.lt_succ_self _)).trans HNR.out.2.2.2.2.1; have HN := Lib.hid (And.intro hown' hb'); clear hown' hb')
          go_roundw
          case rel => exact ⟨q, R ++ [L], _, hq2, rfl, HQ, by simp; omega, outN_next HNR.out.2.2.2.2.2.1 (Nat.le_trans HO.out.2.2.2.2 HNR.out.2.2.2.2.2.2.1) HNR.out.2.2.2.1 HNR.out.2.2.2.2.1 HN.out.2 HN.out.1⟩
          case measure => simp [lenOf, sub_size]; have := hsz.out; omega
    · obtain rfl : p = s.size := by omega
      have hne := str_nil (s := sub s s.size s.size) (by rw [hsz.out]; omega)
      have HE := Lib.hid (pmR_end HG.out)
      obtain ⟨t, ht⟩ : ∃ t, t = sub s s.size s.size := ⟨_, rfl⟩
      rw [← ht] at hne ⊢
      clear ht
      go_wp2
      refine bodyPost_ret (v := .tuple #[.agg #[.slice g R.length cc], .bool true]) (by simp [results, Try.results9, go_sem, r1]) rfl ⟨_, R, true, rfl, ?_, HB2.out.setCell (p := ⟨w.heap.size, 0, none⟩) (Nat.le_refl _) _, ⟨fun _ => HE.out.symm, fun h => absurd h (by simp)⟩⟩
      exact (HO.out.2.2.1.kept ((Chg.refl _ _ _).setCell (p := ⟨w.heap.size, 0, none⟩) _ (Nat.le_refl _) (Nat.lt_succ_self _)) (.inr (Nat.le_trans (Nat.le_of_eq HZ.out.symm) (Nat.le_succ _)))).mono (by have := HZ.out; omega) (by simp)

set_option maxRecDepth 20000 in
set_option maxHeartbeats 4000000 in
theorem specReadM_any (s : ByteArray) (w : World) (hs : s.size ≤ 1048576) :
    Calls Try.prog 4 #[.string s] w fun e w' => ∃ a, e = .returned (.tuple #[.agg #[a], .bool (rmB s)]) ∧ OwnR w' w.heap.size w'.heap.size a (rmL s) ∧ Below w.heap.size w w' := by
  have hr := Lib.hid (fun W => l04Read_any s W hs)
  go_enter Try.func4, Try.ntmps4
  go_wp2_with fail
  generalize hW : (World.alloc w _) = wb
  have r0 : wb.cell? ⟨w.heap.size, 0, none⟩ = some (.slice none 0 0) := by rw [← hW]; simp
  have z0 : wb.frozen? ⟨w.heap.size, 0, none⟩ = false := by rw [← hW]; simp
  have hlt : w.heap.size < wb.heap.size := by rw [← hW]; simp
  have hB : Below w.heap.size w wb := by rw [← hW]; exact box_below _ _
  clear hW
  refine (hr.out wb).mono ?_
  rintro e w1 ⟨u, T, ok, rfl, hu, hb, hP⟩
  obtain ⟨s1, c1, rfl⟩ := hu.rd.form
  replace r0 := (hb.cell (p := ⟨w.heap.size, 0, none⟩) hlt).trans r0
  replace z0 := (hb.frozen (p := ⟨w.heap.size, 0, none⟩) hlt).trans z0
  replace hB := below_step hB hb hB.size
  have hlt1 := Nat.lt_of_lt_of_le hlt hb.size
  have hA := (Below.refl w1.heap.size w1).alloc (Nat.le_refl _) (.cells #[.slice s1 T.length c1] 24)
  have r1 := (hA.cell (p := ⟨w.heap.size, 0, none⟩) hlt1).trans r0
  have z1 := (hA.frozen (p := ⟨w.heap.size, 0, none⟩) hlt1).trans z0
  have hB1 := below_step hB hA hB.size
  have hbs := hb.size
  have HA := Lib.hid hA
  have HU := Lib.hid hu
  have HB0 := Lib.hid (And.intro hB r0)
  clear hA hu hb hB r0 z0
  cases ok
  · have hR := hP.2 rfl
    have HRB := Lib.hid hR
    have HR := Lib.hid (show rmL s = [] by rw [rmL, hR]; rfl)
    have HB1 := Lib.hid hB1
    have hA2 := (Below.refl (w1.setCell ⟨w.heap.size, 0, none⟩ (.slice none 0 0)).heap.size (w1.setCell ⟨w.heap.size, 0, none⟩ (.slice none 0 0))).alloc (Nat.le_refl _) (.cells #[.slice s1 T.length c1] 24)
    have e1 := (hA2.cell (p := ⟨w.heap.size, 0, none⟩) (by simp; omega)).trans (World.cell?_setCell_same _ _ _ HB0.out.2)
    clear hR hP hB1 hA2
    go_wp2
    refine bodyPost_ret (v := .tuple #[.agg #[.slice none 0 0], .bool false]) (by simp [results, Try.results4, go_sem, e1]) rfl ⟨_, by rw [HRB.out], by rw [HR.out]; exact ownR_nil _ _ _, (HB0.out.1.setCell (p := ⟨w.heap.size, 0, none⟩) (Nat.le_refl _) _).alloc (by simp; omega) _⟩
  · have hT := hP.1 rfl
    have hv := l04Ok_any _ T _ (rdQM_box HU.out.rd)
    rw [show vmB T = rmB s by rw [hT]; rfl] at hv
    have HT := Lib.hid hT
    clear hT hP
    cases hval : rmB s
    all_goals
      rw [hval] at hv
      have HV := Lib.hid hv
      have HB1 := Lib.hid hB1
      clear hv hB1
      go_wp2_with fail
      refine HV.out.mono ?_
      rintro e w2 ⟨rfl, hb2⟩
      replace r1 := (hb2.cell (p := ⟨w.heap.size, 0, none⟩) (by simp; omega)).trans r1
      replace z1 := (hb2.frozen (p := ⟨w.heap.size, 0, none⟩) (by simp; omega)).trans z1
      have k1 := hb2.cell (p := ⟨w1.heap.size, 0, none⟩) (by simp)
      simp at k1
      have HB2 := Lib.hid (below_step HB1.out hb2 HB1.out.size)
      have HU2 := Lib.hid ((HU.out.below HA.out).below hb2)
      have hs2 := hb2.size
      simp at hs2
      clear hb2
      go_wp2
    · refine bodyPost_ret (v := .tuple #[.agg #[.slice none 0 0], .bool false]) (by simp [results, Try.results4, go_sem, r1]) rfl ⟨_, by rw [hval], by rw [rmL, hval]; exact ownR_nil _ _ _, HB2.out.setCell (p := ⟨w.heap.size, 0, none⟩) (Nat.le_refl _) _⟩
    · refine bodyPost_ret (v := .tuple #[.agg #[.slice s1 T.length c1], .bool true]) (by simp [results, Try.results4, go_sem, r1]) rfl ⟨_, by rw [hval], ?_, HB2.out.setCell (p := ⟨w.heap.size, 0, none⟩) (Nat.le_refl _) _⟩
      rw [rmL, hval, show (if true = true then pmR s else []) = T by rw [HT.out]; rfl]
      exact ((HU2.out.mono (lo' := w.heap.size + 1) hlt (Nat.le_refl _)).kept ((Chg.refl _ _ _).setCell (p := ⟨w.heap.size, 0, none⟩) _ (Nat.le_refl _) (Nat.lt_succ_self _)) (.inr (Nat.le_refl _))).mono (Nat.le_succ _) (by simp; omega)
end Go.Proofs.Ytenjonopdffjeaa
