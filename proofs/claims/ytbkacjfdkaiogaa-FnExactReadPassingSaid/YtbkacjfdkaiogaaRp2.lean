/-
  Contracts of ReadPassing (chapter 6), of the reference. No condition beyond each contract's own.
-/
import Derived.Test.YtbkacjfdkaiogaaRp1
import Derived.Test.YtbkacjfdkaiogaaVal
import Derived.Deep.RegionHeld3
namespace Go.Proofs.Ytbkacjfdkaiogaa
open Go.ChangeShapes Go.WideShapes Go.ChangeAt Go.RowKit

open Go.PlainAid

set_option maxRecDepth 20000 in
set_option maxHeartbeats 8000000 in
theorem l06Throws_any (t : ByteArray) (w : World) (hs : t.size ≤ 1048576) :
    Calls Try.prog 17 #[.string t] w fun e w' => ∃ (u : Value) (T : List Th), e = .returned (.tuple #[u, .bool (goT (spL t 32))]) ∧ OwnT 42 1 w' w.heap.size w'.heap.size u T.length T ∧ Below w.heap.size w w' ∧ (goT (spL t 32) = true → T = thL (spL t 32)) := by
  have hsp := Lib.hid (l01Split_any t 32 w hs)
  obtain ⟨S, hS⟩ : ∃ S, S = spL t 32 := ⟨_, rfl⟩
  have hln := (spL_length t 32).2
  rw [← hS] at hsp hln ⊢
  clear hS
  go_enter Try.func17, Try.ntmps17
  go_wp2_with fail
  refine hsp.out.mono ?_
  rintro e w1 ⟨u, rfl, hu, hb1⟩
  obtain ⟨la, a, ca, rfl, ha⟩ := hu.rd
  have HB1 := Lib.hid hb1
  have hz1 := hb1.size
  clear hu hb1
  go_wp2
  go_loopw [5, 6] (fun o i wr => ∃ k : Nat, k ≤ S.length ∧ i = .int .i64 k ∧ wr.ownsRow w1.heap.size 42 2 o k (cT (tkM S k)) ∧ Below w1.heap.size w1 wr ∧ Hid (∀ j, j < k → tkB (gs S j) = true)) (fun _ i _ => S.length - (intOf i).toNat)
  case atStart => exact ⟨0, Nat.zero_le _, rfl, pass_made w1, below_pass w1, fun j hj => absurd hj (Nat.not_lt_zero j)⟩
  case round =>
    obtain ⟨k, hk, rfl, hown, hB, HT⟩ := hrel
    by_cases hlt : k < S.length
    · obtain ⟨ba, oa, rfl, hba, hca⟩ := ha (by omega)
      have p1 := (hB.cell (p := ⟨ba, oa + k, none⟩) hba).trans (hca k hlt)
      have HS := Lib.hid (tkM_succ hlt)
      have HH := Lib.hid (And.intro hown hB)
      clear hown hB ha hca
      have hbad := Lib.hid (fun h => goT_bad hlt (tkB_no h))
      have hgood := Lib.hid (fun h => tkB_yes (t := gs S k) h)
      have h1T := Lib.hid (fun h => tkT_one (t := gs S k) h)
      have h2T := Lib.hid (fun h => tkT_two (t := gs S k) h)
      have hbt := get_bt (gs S k)
      have hv := Lib.hid (fun W => l04Value_any (bt (gs S k) 0) W (bt_nonneg _ _) (bt_le _ _))
      obtain ⟨x, hx⟩ : ∃ x, x = gs S k := ⟨_, rfl⟩
      have HX := Lib.hid hx
      rw [← hx] at p1 hbad hgood HS hbt hv h1T h2T
      clear hx
      have hcase : x.size = 0 ∨ x.size = 1 ∨ (x.size = 2 ∧ bt x 1 = 112) ∨ (x.size = 2 ∧ bt x 1 ≠ 112) ∨ 2 < x.size := by omega
      rcases hcase with h | h | ⟨h, h'⟩ | ⟨h, h'⟩ | h
      · have hne := str_nil h
        have HBD := Lib.hid (hbad.out (by omega))
        go_wp2
        go_ret2
        first | exact ⟨_, [], by rw [HBD.out]; rfl, ownT_nil _ _ _ _ _, below_step HB1.out HH.out.2 hz1, fun h => by rw [HBD.out] at h; cases h⟩ | exact ⟨_, by rw [HBD.out]; rfl, [], ownT_nil _ _ _ _ _, below_step HB1.out HH.out.2 hz1, fun h => by rw [HBD.out] at h; cases h⟩
      · have hne := str_ne (s := x) (by omega)
        have HG := Lib.hid (hgood.out (by omega))
        have HTK := Lib.hid (HS.out.trans (congrArg (fun y => tkM S k ++ [y]) (h1T.out h)))
        go_wp2_with (first | (go_at_call 24; refine (hv.out _).mono ?_; rintro e w' ⟨rfl, rfl⟩) | (at_builtin; refine push_pass (x := (hexV (bt x 0), false)) rfl _ _ rfl rfl wr.heap.size rfl rfl HH.out.1 HH.out.2.size (by omega) ?_; intro v' w' hown' hb'))
        go_roundw
        case rel =>
          refine ⟨k + 1, by omega, by go_num, by rw [HTK.out]; exact hown', HH.out.2.trans hb', Lib.hid (fun j hj => ?_)⟩
          by_cases hjk : j = k
          · rw [hjk, ← HX.out]; exact HG.out
          · exact HT.out j (by omega)
        case measure => simp [intOf]; omega
      · have hne := str_ne (s := x) (by omega)
        have hq : (bt x 1 != 112) = false := by simpa using h'
        have HG := Lib.hid (hgood.out (by omega))
        have HTK := Lib.hid (HS.out.trans (congrArg (fun y => tkM S k ++ [y]) (h2T.out h)))
        go_wp2_with (first | (go_at_call 24; refine (hv.out _).mono ?_; rintro e w' ⟨rfl, rfl⟩) | (at_builtin; refine push_pass (x := (hexV (bt x 0), true)) rfl _ _ rfl rfl wr.heap.size rfl rfl HH.out.1 HH.out.2.size (by omega) ?_; intro v' w' hown' hb'))
        go_roundw
        case rel =>
          refine ⟨k + 1, by omega, by go_num, by rw [HTK.out]; exact hown', HH.out.2.trans hb', Lib.hid (fun j hj => ?_)⟩
          by_cases hjk : j = k
          · rw [hjk, ← HX.out]; exact HG.out
          · exact HT.out j (by omega)
        case measure => simp [intOf]; omega
      · have hne := str_ne (s := x) (by omega)
        have hq : (bt x 1 != 112) = true := by simpa using h'
        have HBD := Lib.hid (hbad.out (by omega))
        go_wp2
        go_ret2
        first | exact ⟨_, [], by rw [HBD.out]; rfl, ownT_nil _ _ _ _ _, below_step HB1.out HH.out.2 hz1, fun h => by rw [HBD.out] at h; cases h⟩ | exact ⟨_, by rw [HBD.out]; rfl, [], ownT_nil _ _ _ _ _, below_step HB1.out HH.out.2 hz1, fun h => by rw [HBD.out] at h; cases h⟩
      · have hne := str_ne (s := x) (by omega)
        have HBD := Lib.hid (hbad.out (by omega))
        go_wp2
        go_ret2
        first | exact ⟨_, [], by rw [HBD.out]; rfl, ownT_nil _ _ _ _ _, below_step HB1.out HH.out.2 hz1, fun h => by rw [HBD.out] at h; cases h⟩ | exact ⟨_, by rw [HBD.out]; rfl, [], ownT_nil _ _ _ _ _, below_step HB1.out HH.out.2 hz1, fun h => by rw [HBD.out] at h; cases h⟩
    · obtain rfl : k = S.length := by omega
      have hO : OwnT 42 1 wr w1.heap.size wr.heap.size _ (thL S).length (thL S) := ownT_of (by simp) (by rw [thL_length]; omega) (by rw [thL_length]; exact hown)
      have HL := Lib.hid (l06List_any _ (thL S) wr hO.rd)
      have HG := Lib.hid (goT_yes HT.out)
      have HO := Lib.hid (And.intro hO hB)
      clear hO hown hB
      go_wp2_with (go_at_call 25; refine HL.out.mono ?_; rintro e w' ⟨rfl, rfl⟩)
      go_ret2
      exact ⟨_, thL S, by rw [HG.out]; rfl, HO.out.1.mono hz1 (Nat.le_refl _), below_step HB1.out HO.out.2 hz1, fun _ => rfl⟩

theorem cell_two {w : World} {B b : Nat} (h : ¬ B = b) {u v x : Value} {o : Nat} (k : w.cell? ⟨b, o, none⟩ = some x) : ((w.setCell ⟨B, 0, none⟩ u).setCell ⟨B, 1, none⟩ v).cell? ⟨b, o, none⟩ = some x :=
  (World.cell?_setCell_other _ _ _ _ (by intro e; first | exact h (congrArg Addr.block e) | exact h (congrArg Addr.block e).symm)).trans ((World.cell?_setCell_other _ _ _ _ (by intro e; first | exact h (congrArg Addr.block e) | exact h (congrArg Addr.block e).symm)).trans k)
/-- What the reading of a text answers. -/
def rqPost (s : ByteArray) (w : World) (e : Ending) (w' : World) : Prop :=
  ∃ (a b : Value) (A B : List Th) (ok : Bool), e = .returned (.tuple #[.agg #[a, b], .bool ok]) ∧ OwnP w' w.heap.size w'.heap.size a b A B ∧ Below w.heap.size w w' ∧ rqP s A B ok
set_option maxRecDepth 20000 in
set_option maxHeartbeats 8000000 in
theorem l06Read_any (s : ByteArray) (w : World) (hs : s.size ≤ 1048576) :
    Calls Try.prog 9 #[.string s] w (rqPost s w) := by
  have hbt := get_bt s
  by_cases h2 : s.size < 2
  · have HR := Lib.hid (rq_br (s := s) (fun h => by omega))
    go_enter Try.func9, Try.ntmps9
    go_wp2
    refine bodyPost_ret (v := .tuple #[.agg #[.slice none 0 0, .slice none 0 0], .bool false]) (by simp [results, Try.results9, go_sem]) rfl ⟨_, _, [], [], false, rfl, ownP_nil _ _ _, box_below _ _, ⟨fun h => absurd h (by simp), fun _ => HR.out⟩⟩
  obtain ⟨m, hm⟩ : ∃ m, s.size = m + 1 := ⟨s.size - 1, by omega⟩
  by_cases h60 : bt s 0 = 60
  rotate_left
  · have HR := Lib.hid (rq_br (s := s) (fun h => h60 h.2.1))
    have hq : (bt s 0 != 60) = true := by simpa using h60
    go_enter Try.func9, Try.ntmps9
    go_wp2
    refine bodyPost_ret (v := .tuple #[.agg #[.slice none 0 0, .slice none 0 0], .bool false]) (by simp [results, Try.results9, go_sem]) rfl ⟨_, _, [], [], false, rfl, ownP_nil _ _ _, box_below _ _, ⟨fun h => absurd h (by simp), fun _ => HR.out⟩⟩
  have hq0 : (bt s 0 != 60) = false := by simpa using h60
  by_cases h62 : bt s m = 62
  rotate_left
  · have HR := Lib.hid (rq_br (s := s) (fun h => h62 (by have := h.2.2; rwa [hm] at this)))
    have hq : (bt s m != 62) = true := by simpa using h62
    go_enter Try.func9, Try.ntmps9
    go_wp2
    refine bodyPost_ret (v := .tuple #[.agg #[.slice none 0 0, .slice none 0 0], .bool false]) (by simp [results, Try.results9, go_sem]) rfl ⟨_, _, [], [], false, rfl, ownP_nil _ _ _, box_below _ _, ⟨fun h => absurd h (by simp), fun _ => HR.out⟩⟩
  have hq1 : (bt s m != 62) = false := by simpa using h62
  have HBR := Lib.hid (show 2 ≤ s.size ∧ bt s 0 = 60 ∧ bt s (s.size - 1) = 62 from ⟨by omega, h60, by rw [hm]; exact h62⟩)
  clear h60 h62
  have hin : s.extract 1 m = inn s := by unfold inn sub; rw [hm]; rfl
  have hisz : (inn s).size ≤ 1048576 := by unfold inn; rw [sub_size (by omega)]; omega
  have hsp := Lib.hid (fun W => l01Split_any (inn s) 124 W hisz)
  have hgz := Lib.hid (fun k (h : k < (rqW s).length) => Nat.le_trans (gs_size (t := inn s) (c := 124) (k := k) h) hisz)
  obtain ⟨q, hq⟩ : ∃ q, q = inn s := ⟨_, rfl⟩
  rw [← hq] at hin hsp
  rw [show spL q 124 = rqW s by rw [hq]; rfl] at hsp
  clear hq hisz
  go_enter Try.func9, Try.ntmps9
  go_wp2_with fail
  generalize hW : World.alloc w _ = wb
  have r0 : wb.cell? ⟨w.heap.size, 0, none⟩ = some (.slice none 0 0) := by rw [← hW]; simp
  have r1 : wb.cell? ⟨w.heap.size, 1, none⟩ = some (.slice none 0 0) := by rw [← hW]; simp
  have z0 : wb.frozen? ⟨w.heap.size, 0, none⟩ = false := by rw [← hW]; simp
  have z1 : wb.frozen? ⟨w.heap.size, 1, none⟩ = false := by rw [← hW]; simp
  have hlt : w.heap.size < wb.heap.size := by rw [← hW]; simp
  have hB : Below w.heap.size w wb := by rw [← hW]; exact box_below _ _
  clear hW
  refine (hsp.out _).mono ?_
  rintro e w1 ⟨u, rfl, hu, hb⟩
  replace r0 := (hb.cell (p := ⟨w.heap.size, 0, none⟩) hlt).trans r0
  replace r1 := (hb.cell (p := ⟨w.heap.size, 1, none⟩) hlt).trans r1
  replace z0 := (hb.frozen (p := ⟨w.heap.size, 0, none⟩) hlt).trans z0
  replace z1 := (hb.frozen (p := ⟨w.heap.size, 1, none⟩) hlt).trans z1
  replace hlt := Nat.lt_of_lt_of_le hlt hb.size
  replace hB := below_step hB hb hB.size
  have hs1 := hb.size
  have hw1 : w.heap.size < w1.heap.size := hlt
  obtain ⟨la, a, ca, rfl, ha⟩ := hu.rd
  clear hu hb hsp
  by_cases hl : (rqW s).length = 2
  rotate_left
  · have HR := Lib.hid (rq_len hl)
    have hl' : ¬ ((rqW s).length : Int) = 2 := by omega
    have hl2 : (((rqW s).length : Int) != 2) = true := by simp; omega
    obtain ⟨N, hN⟩ : ∃ N, N = (rqW s).length := ⟨_, rfl⟩
    rw [← hN] at hl' hl2 ⊢
    clear hN hl ha la hgz
    go_wp2
    refine bodyPost_ret (v := .tuple #[.agg #[.slice none 0 0, .slice none 0 0], .bool false]) (by simp [results, Try.results9, go_sem, r0, r1]) rfl ⟨_, _, [], [], false, rfl, ownP_nil _ _ _, (hB.setCell (p := ⟨w.heap.size, 0, none⟩) (Nat.le_refl _) _).setCell (p := ⟨w.heap.size, 1, none⟩) (Nat.le_refl _) _, ⟨fun h => absurd h (by simp), fun _ => HR.out⟩⟩
  rw [hl] at ha ⊢
  obtain ⟨ba, oa, rfl, hba, hca⟩ := ha (by omega)
  have p0 := hca 0 (by omega)
  have p1 := hca 1 (by omega)
  rw [Nat.add_zero] at p0
  have hxz := hgz.out 0 (by omega)
  have hyz := hgz.out 1 (by omega)
  have htX := Lib.hid (fun W => l06Throws_any (gs (rqW s) 0) W hxz)
  have htY := Lib.hid (fun W => l06Throws_any (gs (rqW s) 1) W hyz)
  have HL := Lib.hid hl
  obtain ⟨x, hx⟩ : ∃ x, x = gs (rqW s) 0 := ⟨_, rfl⟩
  obtain ⟨y, hy⟩ : ∃ y, y = gs (rqW s) 1 := ⟨_, rfl⟩
  rw [← hx] at p0 htX
  rw [← hy] at p1 htY
  rw [show spL x 32 = rqX s by rw [hx]; rfl] at htX
  rw [show spL y 32 = rqY s by rw [hy]; rfl] at htY
  clear hx hy hxz hyz hca ha hl hgz la
  go_wp2_with fail
  refine (htX.out _).mono ?_
  rintro e w2 ⟨u1, T1, rfl, hu1, hb, hT1⟩
  replace r0 := (hb.cell (p := ⟨w.heap.size, 0, none⟩) hlt).trans r0
  replace r1 := (hb.cell (p := ⟨w.heap.size, 1, none⟩) hlt).trans r1
  replace z0 := (hb.frozen (p := ⟨w.heap.size, 0, none⟩) hlt).trans z0
  replace z1 := (hb.frozen (p := ⟨w.heap.size, 1, none⟩) hlt).trans z1
  replace hlt := Nat.lt_of_lt_of_le hlt hb.size
  replace hB := below_step hB hb hB.size
  replace p1 := (hb.cell (p := ⟨ba, oa + 1, none⟩) hba).trans p1
  have hs2 := hb.size
  obtain ⟨s1, c1, rfl⟩ := hu1.rd.form
  have HU1 := Lib.hid hu1
  have HT1 := Lib.hid hT1
  clear hb hu1 hT1 htX p0
  go_wp2_with fail
  refine (htY.out _).mono ?_
  rintro e w3 ⟨u2, T2, rfl, hu2, hb, hT2⟩
  replace r0 := (hb.cell (p := ⟨w.heap.size, 0, none⟩) hlt).trans r0
  replace r1 := (hb.cell (p := ⟨w.heap.size, 1, none⟩) hlt).trans r1
  replace z0 := (hb.frozen (p := ⟨w.heap.size, 0, none⟩) hlt).trans z0
  replace z1 := (hb.frozen (p := ⟨w.heap.size, 1, none⟩) hlt).trans z1
  replace hlt := Nat.lt_of_lt_of_le hlt hb.size
  replace hB := below_step hB hb hB.size
  have hs3 := hb.size
  have hw3 : w.heap.size < w3.heap.size := hlt
  have hne1 : ¬ w3.heap.size = w.heap.size := by omega
  have hne2 : ¬ w.heap.size = w3.heap.size := by omega
  obtain ⟨s2, c2, rfl⟩ := hu2.rd.form
  have HU := Lib.hid (ownP_of (HU1.out.below hb) hu2 hs2 hs3)
  have HT2 := Lib.hid hT2
  clear hb hu2 hT2 htY p1
  have hA := (Below.refl w3.heap.size w3).alloc (Nat.le_refl _) (.cells #[.slice s1 T1.length c1, .slice s2 T2.length c2] 24)
  replace r0 := (hA.cell (p := ⟨w.heap.size, 0, none⟩) hlt).trans r0
  replace r1 := (hA.cell (p := ⟨w.heap.size, 1, none⟩) hlt).trans r1
  replace z0 := (hA.frozen (p := ⟨w.heap.size, 0, none⟩) hlt).trans z0
  replace z1 := (hA.frozen (p := ⟨w.heap.size, 1, none⟩) hlt).trans z1
  replace hlt := Nat.lt_of_lt_of_le hlt hA.size
  replace hB := below_step hB hA hB.size
  have HSH := Lib.hid (fun W (hW : Below (w3.alloc (.cells #[.slice s1 T1.length c1, .slice s2 T2.length c2] 24)).heap.size (w3.alloc (.cells #[.slice s1 T1.length c1, .slice s2 T2.length c2] 24)) W) => l06Shape_any _ T1 T2 W ((rdQ_box HU.out.rd).below hW))
  have HU4 := Lib.hid (HU.out.below hA)
  have hs4 : w3.heap.size < (w3.alloc (.cells #[.slice s1 T1.length c1, .slice s2 T2.length c2] 24)).heap.size := by simp
  have k0 : (w3.alloc (.cells #[.slice s1 T1.length c1, .slice s2 T2.length c2] 24)).cell? ⟨w3.heap.size, 0, none⟩ = some (.slice s1 T1.length c1) := by simp
  have k1 : (w3.alloc (.cells #[.slice s1 T1.length c1, .slice s2 T2.length c2] 24)).cell? ⟨w3.heap.size, 1, none⟩ = some (.slice s2 T2.length c2) := by simp
  clear hA
  have HGX := Lib.hid (fun h => rq_x (s := s) h)
  have HGY := Lib.hid (fun h => rq_y (s := s) h)
  have HYES := Lib.hid (fun h3 h4 => rq_yes HBR.out HL.out h3 h4)
  have HHB := Lib.hid hB
  clear hB
  cases hgx : goT (rqX s) <;> cases hgy : goT (rqY s)
  all_goals
    rw [hgx] at HT1
    rw [hgy] at HT2
    have H1 := Lib.hid hgx
    have H2 := Lib.hid hgy
    clear hgx hgy
    go_wp2
    generalize (w3.alloc (.cells #[.slice s1 T1.length c1, .slice s2 T2.length c2] 24)) = w4 at *
    first
    | (have hgf : goT (rqX s) = false := H1.out
       clear hgf
       go_region)
    | (go_region_held3 (fun w' => w'.cell? ⟨w3.heap.size, 0, none⟩ = some (.slice s1 T1.length c1) ∧ w'.cell? ⟨w3.heap.size, 1, none⟩ = some (.slice s2 T2.length c2))
        (first | exact ⟨k0, k1⟩ | exact ⟨cell_two hne2 k0, cell_two hne2 k1⟩ | go_keep)
        (first | (go_at_call 18; refine (HSH.out _ (Below.refl _ _).drew).mono ?_; rintro e w5 ⟨rfl, n5, rfl⟩) | fail))
    all_goals
      go_wp2
      have DR := (Below.refl ((w4.setCell ⟨w.heap.size, 0, none⟩ (.slice s1 T1.length c1)).setCell ⟨w.heap.size, 1, none⟩ (.slice s2 T2.length c2)).heap.size ((w4.setCell ⟨w.heap.size, 0, none⟩ (.slice s1 T1.length c1)).setCell ⟨w.heap.size, 1, none⟩ (.slice s2 T2.length c2))).drew
      first
      | (refine bodyPost_ret (v := .tuple #[.agg #[.slice s1 T1.length c1, .slice s2 T2.length c2], .bool false]) (by simp [results, Try.results9, go_sem, r0, r1]) rfl ⟨_, _, T1, T2, false, rfl, (((HU4.out.kept (((Chg.refl _ _ _).setCell (p := ⟨w.heap.size, 0, none⟩) _ (Nat.le_refl _) (Nat.lt_succ_self _)).setCell (p := ⟨w.heap.size, 1, none⟩) _ (Nat.le_refl _) (Nat.lt_succ_self _)) (.inr hw1)).mono (by omega) (by simp; omega)).below DR), (below_step ((HHB.out.setCell (p := ⟨w.heap.size, 0, none⟩) (Nat.le_refl _) _).setCell (p := ⟨w.heap.size, 1, none⟩) (Nat.le_refl _) _) DR (by simp; omega)), ⟨fun h => absurd h (by simp), fun _ => ?_⟩⟩
         first
         | exact HGX.out H1.out
         | exact HGY.out H2.out)
      | (refine bodyPost_ret (v := .tuple #[.agg #[.slice s1 T1.length c1, .slice s2 T2.length c2], .bool (shB T1 T2)]) (by simp [results, Try.results9, go_sem, r0, r1]) rfl ⟨_, _, T1, T2, shB T1 T2, rfl, (((HU4.out.below (below_dn w4 _)).kept (((Chg.refl _ _ _).setCell (p := ⟨w.heap.size, 0, none⟩) _ (Nat.le_refl _) (Nat.lt_succ_self _)).setCell (p := ⟨w.heap.size, 1, none⟩) _ (Nat.le_refl _) (Nat.lt_succ_self _)) (.inr hw1)).mono (by omega) (by simp; omega)), (((below_step HHB.out (below_dn w4 _) HHB.out.size).setCell (p := ⟨w.heap.size, 0, none⟩) (Nat.le_refl _) _).setCell (p := ⟨w.heap.size, 1, none⟩) (Nat.le_refl _) _), ⟨fun h => ⟨HYES.out H1.out H2.out, HT1.out trivial, HT2.out trivial⟩, fun h => rq_sh (by rw [← HT1.out trivial, ← HT2.out trivial]; exact h)⟩⟩)
end Go.Proofs.Ytbkacjfdkaiogaa
