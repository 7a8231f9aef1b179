/-
  The program's sorting of the throws of a beat (chapter 4): its contract. No condition beyond each contract's own.
-/
import Derived.Test.YtloebbeaccjgjaaSo2
namespace Go.Proofs.Ytloebbeaccjgjaa
open Go.ChangeShapes Go.WideShapes Go.ChangeAt Go.RowKit


theorem below_sets {B : Nat} {w : World} (g : Nat) (hg : B ≤ g) : ∀ (vs : List Value) (o : Nat) (W : World), Below B w W → Below B w (W.setCells g o vs)
  | [], _, _, h => h
  | v :: r, o, _, h => below_sets g hg r (o + 1) _ (h.setCell (p := ⟨g, o, none⟩) hg v)
theorem below_grow {B : Nat} {w W : World} (h : Below B w W) (hB : B ≤ W.heap.size) (os : Array Obj) : Below B w (Go.Sort.grow W os) :=
  h.trans ⟨rfl, rfl, rfl, by simp, fun k hk => Go.Sort.heap_grow_old W os (Nat.lt_of_lt_of_le hk hB)⟩
theorem own_sets {lo g n c : Nat} : ∀ (vs : List Int) (o : Nat) (w : World) (zs : List Int), w.ownsRow lo 2 1 (.slice (some ⟨g, 0, none⟩) n c) n (zs.map (Value.int .i64)) → zs.length = n → o + vs.length = n →
    (w.setCells g o (vs.map (Value.int .i64))).ownsRow lo 2 1 (.slice (some ⟨g, 0, none⟩) n c) n ((zs.take o ++ vs).map (Value.int .i64))
  | [], o, _, zs, h, hz, ho => by
    have : zs.take o = zs := List.take_of_length_le (by simp at ho; omega)
    simpa [this, World.setCells] using h
  | v :: r, o, _, zs, h, hz, ho => by
    have h1 := (h.stored o (.int .i64 v)).1
    rw [← List.map_set] at h1
    have h2 := own_sets r (o + 1) _ (zs.set o v) h1 (by simpa using hz) (by simp at ho; omega)
    have e : (zs.set o v).take (o + 1) ++ r = zs.take o ++ v :: r := by
      have hl : o < zs.length := by simp at ho; omega
      rw [List.take_add_one, List.take_set_of_le (Nat.le_refl _)]
      simp [hl]
    rw [e] at h2
    exact h2
theorem row_set {w : World} {lo g n c B o : Nat} {xs : List Value} (h : w.ownsRow lo 2 1 (.slice (some ⟨g, 0, none⟩) n c) n xs) (hg : g ≠ B) (u : Value) : (w.setCell ⟨B, o, none⟩ u).ownsRow lo 2 1 (.slice (some ⟨g, 0, none⟩) n c) n xs := by
  obtain ⟨h1, h2⟩ := h
  refine ⟨h1, ?_⟩
  rcases h2 with ⟨h2, _⟩ | ⟨g', cap, cur, e, hb, hg', r⟩
  · cases h2
  · cases e
    exact .inr ⟨g, c, cur, rfl, hb, by rw [Below.heap_setCell _ _ _ _ (show g ≠ B from hg)]; exact hg', r⟩

/-- 'append(out, x)', and where the new row lies. -/
theorem push_int_l {ops : Array Oper} {rest : List Oper} {o : Oper} {a : Act} {Q : Exit → Act → World → Prop} {w : World} {lo g n c : Nat} {zs : List Int} {x : Int}
    (hgd : o.guard = none) (s xo : Operand) (ho : o.op = .call { callee := .builtin .append, args := #[s, xo], argTypes := #[22, 22] })
    (hs : a.eval s = .slice (some ⟨g, 0, none⟩) n c) (hx : a.eval xo = .slice (some ⟨w.heap.size, 0, none⟩) 1 1) (hown : w.ownsRow lo 2 1 (.slice (some ⟨g, 0, none⟩) n c) n (zs.map (Value.int .i64))) (hlo : lo ≤ w.heap.size) (hl : n ≤ 1048576)
    (h : ∀ g' c' w', w'.ownsRow lo 2 1 (.slice (some ⟨g', 0, none⟩) (n + 1) c') (n + 1) ((zs ++ [x]).map (Value.int .i64)) → Below lo w w' → (∀ k, k < w.heap.size → k ≠ g → w'.heap[k]? = w.heap[k]?) → (g' = g ∨ w.heap.size ≤ g') → wpList Try.prog ops Q rest (a.put o.dst (.slice (some ⟨g', 0, none⟩) (n + 1) c')) w') :
    wpList Try.prog ops Q (o :: rest) a (w.alloc (.cells #[.int .i64 x] 2)) := by
  obtain ⟨i0, hi, hz0, hz1, hz2⟩ := info_parts Try.infoInt64
  refine wpList_append_lies _ hgd s xo 22 ho lo 2 i0 (.int .i64 0) 1 8 Try.underlying22 hi hz0 hz1 hz2 rfl (by decide) _ n _ hs (hown.alloc _) ⟨w.heap.size, 0, none⟩ 1 1 [.int .i64 x] hx rfl (World.news_of_block (heap_alloc_new _ _)) (by intro u hu; simp at hu; subst hu; rfl) (by omega) (by unfold maxLen; omega) (by omega) (by simp; omega) _ rfl ?_
  intro g' c' w' hown' hg hat _
  refine h g' c' w' (by simpa using hown') ?_ (fun k hk hne => (hg.block k (by simp; omega) (fun h => hne (by simpa [Value.ownBlock] using h))).trans (((Below.refl w.heap.size w).alloc (Nat.le_refl _) _).block _ hk)) ?_
  · exact ((Below.refl _ _).alloc hlo _).grown hg (by simp; omega) (fun k hk => by have := (hown.lt k hk).1; omega)
  · rcases hat with hat | hat
    · simp [Value.ownBlock] at hat; exact .inl hat.symm
    · rw [hat]; simp

set_option maxRecDepth 20000 in
set_option maxHeartbeats 4000000 in
theorem sortBeat_any (v : Value) (L : List Int) (w : World) (hL : Rd w v L) (hl : L.length ≤ 1048576) :
    Calls Try.prog 24 #[v] w fun e w' => ∃ u, e = .returned u ∧ Own w' w.heap.size w'.heap.size u (srtB L) ∧ Below w.heap.size w w' := by
  obtain ⟨_, a, ca, rfl, ha⟩ := hL
  go_enter Try.func24, Try.ntmps24
  go_wp2
  go_loopw [9] (fun i wr => ∃ (k g c : Nat), k ≤ L.length ∧ i = .int .i64 k ∧ wr.cell? ⟨w.heap.size + 1, 0, none⟩ = some (.slice (some ⟨g, 0, none⟩) (nzL (L.take k)).length c) ∧ wr.frozen? ⟨w.heap.size + 1, 0, none⟩ = false ∧ wr.ownsRow w.heap.size 2 1 (.slice (some ⟨g, 0, none⟩) (nzL (L.take k)).length c) (nzL (L.take k)).length ((nzL (L.take k)).map (Value.int .i64)) ∧ g ≠ w.heap.size + 1 ∧ w.heap.size + 1 < wr.heap.size ∧ Below w.heap.size w wr) (fun i _ => L.length - (intOf i).toNat)
  case atStart => exact ⟨0, w.heap.size, 0, Nat.zero_le _, rfl, by simp [nzL], by simp, by
      have := (own_made w).alloc (.cells #[.slice (some ⟨w.heap.size, 0, none⟩) 0 0] 22)
      simpa [nzL] using this, by omega, by simp, (below_made w).alloc (by simp) _⟩
  case round =>
    obtain ⟨k, g, c, hk, rfl, hc0, hf0, hown, hne, hlt0, hB⟩ := hrel
    have hM := nz_len L k
    by_cases hlt : k < L.length
    · obtain ⟨ba, oa, rfl, hba, hca⟩ := ha (by omega)
      have p1 := (hB.cell (p := ⟨ba, oa + k, none⟩) hba).trans (hca k hlt)
      have HN1 := Lib.hid (fun hz => nz_zero (L := L) (k := k) hlt hz)
      have HN2 := Lib.hid (fun hz => nz_pos (L := L) (k := k) hlt hz)
      obtain ⟨t, ht⟩ : ∃ t, t = gi L k := ⟨_, rfl⟩
      obtain ⟨M, hMe⟩ : ∃ M, M = nzL (L.take k) := ⟨_, rfl⟩
      rw [← ht] at p1 HN1 HN2
      rw [← hMe] at hc0 hown hM HN1 HN2
      have H := Lib.hid (And.intro hown hB)
      clear hown hB hca ha ht hMe
      by_cases hz : 0 < t
      · have HZ := Lib.hid (HN2.out hz)
        clear HN1 HN2
        go_wp2_with (at_builtin; refine push_int_l (x := t) (zs := M) rfl _ _ rfl rfl rfl H.out.1 H.out.2.size (by omega) ?_; intro g' c' w' hown' hb' hkk hat; have f1 := (hb'.size); have f2 : w'.cell? ⟨w.heap.size + 1, 0, none⟩ = some (.slice (some ⟨g, 0, none⟩) M.length c) := (by rw [← hc0]; unfold World.cell?; rw [hkk _ hlt0 (Ne.symm hne)]); have f3 : w'.frozen? ⟨w.heap.size + 1, 0, none⟩ = false := (by rw [← hf0]; unfold World.frozen?; rw [hkk _ hlt0 (Ne.symm hne)]); have HP := Lib.hid (And.intro hown' (And.intro hb' hat)); clear hown' hb' hkk hat)
        go_roundw
        case rel => exact ⟨k + 1, g', c', by omega, by go_num, by rw [HZ.out, List.length_append, List.length_singleton]; exact World.cell?_setCell_same _ _ _ f2, by simpa using f3, by rw [HZ.out, List.length_append, List.length_singleton]; exact row_set HP.out.1 (by have := HP.out.2.2; omega) _, by have := HP.out.2.2; omega, by simp; omega, (H.out.2.trans HP.out.2.1).setCell (p := ⟨w.heap.size + 1, 0, none⟩) (Nat.le_succ _) _⟩
        case measure => simp [intOf]; omega
      · have HZ := Lib.hid (HN1.out hz)
        clear HN1 HN2
        go_wp2
        go_roundw
        case rel => exact ⟨k + 1, g, c, by omega, by go_num, by rw [HZ.out]; exact hc0, hf0, by rw [HZ.out]; exact H.out.1, hne, hlt0, H.out.2⟩
        case measure => simp [intOf]; omega
    · obtain rfl : k = L.length := by omega
      rw [List.take_length] at hc0 hown hM
      clear ha
      obtain ⟨M, hMe⟩ : ∃ M, M = nzL L := ⟨_, rfl⟩
      rw [← hMe] at hc0 hown hM
      have HS : Hid (∀ ys, Desc ys → ys.Perm M → srtB L = if ys = [] then [0] else ys) := fun ys h1 h2 => by rw [srtB, ← srt_unique h1 (by rw [← hMe]; exact h2)]
      clear hMe
      by_cases hM0 : M = []
      · subst hM0
        have HS0 := Lib.hid (HS.out [] List.Pairwise.nil (List.Perm.refl _))
        rw [if_pos rfl] at HS0
        go_wp2
        go_ret
        exact ⟨_, rfl, by rw [HS0.out]; exact (own_of (by simp) (own_one1 wr 0)).mono hB.size (Nat.le_refl _), hB.alloc hB.size _⟩
      · have hlM : 1 ≤ M.length := by cases M with
          | nil => exact absurd rfl hM0
          | cons _ _ => simp
        have hgl := hown.lt g rfl
        by_cases hM1 : M.length = 1
        · have HS1 := Lib.hid (HS.out M (by match M, hM1 with | [x], _ => exact List.pairwise_singleton _ _) (List.Perm.refl _))
          rw [if_neg hM0] at HS1
          have HO := Lib.hid (And.intro hown hB)
          clear HS hown hB
          rw [hM1] at hc0
          go_wp2_with fail
          refine (sort_one (some ⟨g, 0, none⟩) c (w.heap.size + 1) wr).mono ?_
          rintro e w2 ⟨rfl, os, rfl⟩
          have hc2 := (Go.Sort.cell?_grow wr os ⟨w.heap.size + 1, 0, none⟩ hlt0).trans hc0
          have hbg := below_grow (Below.refl wr.heap.size wr) (Nat.le_refl _) os
          have HG := Lib.hid (And.intro (row_below HO.out.1 hbg) (HO.out.2.trans (hbg.mono HO.out.2.size)))
          clear hbg
          generalize Go.Sort.grow wr os = w3 at *
          go_wp2
          go_ret
          exact ⟨_, rfl, by rw [HS1.out]; exact own_of (by omega) (by have := HG.out.1; rw [hM1] at this ⊢; exact this), HG.out.2⟩
        · have hH : Go.Sort.Holds (Value.int .i64) wr g 0 M.toArray := fun j hj => by
            have hj' : j < M.length := by simpa using hj
            refine ⟨?_, hown.frozenAt _⟩
            rw [Nat.zero_add, hown.cellAt j (by omega)]
            simp [hj']
          have hS := sort_many g c (w.heap.size + 1) M.toArray (by simp; omega) (by simp; omega) wr hH hgl.2 (by simpa using hc0) hlt0 (Ne.symm hne)
          rw [List.size_toArray] at hS
          have HSS := Lib.hid hS
          have HO := Lib.hid (And.intro hown (And.intro hB hH))
          clear hown hB hS hH
          go_wp2_with fail
          refine HSS.out.mono ?_
          rintro e w2 ⟨rfl, d', n, os, hd, hp, hsz, rfl⟩
          have e2 := Go.Lib.sorted_world (Value.int .i64) wr g 0 n M.toArray d'.toList os HO.out.2.2 (by simp; omega)
          rw [Array.toArray_toList] at e2
          rw [e2]
          clear e2
          have HS1 := Lib.hid (HS.out d'.toList hd hp)
          have hl' : d'.toList.length = M.length := by simp; simpa using hsz
          rw [if_neg (fun h => by rw [h] at hl'; simp at hl'; omega)] at HS1
          have hB2 := below_sets (B := w.heap.size) (w := w) g hgl.1 (d'.toList.map (Value.int .i64)) 0 (wr.drewN n) (below_step HO.out.2.1 (below_dn wr n) HO.out.2.1.size)
          have hz2 := below_sets (B := g) (w := wr.drewN n) g (Nat.le_refl _) (d'.toList.map (Value.int .i64)) 0 (wr.drewN n) (Below.refl _ _)
          have hr2 := own_sets d'.toList 0 (wr.drewN n) M HO.out.1 rfl (by omega)
          have hc2 : ((wr.drewN n).setCells g 0 (d'.toList.map (Value.int .i64))).cell? ⟨w.heap.size + 1, 0, none⟩ = some (.slice (some ⟨g, 0, none⟩) M.length c) := (World.cell?_setCells_out g _ 0 _ ⟨w.heap.size + 1, 0, none⟩ (fun h => absurd h.symm hne)).trans hc0
          have hsz2 := hz2.size
          clear hz2
          generalize (wr.drewN n).setCells g 0 (d'.toList.map (Value.int .i64)) = w3 at *
          have hc3 := (Go.Sort.cell?_grow w3 os ⟨w.heap.size + 1, 0, none⟩ (Nat.lt_of_lt_of_le hlt0 hsz2)).trans hc2
          have hbg := below_grow (Below.refl w3.heap.size w3) (Nat.le_refl _) os
          have HG := Lib.hid (And.intro (row_below hr2 hbg) (hB2.trans (hbg.mono hB2.size)))
          clear hbg hc2 hr2 hB2 hsz2 hd hp hsz
          generalize Go.Sort.grow w3 os = w4 at *
          go_wp2
          go_ret
          exact ⟨_, rfl, by rw [HS1.out]; exact own_of (by omega) (by have := HG.out.1; simp only [List.take_zero, List.nil_append] at this; rw [hl']; exact this), HG.out.2⟩
end Go.Proofs.Ytloebbeaccjgjaa
