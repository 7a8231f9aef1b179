/-
  Contracts of the functions on synchronous patterns (chapter 5), fourth part: props, mirrors, stars, slides. No condition beyond each contract's own.
-/
import Derived.Test.YtfeihkpaigadkaaY3
import Derived.Deep.RegionHeld3
import Derived.Deep.AppendLies
namespace Go.Proofs.Ytfeihkpaigadkaa
open Go.ChangeShapes Go.WideShapes Go.ChangeAt Go.RowKit


theorem row_mono {w : World} {b b' size n : Nat} {e : TypeId} {v : Value} {xs : List Value} (h : w.ownsRow b e size v n xs) (hb : b' ≤ b) : w.ownsRow b' e size v n xs :=
  ⟨h.1, h.2.imp id fun ⟨g, cap, cur, h1, h2, h3⟩ => ⟨g, cap, cur, h1, Nat.le_trans hb h2, h3⟩⟩
theorem sumT2 (T : List Th) (k : Nat) : sumT T ((k + 1) * 2) = sumT T (k * 2) + ((gt T (k * 2)).1 + (gt T (k * 2 + 1)).1) := by
  rw [show (k + 1) * 2 = k * 2 + 1 + 1 by omega]
  simp only [sumT]
  omega

/-- 'append(out, b)' of one beat onto a slice of the call's own, behind the new block that holds b. -/
theorem push_sync {ops : Array Oper} {rest : List Oper} {o : Oper} {a : Act} {Q : Exit → Act → World → Prop} {w : World} {lo n : Nat} {v : Value} {T : List Th} {x y : Th}
    (hgd : o.guard = none) (s xo : Operand) (ho : o.op = .call { callee := .builtin .append, args := #[s, xo], argTypes := #[22, 22] })
    (hs : a.eval s = v) (H : Nat) (hx : a.eval xo = .slice (some ⟨H, 0, none⟩) 1 1) (hH : H = w.heap.size) (hown : w.ownsRow lo 35 4 v n (cT T)) (hlo : lo ≤ w.heap.size) (hl : n ≤ 1000000000)
    (h : ∀ v' w', w'.ownsRow lo 35 4 v' (n + 1) (cT (T ++ [x, y])) → Below lo w w' → wpList Try.prog ops Q rest (a.put o.dst v') w') :
    wpList Try.prog ops Q (o :: rest) a (w.alloc (.cells #[.int .i64 x.1, .bool x.2, .int .i64 y.1, .bool y.2] 35)) := by
  obtain ⟨i0, hi, hz0, hz1, hz2⟩ := info_parts Try.infoSync
  subst hH
  refine wpList_append_own _ hgd s xo 22 ho lo 35 i0 _ 4 32 Try.underlying22 hi hz0 hz1 hz2 rfl (by decide) v n _ hs (hown.alloc _) ⟨w.heap.size, 0, none⟩ 1 1 (cT [x, y]) hx rfl ?_ (cT_one _) (by unfold maxLen; omega) (by omega) (by simp; omega) ?_
  · intro j u hu
    have hj : j < 4 := by
      have := (List.getElem?_eq_some_iff.1 hu).1
      simpa [cT] using this
    rw [Addr.add_lit, Nat.zero_add]
    have : j = 0 ∨ j = 1 ∨ j = 2 ∨ j = 3 := by omega
    rcases this with rfl | rfl | rfl | rfl <;> (simp [cT] at hu; subst hu; simp)
  intro v' w' hown' hg _
  rw [← cT_append] at hown'
  refine h v' w' hown' ?_
  exact ((Below.refl _ _).alloc hlo _).grown hg (by simp; omega) (fun k hk => by have := (hown.lt k hk).1; omega)

/-- The same at a step of a region that draws its order. -/
theorem step_push_sync {ops : Array Oper} {o : Oper} {a : Act} {K : Act → World → Prop} {Q : Exit → Act → World → Prop} {E : Prop} {w : World} {lo n : Nat} {v : Value} {T : List Th} {x y : Th}
    (hgd : o.guard = none) (s xo : Operand) (ho : o.op = .call { callee := .builtin .append, args := #[s, xo], argTypes := #[22, 22] })
    (hs : a.eval s = v) (B : Nat) (hx : a.eval xo = .slice (some ⟨B, 0, none⟩) 1 1) (hB : w.heap[B]? = some (.cells #[.int .i64 x.1, .bool x.2, .int .i64 y.1, .bool y.2] 35 (0, 0))) (hown : w.ownsRow lo 35 4 v n (cT T)) (hlo : lo ≤ w.heap.size) (hl : n ≤ 1000000000)
    (h : ∀ v' w', w'.ownsRow lo 35 4 v' (n + 1) (cT (T ++ [x, y])) → Below lo w w' → K (a.put o.dst v') w') :
    if Region.wanted o (yielded ops a.tmps) = true then Oper.wp Try.prog o a w K Q else E := by
  obtain ⟨i0, hi, hz0, hz1, hz2⟩ := info_parts Try.infoSync
  have hw : Region.wanted o (yielded ops a.tmps) = true := by simp [Region.wanted, hgd]
  rw [if_pos hw]
  refine wp_append_own w s xo 22 ho lo 35 i0 _ 4 32 Try.underlying22 hi hz0 hz1 hz2 rfl (by decide) v n _ hs hown ⟨B, 0, none⟩ 1 1 (cT [x, y]) hx rfl (World.news_of_block hB) (cT_one _) (by unfold maxLen; omega) (by omega) hlo ?_
  intro v' w' hown' hg _
  rw [← cT_append] at hown'
  exact h v' w' hown' ((Below.refl _ _).grown hg hlo (fun k hk => by have := (hown.lt k hk).1; omega))

theorem sync_made (w : World) : (w.alloc (.cells #[] 35)).ownsRow w.heap.size 35 4 (.slice (some ⟨w.heap.size, 0, none⟩) 0 0) 0 (cT []) :=
  World.ownsRow_made w #[] 0 (Nat.le_refl _) (by decide) (by simp)
theorem below_sync (w : World) : Below w.heap.size w (w.alloc (.cells #[] 35)) := (Below.refl _ _).alloc (Nat.le_refl _) _

set_option maxHeartbeats 2000000 in
theorem mirrored_any (v : Value) (n : Nat) (T : List Th) (w : World) (hp : RdT 2 w v n T) (h6 : n ≤ 6) :
    Calls Try.prog 24 #[v] w fun e w' => ∃ u, e = .returned u ∧ OwnT 35 2 w' w.heap.size w'.heap.size u n (mirT T n) ∧ Below w.heap.size w w' := by
  obtain ⟨hT, la, a, ca, rfl, ha⟩ := hp
  go_enter Try.func24, Try.ntmps24
  go_wp2
  go_loopw [3, 9] (fun o i wr => ∃ k : Nat, k ≤ n ∧ i = .int .i64 k ∧ wr.ownsRow w.heap.size 35 4 o k (cT (mirT T k)) ∧ Below w.heap.size w wr) (fun _ i _ => n - (intOf i).toNat)
  case atStart => exact ⟨0, Nat.zero_le _, rfl, sync_made w, below_sync w⟩
  case round =>
    obtain ⟨k, hk, rfl, hown, hB⟩ := hrel
    by_cases hlt : k < n
    · obtain ⟨ba, oa, rfl, hba, hca⟩ := ha (by omega)
      obtain ⟨p1, p2, p3, p4⟩ := cells4 hca hlt
      have f := fun o => hB.cell (p := ⟨ba, o, none⟩) hba
      rw [← f] at p1 p2 p3 p4
      clear hca ha f
      have hB1 := hB.alloc hB.size (Obj.cells #[.int .i64 (gt T (k * 2)).1, .bool (gt T (k * 2)).2, .int .i64 (gt T (k * 2 + 1)).1, .bool (gt T (k * 2 + 1)).2] 35)
      have hrw := row_below hown ((Below.refl wr.heap.size wr).alloc (Nat.le_refl _) (Obj.cells #[.int .i64 (gt T (k * 2)).1, .bool (gt T (k * 2)).2, .int .i64 (gt T (k * 2 + 1)).1, .bool (gt T (k * 2 + 1)).2] 35))
      have HH := Lib.hid (And.intro hB1 hrw)
      clear hB1 hrw hown hB
      go_wp2_with (at_builtin; refine push_sync (x := gt T (k * 2 + 1)) (y := gt T (k * 2)) rfl _ _ rfl rfl (wr.heap.size + 1) rfl (by simp) HH.out.2 HH.out.1.size (by omega) ?_; intro v' w' hown' hb')
      go_roundw
      case rel => exact ⟨k + 1, by omega, by go_num, by rw [mirT_succ]; exact hown', HH.out.1.trans hb'⟩
      case measure => simp [intOf]; omega
    · go_wp2
      go_ret
      obtain rfl : k = n := by omega
      exact ⟨_, rfl, ownT_of (mirT_length _ _) la hown, hB⟩

set_option maxHeartbeats 2000000 in
theorem l05Mirror_any (v : Value) (n : Nat) (T : List Th) (w : World) (hp : RdT 2 w v n T) (h6 : n ≤ 6) :
    Calls Try.prog 19 #[v] w fun e w' => ∃ u, e = .returned u ∧ OwnT 35 2 w' w.heap.size w'.heap.size u n (mirT T n) ∧ Below w.heap.size w w' := by
  obtain ⟨hT, la, a, ca, rfl, ha⟩ := hp
  go_enter Try.func19, Try.ntmps19
  go_wp2
  go_loopw [3, 4] (fun o i wr => ∃ k : Nat, k ≤ n ∧ i = .int .i64 k ∧ wr.ownsRow w.heap.size 35 4 o k (cT (mirT T k)) ∧ Below w.heap.size w wr) (fun _ i _ => n - (intOf i).toNat)
  case atStart => exact ⟨0, Nat.zero_le _, rfl, sync_made w, below_sync w⟩
  case round =>
    obtain ⟨k, hk, rfl, hown, hB⟩ := hrel
    by_cases hlt : k < n
    · obtain ⟨ba, oa, rfl, hba, hca⟩ := ha (by omega)
      obtain ⟨p1, p2, p3, p4⟩ := cells4 hca hlt
      have f := fun o => hB.cell (p := ⟨ba, o, none⟩) hba
      rw [← f] at p1 p2 p3 p4
      clear hca ha f
      have hrw : ∀ o : Obj, (wr.alloc o).drew.ownsRow w.heap.size 35 4 u3 k (cT (mirT T k)) := fun o => row_below hown (((Below.refl _ _).alloc (Nat.le_refl _) o).drew)
      have hBd : ∀ o : Obj, Below w.heap.size w (wr.alloc o).drew := fun o => (hB.alloc hB.size o).drew
      have HH := Lib.hid (And.intro hBd hrw)
      have hi0' : (0 : Int) ≤ (k : Int) := Int.natCast_nonneg _
      have hi1 : (k : Int) < (n : Int) := by omega
      clear hrw hown hB hBd
      go_wp2
      go_region_held3 (fun w' => w'.cell? ⟨ba, oa + k * 4, none⟩ = some (.int .i64 (gt T (k * 2)).1) ∧ w'.cell? ⟨ba, oa + k * 4 + 1, none⟩ = some (.bool (gt T (k * 2)).2) ∧ w'.cell? ⟨ba, oa + k * 4 + 2, none⟩ = some (.int .i64 (gt T (k * 2 + 1)).1) ∧ w'.cell? ⟨ba, oa + k * 4 + 3, none⟩ = some (.bool (gt T (k * 2 + 1)).2))
        (first
          | go_keep
          | (go_split_ands
             refine ⟨?_, ?_, ?_, ?_⟩ <;> (rw [hb'.cell (p := ⟨ba, _, none⟩) hba]; assumption)))
        ((refine step_push_sync (x := gt T (k * 2 + 1)) (y := gt T (k * 2)) (by rfl) _ _ (by rfl) (by rfl) wr.heap.size (by rfl) (heap_alloc_new wr _) (HH.out.2 _) (HH.out.1 _).size (by omega) ?_; intro v' w' hown' hb'))
      all_goals
        have H3 := Lib.hid (And.intro hown' ((HH.out.1 _).trans hb'))
        clear hown' hb'
        go_wp2
        go_roundw
        case rel => exact ⟨k + 1, by omega, by go_num, by rw [mirT_succ]; exact H3.out.1, H3.out.2⟩
        case measure => simp [intOf]; omega
    · go_wp2
      go_ret
      obtain rfl : k = n := by omega
      exact ⟨_, rfl, ownT_of (mirT_length _ _) la hown, hB⟩
end Go.Proofs.Ytfeihkpaigadkaa
