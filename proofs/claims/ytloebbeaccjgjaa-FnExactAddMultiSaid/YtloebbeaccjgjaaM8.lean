/-
  Contracts of the functions on patterns with several throws at a beat (chapter 4), eighth part: rows appended to a pattern. No condition beyond each contract's own.
-/
import Derived.Test.YtloebbeaccjgjaaM4
import Derived.Deep.RegionHeld3
import Derived.Deep.AppendLies
namespace Go.Proofs.Ytloebbeaccjgjaa
open Go.ChangeShapes Go.WideShapes Go.ChangeAt Go.RowKit


theorem sumLen_le (R S : List (List Int)) (h : ∀ j, j < R.length → (gr S j).length = (gr R j).length) : ∀ k, k ≤ R.length → sumLen S k = sumLen R k
  | 0, _ => rfl
  | k + 1, hk => by
    simp only [sumLen]
    rw [sumLen_le R S h k (by omega), h k (by omega)]
theorem gr_app_old (T : List (List Int)) (L : List Int) {j : Nat} (h : j < T.length) : gr (T ++ [L]) j = gr T j := by
  simp [gr, List.getElem?_append_left h]
theorem gr_app_new (T : List (List Int)) (L : List Int) : gr (T ++ [L]) T.length = L := by
  simp [gr]
theorem sumLen_app (T : List (List Int)) (L : List Int) : sumLen (T ++ [L]) (T ++ [L]).length = sumLen T T.length + L.length := by
  have h : (T ++ [L]).length = T.length + 1 := by simp
  rw [h]
  simp only [sumLen]
  rw [gr_app_new, sumLen_le T (T ++ [L]) (fun j hj => by rw [gr_app_old _ _ hj]) T.length (Nat.le_refl _)]

theorem ownR_pushed {w w' : World} {lo m : Nat} {v v' u : Value} {T : List (List Int)} {L : List Int} {cs : Nat → Value}
    (hl : T.length ≤ 8000000 ∧ sumLen T T.length ≤ 8000000) (hL : L.length ≤ 8000000) (hlo : lo ≤ m) (hmw : m ≤ w.heap.size)
    (hb1 : ∀ k, v.ownBlock = some k → k < m) (hr : ∀ j, j < T.length → Own w lo m (cs j) (gr T j))
    (s1 : ∀ j b, j < T.length → v.ownBlock = some b → (cs j).ownBlock ≠ some b)
    (s2 : ∀ i j b, i < T.length → j < T.length → i ≠ j → (cs i).ownBlock = some b → (cs j).ownBlock ≠ some b)
    (hu : Own w m w.heap.size u L)
    (hown : w'.ownsRow lo 22 1 v' (T.length + 1) ((List.range T.length).map cs ++ [u])) (hg : w.grownBy w' v.ownBlock) :
    OwnR w' lo w'.heap.size v' (T ++ [L]) := by
  have hsz : w.heap.size ≤ w'.heap.size := hg.size
  have keep : ∀ (x : Value) (zs : List Int) (a b : Nat), Own w a b x zs → (∀ k, x.ownBlock = some k → v.ownBlock ≠ some k) → Own w' a b x zs := by
    intro x zs a b ⟨o1, ⟨o2, o3⟩, o4⟩ hne
    refine ⟨o1, ⟨o2, ?_⟩, o4⟩
    rcases o3 with o3 | ⟨g, cap, cur, rfl, hb', hgg, r⟩
    · exact .inl o3
    · exact .inr ⟨g, cap, cur, rfl, hb', by rw [hg.block g (Array.getElem?_eq_some_iff.1 hgg).1 (Ne.symm (hne g rfl))]; exact hgg, r⟩
  have ku := keep u L m w.heap.size hu (fun k hk hv => by have := (hu.2.1.lt k hk).1; have := hb1 k hv; omega)
  have kr := fun j hj => keep (cs j) (gr T j) lo m (hr j hj) (fun k hk hv => s1 j k hj hv hk)
  -- blocks of rows are of another type than the pattern's
  have tne : ∀ (x : Value) (zs : List Int) (a b : Nat), Own w' a b x zs → ∀ k, v'.ownBlock = some k → x.ownBlock ≠ some k := by
    intro x zs a b ⟨_, ⟨_, o3⟩, _⟩ k hk hx
    rcases o3 with ⟨rfl, _⟩ | ⟨g, cap, cur, rfl, _, hgg, _⟩
    · simp [Value.ownBlock] at hx
    · obtain ⟨_, o5⟩ := hown
      rcases o5 with ⟨rfl, _⟩ | ⟨g', cap', cur', rfl, _, hgg', _⟩
      · simp [Value.ownBlock] at hk
      · simp [Value.ownBlock] at hk hx
        subst hk hx
        rw [hgg] at hgg'
        simp at hgg'
  have hu0 : ∀ j b, j < T.length → (cs j).ownBlock = some b → u.ownBlock ≠ some b := fun j b hj hb hh => by
    have := (hr j hj).2.2 b hb
    have := (hu.2.1.lt b hh).1
    omega
  have hrow : (List.range (T ++ [L]).length).map (fun j => if j = T.length then u else cs j) = (List.range T.length).map cs ++ [u] := by
    rw [List.length_append, List.length_singleton, List.range_succ, List.map_append]
    congr 1
    · apply List.map_congr_left
      intro j hj
      rw [if_neg (by have := List.mem_range.1 hj; omega)]
    · simp
  refine ⟨⟨by simp; omega, by rw [sumLen_app]; omega⟩, fun j => if j = T.length then u else cs j, by rw [hrow, List.length_append, List.length_singleton]; exact hown, fun k hk => (hown.lt k hk).2, fun j hj => ?_, fun j b hj hb => ?_, fun i j b hi hj hij hb => ?_⟩
  · dsimp only
    by_cases h : j = T.length
    · subst h
      rw [if_pos rfl, gr_app_new]
      exact ku.mono hlo hsz
    · have hj' : j < T.length := by simp at hj; omega
      rw [if_neg h, gr_app_old _ _ hj']
      exact (kr j hj').mono (Nat.le_refl _) (Nat.le_trans hmw hsz)
  · dsimp only
    by_cases h : j = T.length
    · rw [if_pos h]; exact tne u L _ _ ku b hb
    · have hj' : j < T.length := by simp at hj; omega
      rw [if_neg h]; exact tne _ _ _ _ (kr j hj') b hb
  · dsimp only at hb ⊢
    by_cases h : i = T.length
    · have h2 : ¬ j = T.length := by omega
      have hj' : j < T.length := by simp at hj; omega
      rw [if_pos h] at hb
      rw [if_neg h2]
      exact fun hh => hu0 j b hj' hh hb
    · have hi' : i < T.length := by simp at hi; omega
      rw [if_neg h] at hb
      by_cases h2 : j = T.length
      · rw [if_pos h2]; exact hu0 i b hi' hb
      · have hj' : j < T.length := by simp at hj; omega
        rw [if_neg h2]; exact s2 i j b hi' hj' hij hb

theorem own_one (w : World) (x : Int) : Own (w.alloc (.cells #[.int .i64 x] 2)) w.heap.size (w.heap.size + 1) (.slice (some ⟨w.heap.size, 0, none⟩) 1 1) [x] :=
  ⟨by simp, ⟨by simp, .inr ⟨w.heap.size, 1, _, rfl, Nat.le_refl _, heap_alloc_new w _, Nat.le_refl _, by decide, by simp, by simp⟩⟩, fun k hk => by simp [Value.ownBlock] at hk; omega⟩

/-- 'append(out, u)' of a row u that lies above all that out owns. -/
theorem push_row {ops : Array Oper} {rest : List Oper} {o : Oper} {a : Act} {Q : Exit → Act → World → Prop} {w : World} {lo m : Nat} {v u : Value} {T : List (List Int)} {L : List Int}
    (hgd : o.guard = none) (s xo : Operand) (ho : o.op = .call { callee := .builtin .append, args := #[s, xo], argTypes := #[29, 29] })
    (hs : a.eval s = v) (B : Nat) (hx : a.eval xo = .slice (some ⟨B, 0, none⟩) 1 1) (hB : w.heap[B]? = some (.cells #[u] 22 (0, 0)))
    (hT : OwnR w lo m v T) (hu : Own w m w.heap.size u L) (hl : T.length ≤ 8000000 ∧ sumLen T T.length ≤ 8000000) (hL : L.length ≤ 8000000) (hlo : lo ≤ m) (hmw : m ≤ w.heap.size)
    (h : ∀ v' w', OwnR w' lo w'.heap.size v' (T ++ [L]) → Below lo w w' → wpList Try.prog ops Q rest (a.put o.dst v') w') :
    wpList Try.prog ops Q (o :: rest) a w := by
  obtain ⟨i0, hi, hz0, hz1, hz2⟩ := info_parts Try.infoInts
  obtain ⟨hl0, cs, hown, hhi, hr, s1, s2⟩ := hT
  obtain ⟨_, ua, uc, hue, _⟩ := hu.rd
  refine wpList_append_own _ hgd s xo 29 ho lo 22 i0 _ 1 24 Try.underlying29 hi hz0 hz1 hz2 rfl (by decide) v T.length _ hs hown ⟨B, 0, none⟩ 1 1 [u] hx rfl (World.news_of_block hB) (by intro u' hu'; simp at hu'; subst hu'; rw [hue]; rfl) (by unfold maxLen; omega) (by omega) (by omega) ?_
  intro v' w' hown' hg _
  exact h v' w' (ownR_pushed hl hL hlo hmw hhi hr s1 s2 hu hown' hg) ((Below.refl _ _).grown hg (by omega) (fun k hk => by have := (hown.lt k hk).1; omega))

/-- The same at a step of a region that draws its order. -/
theorem step_push_row {ops : Array Oper} {o : Oper} {a : Act} {K : Act → World → Prop} {Q : Exit → Act → World → Prop} {E : Prop} {w : World} {lo m : Nat} {v u : Value} {T : List (List Int)} {L : List Int}
    (hgd : o.guard = none) (s xo : Operand) (ho : o.op = .call { callee := .builtin .append, args := #[s, xo], argTypes := #[29, 29] })
    (hs : a.eval s = v) (B : Nat) (hx : a.eval xo = .slice (some ⟨B, 0, none⟩) 1 1) (hB : w.heap[B]? = some (.cells #[u] 22 (0, 0)))
    (hT : OwnR w lo m v T) (hu : Own w m w.heap.size u L) (hl : T.length ≤ 8000000 ∧ sumLen T T.length ≤ 8000000) (hL : L.length ≤ 8000000) (hlo : lo ≤ m) (hmw : m ≤ w.heap.size)
    (h : ∀ v' w', OwnR w' lo w'.heap.size v' (T ++ [L]) → Below lo w w' → K (a.put o.dst v') w') :
    if Region.wanted o (yielded ops a.tmps) = true then Oper.wp Try.prog o a w K Q else E := by
  obtain ⟨i0, hi, hz0, hz1, hz2⟩ := info_parts Try.infoInts
  have hw : Region.wanted o (yielded ops a.tmps) = true := by simp [Region.wanted, hgd]
  rw [if_pos hw]
  obtain ⟨hl0, cs, hown, hhi, hr, s1, s2⟩ := hT
  obtain ⟨_, ua, uc, hue, _⟩ := hu.rd
  refine wp_append_own w s xo 29 ho lo 22 i0 _ 1 24 Try.underlying29 hi hz0 hz1 hz2 rfl (by decide) v T.length _ hs hown ⟨B, 0, none⟩ 1 1 [u] hx rfl (World.news_of_block hB) (by intro u' hu'; simp at hu'; subst hu'; rw [hue]; rfl) (by unfold maxLen; omega) (by omega) (by omega) ?_
  intro v' w' hown' hg _
  exact h v' w' (ownR_pushed hl hL hlo hmw hhi hr s1 s2 hu hown' hg) ((Below.refl _ _).grown hg (by omega) (fun k hk => by have := (hown.lt k hk).1; omega))
end Go.Proofs.Ytloebbeaccjgjaa
