/-
  Rows of strings; the parts of a text between bytes. No condition beyond each contract's own.
-/
import Derived.Test.YtfeihkpaigadkaaInts
import Derived.Test.YtfeihkpaigadkaaSub
namespace Go.Proofs.Ytfeihkpaigadkaa
open Go.ChangeShapes Go.WideShapes Go.ChangeAt Go.RowKit

open Go.PlainAid

theorem Try.infoStr : (Try.prog.info? 9).map (fun i => (i.zero, i.size, i.bytes)) = some (some (.string ⟨#[]⟩), 1, 16) := by kernel_rfl
/-- String k of a list of strings; the empty one behind its end. -/
def gs (zs : List ByteArray) (k : Nat) : ByteArray := zs.getD k ⟨#[]⟩
theorem gs_eq {zs : List ByteArray} {k : Nat} (h : k < zs.length) : gs zs k = zs[k] := by simp [gs, h]
/-- The value v is a slice that reads as the strings zs. -/
def RdS (w : World) (v : Value) (zs : List ByteArray) : Prop :=
  zs.length ≤ 17592186044416 ∧ ∃ a c, v = .slice a zs.length c ∧ (zs.length ≠ 0 → ∃ b o, a = some ⟨b, o, none⟩ ∧ b < w.heap.size ∧ ∀ j, j < zs.length → w.cell? ⟨b, o + j, none⟩ = some (.string (gs zs j)))
theorem RdS.below {w w' : World} {v : Value} {zs : List ByteArray} (h : RdS w v zs) (hb : Below w.heap.size w w') : RdS w' v zs := by
  obtain ⟨hl, a, c, hv, ha⟩ := h
  refine ⟨hl, a, c, hv, fun hn => ?_⟩
  obtain ⟨b, o, he, hlt, hc⟩ := ha hn
  exact ⟨b, o, he, Nat.lt_of_lt_of_le hlt hb.size, fun j hj => (hb.cell (p := ⟨b, o + j, none⟩) hlt).trans (hc j hj)⟩

/-- The slice value v, of strings, owns its row, which lies in a block from lo on and below hi. -/
def OwnS (w : World) (lo hi : Nat) (v : Value) (zs : List ByteArray) : Prop :=
  zs.length ≤ 17592186044416 ∧ w.ownsRow lo 9 1 v zs.length (zs.map (Value.string)) ∧ ∀ k, v.ownBlock = some k → k < hi

theorem OwnS.rd {w : World} {lo hi : Nat} {v : Value} {zs : List ByteArray} (h : OwnS w lo hi v zs) : RdS w v zs := by
  obtain ⟨hl, h, _⟩ := h
  have h' := h
  obtain ⟨h1, h2⟩ := h
  rcases h2 with ⟨rfl, h0⟩ | ⟨g, cap, cur, rfl, hb, hg, hn, hm, hs, ht⟩
  · refine ⟨hl, none, 0, by rw [h0], fun hn => absurd h0 hn⟩
  · refine ⟨hl, _, cap, rfl, fun _ => ⟨g, 0, rfl, (Array.getElem?_eq_some_iff.1 hg).1, fun j hj => ?_⟩⟩
    rw [Nat.zero_add, h'.cellAt j (by simpa using hj)]
    simp [gs, hj]

/-- What was owned is owned still where nothing of its blocks has turned. -/
theorem OwnS.kept {w w' : World} {lo hi lo' hi' : Nat} {v : Value} {zs : List ByteArray} (h : OwnS w lo hi v zs) (hc : Chg w w' lo' hi') (hne : hi ≤ lo' ∨ hi' ≤ lo) : OwnS w' lo hi v zs := by
  obtain ⟨hl, ⟨h1, h2⟩, h3⟩ := h
  refine ⟨hl, ⟨h1, ?_⟩, h3⟩
  rcases h2 with h2 | ⟨g, cap, cur, rfl, hb', hg, r⟩
  · exact .inl h2
  · have := h3 g rfl
    exact .inr ⟨g, cap, cur, rfl, hb', by rw [hc.block g (Array.getElem?_eq_some_iff.1 hg).1 (by omega)]; exact hg, r⟩

theorem OwnS.below {w w' : World} {lo hi : Nat} {v : Value} {zs : List ByteArray} (h : OwnS w lo hi v zs) (hb : Below w.heap.size w w') : OwnS w' lo hi v zs :=
  h.kept (below_chg hb hi hi) (.inl (Nat.le_refl _))

theorem OwnS.mono {w : World} {lo hi lo' hi' : Nat} {v : Value} {zs : List ByteArray} (h : OwnS w lo hi v zs) (h1 : lo' ≤ lo) (h2 : hi ≤ hi') : OwnS w lo' hi' v zs := by
  obtain ⟨hl, ⟨h1', h2'⟩, h3⟩ := h
  refine ⟨hl, ⟨h1', ?_⟩, fun k hk => Nat.lt_of_lt_of_le (h3 k hk) h2⟩
  rcases h2' with h2' | ⟨g, cap, cur, e, hb', r⟩
  · exact .inl h2'
  · exact .inr ⟨g, cap, cur, e, by omega, r⟩

theorem ownS_of {w : World} {lo : Nat} {v : Value} {zs : List ByteArray} (hl : zs.length ≤ 17592186044416) (h : w.ownsRow lo 9 1 v zs.length (zs.map (Value.string))) : OwnS w lo w.heap.size v zs :=
  ⟨hl, h, fun k hk => (h.lt k hk).2⟩

theorem ownS_nil (w : World) (lo hi : Nat) : OwnS w lo hi (.slice none 0 0) [] := ⟨by simp, World.ownsRow_nil _ _ _ _, fun k hk => by cases hk⟩

/-- 'append(out, x)' of one string onto a slice of the call's own, behind the new block that holds x. -/
theorem push_str {ops : Array Oper} {rest : List Oper} {o : Oper} {a : Act} {Q : Exit → Act → World → Prop} {w : World} {lo : Nat} {v : Value} {zs : List ByteArray} {x : ByteArray}
    (hgd : o.guard = none) (s xo : Operand) (ho : o.op = .call { callee := .builtin .append, args := #[s, xo], argTypes := #[36, 36] })
    (hs : a.eval s = v) (hx : a.eval xo = .slice (some ⟨w.heap.size, 0, none⟩) 1 1) (hown : w.ownsRow lo 9 1 v zs.length (zs.map (Value.string))) (hlo : lo ≤ w.heap.size) (hl : zs.length ≤ 8796093022207)
    (h : ∀ v' w', w'.ownsRow lo 9 1 v' (zs ++ [x]).length ((zs ++ [x]).map (Value.string)) → Below lo w w' → wpList Try.prog ops Q rest (a.put o.dst v') w') :
    wpList Try.prog ops Q (o :: rest) a (w.alloc (.cells #[.string x] 9)) := by
  obtain ⟨i0, hi, hz0, hz1, hz2⟩ := info_parts Try.infoStr
  refine wpList_append_own _ hgd s xo 36 ho lo 9 i0 _ 1 16 Try.underlying36 hi hz0 hz1 hz2 rfl (by decide) v zs.length _ hs (hown.alloc _) ⟨w.heap.size, 0, none⟩ 1 1 [.string x] hx rfl (cell_one_new _ _ _) (by intro u hu; simp at hu; subst hu; rfl) (by unfold maxLen; omega) (by omega) (by simp; omega) ?_
  intro v' w' hown' hg _
  refine h v' w' (by simpa using hown') ?_
  exact ((Below.refl _ _).alloc hlo _).grown hg (by simp; omega) (fun k hk => by have := (hown.lt k hk).1; omega)

/-- '[]int64{}': a new row of no places. -/
theorem strs_made (w : World) : (w.alloc (.cells #[] 9)).ownsRow w.heap.size 9 1 (.slice (some ⟨w.heap.size, 0, none⟩) 0 0) ([] : List ByteArray).length (([] : List ByteArray).map (Value.string)) :=
  World.ownsRow_made w #[] 0 (Nat.le_refl _) (by decide) (by simp)
theorem below_strs (w : World) : Below w.heap.size w (w.alloc (.cells #[] 9)) := (Below.refl _ _).alloc (Nat.le_refl _) _


/-- The parts of a text between bytes c: what is done when k bytes have been read. -/
def spG (s : ByteArray) (c : Int) : Nat → List ByteArray × Nat
  | 0 => ([], 0)
  | k + 1 => if bt s k = c then ((spG s c k).1 ++ [sub s (spG s c k).2 k], k + 1) else spG s c k
theorem spG_le (s : ByteArray) (c : Int) : ∀ k, (spG s c k).2 ≤ k ∧ (spG s c k).1.length ≤ k
  | 0 => by simp [spG]
  | k + 1 => by
    have := spG_le s c k
    rw [spG]
    split
    · simp; omega
    · omega
def spL (s : ByteArray) (c : Int) : List ByteArray := (spG s c s.size).1 ++ [sub s (spG s c s.size).2 s.size]
theorem spL_length (s : ByteArray) (c : Int) : 1 ≤ (spL s c).length ∧ (spL s c).length ≤ s.size + 1 := by
  have := spG_le s c s.size
  simp [spL]; omega

set_option maxHeartbeats 2000000 in
theorem l01Split_any (s : ByteArray) (c : Int) (w : World) (hs : s.size ≤ 1048576) :
    Calls Try.prog 16 #[.string s, .int .u8 c] w fun e w' => ∃ u, e = .returned u ∧ OwnS w' w.heap.size w'.heap.size u (spL s c) ∧ Below w.heap.size w w' := by
  have hbt := get_bt s
  go_enter Try.func16, Try.ntmps16
  go_wp2
  go_loopw [5, 6, 7] (fun o f i wr => ∃ k : Nat, k ≤ s.size ∧ i = .int .i64 k ∧ f = .int .i64 ((spG s c k).2 : Nat) ∧ wr.ownsRow w.heap.size 9 1 o (spG s c k).1.length ((spG s c k).1.map Value.string) ∧ Below w.heap.size w wr) (fun _ _ i _ => s.size - (intOf i).toNat)
  case atStart => exact ⟨0, Nat.zero_le _, rfl, rfl, strs_made w, below_strs w⟩
  case round =>
    obtain ⟨k, hk, rfl, rfl, hown, hB⟩ := hrel
    by_cases hlt : k < s.size
    · have hle := spG_le s c k
      have HS := Lib.hid (show spG s c (k + 1) = _ from rfl)
      have HL := Lib.hid hle
      obtain ⟨F, hF⟩ : ∃ F, F = (spG s c k).2 := ⟨_, rfl⟩
      obtain ⟨P, hP⟩ : ∃ P, P = (spG s c k).1 := ⟨_, rfl⟩
      have HE := Lib.hid (And.intro hF hP)
      rw [← hF, ← hP] at hle
      rw [← hP] at hown
      rw [← hF]
      obtain ⟨hle1, hle2⟩ := hle
      clear hF hP
      have HOWN := Lib.hid (And.intro hown hB)
      clear hown hB
      go_wp2_with (at_builtin; refine push_str rfl _ _ rfl rfl rfl HOWN.out.1 HOWN.out.2.size (by omega) ?_; intro v' w' hown' hb')
      · have he : (bt s k == c) = true := by assumption
        go_roundw
        case rel =>
          have e : spG s c (k + 1) = (P ++ [sub s F k], k + 1) := by rw [HS.out, HE.out.1, HE.out.2]; simp only [spG]; rw [if_pos (by simpa using he)]
          refine ⟨k + 1, by omega, by go_num, by rw [e]; go_num, by rw [e]; exact hown', HOWN.out.2.trans hb'⟩
        case measure => simp [intOf]; omega
      · have he : (bt s k == c) = false := by assumption
        go_roundw
        case rel =>
          have e : spG s c (k + 1) = spG s c k := by rw [HS.out]; simp only [spG]; rw [if_neg (by simpa using he)]
          refine ⟨k + 1, by omega, by go_num, by rw [e, HE.out.1], by rw [e, ← HE.out.2]; exact HOWN.out.1, HOWN.out.2⟩
        case measure => simp [intOf]; omega
    · obtain rfl : k = s.size := by omega
      have hle := spG_le s c s.size
      obtain ⟨F, hF⟩ : ∃ F, F = (spG s c s.size).2 := ⟨_, rfl⟩
      obtain ⟨P, hP⟩ : ∃ P, P = (spG s c s.size).1 := ⟨_, rfl⟩
      have HE := Lib.hid (And.intro hF hP)
      rw [← hF, ← hP] at hle
      rw [← hP] at hown
      rw [← hF]
      obtain ⟨hle1, hle2⟩ := hle
      clear hF hP
      have HOWN := Lib.hid (And.intro hown hB)
      clear hown hB
      go_wp2_with (at_builtin; refine push_str rfl _ _ rfl rfl rfl HOWN.out.1 HOWN.out.2.size (by omega) ?_; intro v' w' hown' hb')
      go_ret
      have e : spL s c = P ++ [sub s F s.size] := by rw [spL, ← HE.out.1, ← HE.out.2]
      exact ⟨_, rfl, by rw [e]; exact ownS_of (by simp; omega) hown', HOWN.out.2.trans hb'⟩
end Go.Proofs.Ytfeihkpaigadkaa
