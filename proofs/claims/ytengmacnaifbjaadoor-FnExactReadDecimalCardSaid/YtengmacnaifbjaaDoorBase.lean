/-
  Plain lemmas on lists of numbers and on slices that read as lists of numbers. No condition.
-/
import Derived.Test.YtengmacnaifbjaaDoorRows
import Derived.ProofKit
import Derived.WalkKit
import Derived.WalkSpells
import Derived.WalkLawsBesides
import Derived.WalkSmall
import Derived.Deep.QuietTactic
import Derived.BigQuiet
import Derived.Lib.Hide
import Derived.PlainAid
namespace Go.Proofs.YtengmacnaifbjaaDoor
open Go.ChangeShapes Go.WideShapes Go.ChangeAt Go.RowKit


/-- Element k of a list of numbers; 0 behind its end. -/
def gi (zs : List Int) (k : Nat) : Int := zs.getD k 0

theorem gi_eq {zs : List Int} {k : Nat} (h : k < zs.length) : gi zs k = zs[k] := by simp [gi, h]

theorem gi_ext {A B : List Int} (hl : A.length = B.length) (h : ∀ k, k < A.length → gi A k = gi B k) : A = B := by
  apply List.ext_getElem hl
  intro k h1 h2
  have := h k h1
  rwa [gi_eq h1, gi_eq h2] at this

theorem gi_take {zs : List Int} {k n : Nat} (h : k < n) : gi (zs.take n) k = gi zs k := by simp [gi, h]

theorem take_gi {zs : List Int} {k : Nat} (h : k < zs.length) : zs.take (k + 1) = zs.take k ++ [gi zs k] := by
  rw [List.take_add_one, List.getElem?_eq_getElem h, gi_eq h]; rfl

theorem fill_at {α : Type} (f : Int → α) (A : List Int) (k : Nat) (h : k < A.length) : ((A.take k ++ List.replicate (A.length - k) (0 : Int)).map f)[k]? = some (f 0) := by
  rw [List.getElem?_map, List.getElem?_append_right (by simp; omega), List.getElem?_replicate, if_pos (by simp; omega)]
  rfl

theorem fill_set {α : Type} (f : Int → α) (A : List Int) (k : Nat) (h : k < A.length) :
    ((A.take k ++ List.replicate (A.length - k) (0 : Int)).map f).set k (f (gi A k)) = (A.take (k + 1) ++ List.replicate (A.length - (k + 1)) (0 : Int)).map f := by
  rw [take_gi h, show A.length - k = (A.length - (k + 1)) + 1 by omega, List.replicate_succ, List.append_assoc, ← List.map_set, List.set_append, if_neg (by simp; omega)]
  simp [Nat.min_eq_left (Nat.le_of_lt h)]

/-- The value v is a slice that reads as the numbers zs. -/
def Rd (w : World) (v : Value) (zs : List Int) : Prop :=
  zs.length ≤ 17592186044416 ∧ ∃ a c, v = .slice a zs.length c ∧ (zs.length ≠ 0 → ∃ b o, a = some ⟨b, o, none⟩ ∧ b < w.heap.size ∧ ∀ j, j < zs.length → w.cell? ⟨b, o + j, none⟩ = some (.int .i64 (gi zs j)))

theorem Rd.below {w w' : World} {v : Value} {zs : List Int} (h : Rd w v zs) (hb : Below w.heap.size w w') : Rd w' v zs := by
  obtain ⟨hl, a, c, hv, ha⟩ := h
  refine ⟨hl, a, c, hv, fun hn => ?_⟩
  obtain ⟨b, o, he, hlt, hc⟩ := ha hn
  exact ⟨b, o, he, Nat.lt_of_lt_of_le hlt hb.size, fun j hj => (hb.cell (p := ⟨b, o + j, none⟩) hlt).trans (hc j hj)⟩

theorem Rd.drewN {w : World} {v : Value} {zs : List Int} (h : Rd w v zs) (n : Nat) : Rd (w.drewN n) v zs := h

theorem bcell {W w1 : World} {B : Nat} (hb : Below B W w1) : (∀ b o, b < B → w1.cell? ⟨b, o, none⟩ = W.cell? ⟨b, o, none⟩) ∧ (∀ b o, b < B → w1.frozen? ⟨b, o, none⟩ = W.frozen? ⟨b, o, none⟩) :=
  ⟨fun b o h => hb.cell (p := ⟨b, o, none⟩) h, fun b o h => hb.frozen (p := ⟨b, o, none⟩) h⟩

theorem below_dn (w : World) (n : Nat) : Below w.heap.size w (w.drewN n) := below_drewN (Below.refl _ _) n


/-- From w to w' nothing has turned of what was there, but for blocks from lo on and below hi. -/
structure Chg (w w' : World) (lo hi : Nat) : Prop where
  os : w'.os = w.os
  tape : w'.tape = w.tape
  output : w'.output = w.output
  size : w.heap.size ≤ w'.heap.size
  block : ∀ k, k < w.heap.size → (k < lo ∨ hi ≤ k) → w'.heap[k]? = w.heap[k]?

theorem below_chg {w w' : World} (h : Below w.heap.size w w') (lo hi : Nat) : Chg w w' lo hi := ⟨h.os, h.tape, h.output, h.size, fun k hk _ => h.block k hk⟩
theorem Chg.refl (w : World) (lo hi : Nat) : Chg w w lo hi := ⟨rfl, rfl, rfl, Nat.le_refl _, fun _ _ _ => rfl⟩
theorem Chg.trans {a b c : World} {lo hi : Nat} (h : Chg a b lo hi) (k : Chg b c lo hi) : Chg a c lo hi :=
  ⟨k.os.trans h.os, k.tape.trans h.tape, k.output.trans h.output, Nat.le_trans h.size k.size, fun i hi hn => (k.block i (Nat.lt_of_lt_of_le hi h.size) hn).trans (h.block i hi hn)⟩
theorem Chg.mono {a b : World} {lo hi lo' hi' : Nat} (h : Chg a b lo hi) (h1 : lo' ≤ lo) (h2 : hi ≤ hi') : Chg a b lo' hi' :=
  ⟨h.os, h.tape, h.output, h.size, fun k hk hh => h.block k hk (by omega)⟩
theorem Chg.setCell {a b : World} {lo hi : Nat} (h : Chg a b lo hi) (p : Addr) (u : Value) (h1 : lo ≤ p.block) (h2 : p.block < hi) : Chg a (b.setCell p u) lo hi :=
  h.trans ⟨rfl, rfl, rfl, by simp, fun k _ hh => Below.heap_setCell _ _ _ _ (by omega)⟩
/-- A change of what lies from B on leaves what lay below B. -/
theorem below_chg_step {B : Nat} {W w w' : World} {lo hi : Nat} (h : Below B W w) (hc : Chg w w' lo hi) (hB : B ≤ w.heap.size) (hlo : B ≤ lo) : Below B W w' :=
  h.trans ⟨hc.os, hc.tape, hc.output, hc.size, fun k hk => hc.block k (by omega) (by omega)⟩
theorem below_step {B : Nat} {W w w' : World} (h : Below B W w) (hb : Below w.heap.size w w') (hB : B ≤ w.heap.size) : Below B W w' := h.trans (hb.mono hB)

/-- The slice value v, of numbers, owns its row, which lies in a block from lo on and below hi. -/
def Own (w : World) (lo hi : Nat) (v : Value) (zs : List Int) : Prop :=
  zs.length ≤ 17592186044416 ∧ w.ownsRow lo 2 1 v zs.length (zs.map (Value.int .i64)) ∧ ∀ k, v.ownBlock = some k → k < hi

theorem Own.rd {w : World} {lo hi : Nat} {v : Value} {zs : List Int} (h : Own w lo hi v zs) : Rd w v zs := by
  obtain ⟨hl, h, _⟩ := h
  have h' := h
  obtain ⟨h1, h2⟩ := h
  rcases h2 with ⟨rfl, h0⟩ | ⟨g, cap, cur, rfl, hb, hg, hn, hm, hs, ht⟩
  · refine ⟨hl, none, 0, by rw [h0], fun hn => absurd h0 hn⟩
  · refine ⟨hl, _, cap, rfl, fun _ => ⟨g, 0, rfl, (Array.getElem?_eq_some_iff.1 hg).1, fun j hj => ?_⟩⟩
    rw [Nat.zero_add, h'.cellAt j (by simpa using hj)]
    simp [gi, hj]

/-- What was owned is owned still where nothing of its blocks has turned. -/
theorem Own.kept {w w' : World} {lo hi lo' hi' : Nat} {v : Value} {zs : List Int} (h : Own w lo hi v zs) (hc : Chg w w' lo' hi') (hne : hi ≤ lo' ∨ hi' ≤ lo) : Own w' lo hi v zs := by
  obtain ⟨hl, ⟨h1, h2⟩, h3⟩ := h
  refine ⟨hl, ⟨h1, ?_⟩, h3⟩
  rcases h2 with h2 | ⟨g, cap, cur, rfl, hb', hg, r⟩
  · exact .inl h2
  · have := h3 g rfl
    exact .inr ⟨g, cap, cur, rfl, hb', by rw [hc.block g (Array.getElem?_eq_some_iff.1 hg).1 (by omega)]; exact hg, r⟩

theorem Own.below {w w' : World} {lo hi : Nat} {v : Value} {zs : List Int} (h : Own w lo hi v zs) (hb : Below w.heap.size w w') : Own w' lo hi v zs :=
  h.kept (below_chg hb hi hi) (.inl (Nat.le_refl _))

theorem Own.mono {w : World} {lo hi lo' hi' : Nat} {v : Value} {zs : List Int} (h : Own w lo hi v zs) (h1 : lo' ≤ lo) (h2 : hi ≤ hi') : Own w lo' hi' v zs := by
  obtain ⟨hl, ⟨h1', h2'⟩, h3⟩ := h
  refine ⟨hl, ⟨h1', ?_⟩, fun k hk => Nat.lt_of_lt_of_le (h3 k hk) h2⟩
  rcases h2' with h2' | ⟨g, cap, cur, e, hb', r⟩
  · exact .inl h2'
  · exact .inr ⟨g, cap, cur, e, by omega, r⟩

theorem own_of {w : World} {lo : Nat} {v : Value} {zs : List Int} (hl : zs.length ≤ 17592186044416) (h : w.ownsRow lo 2 1 v zs.length (zs.map (Value.int .i64))) : Own w lo w.heap.size v zs :=
  ⟨hl, h, fun k hk => (h.lt k hk).2⟩

theorem own_nil (w : World) (lo hi : Nat) : Own w lo hi (.slice none 0 0) [] := ⟨by simp, World.ownsRow_nil _ _ _ _, fun k hk => by cases hk⟩

theorem Tryd.infoInt64 : (Tryd.prog.info? 2).map (fun i => (i.zero, i.size, i.bytes)) = some (some (.int .i64 0), 1, 8) := by kernel_rfl
theorem Tryd.own : ownKnob Tryd.prog.godebug = none := by kernel_rfl
theorem Tryd.laidOut : laidOutB Tryd.prog = true := by kernel_rfl
theorem Tryd.cellsInt64 : Tryd.prog.cellsOf 2 = 1 := by kernel_rfl
theorem Tryd.bytesInt64 : Tryd.prog.bytesOf 2 = 8 := by kernel_rfl

theorem trodAll_mk {H : Type} {enc : TypeId × Value → H} {P : Program} {w : World} {base : Nat} {sp : Nat → Bool} {held : Bool} {t : TypeId} {ts : List TypeId} {v : Value} {vs : List Value} {d : DataW H} {ds : List (DataW H)} {p q : List MemPlace}
    (h : DataW.Trod enc P w base sp held t v d p) (h' : DataW.TrodAll enc P w base sp held ts vs ds q) : DataW.TrodAll enc P w base sp held (t :: ts) (v :: vs) (d :: ds) (p ++ q) := ⟨p, q, h, h', rfl⟩

theorem ret_int {k : IntKind} {a b : Int} (h : a = b) : Ending.returned (.int k a) = .returned (.int k b) := by rw [h]
theorem ret_bool {a b : Bool} (h : a = b) : Ending.returned (.bool a) = .returned (.bool b) := by rw [h]
theorem ret_string {a b : ByteArray} (h : a = b) : Ending.returned (.string a) = .returned (.string b) := by rw [h]

theorem ret2 {a b a' b' : Value} (h1 : a = a') (h2 : b = b') : Ending.returned (.tuple #[a, b]) = .returned (.tuple #[a', b']) := by rw [h1, h2]
theorem ret3 {a b c a' b' c' : Value} (h1 : a = a') (h2 : b = b') (h3 : c = c') : Ending.returned (.tuple #[a, b, c]) = .returned (.tuple #[a', b', c']) := by rw [h1, h2, h3]
theorem vint {k : IntKind} {a b : Int} (h : a = b) : Value.int k a = .int k b := by rw [h]
theorem vbool {a b : Bool} (h : a = b) : Value.bool a = .bool b := by rw [h]

theorem str_ne {s : ByteArray} (h : 1 ≤ s.size) : s.toList.isEmpty = false := by
  rw [ByteArray.toList_eq]
  cases hl : s.data.toList with
  | nil =>
    have e1 : s.data.toList.length = 0 := by rw [hl]; rfl
    have e2 : s.size = s.data.toList.length := by rw [Array.length_toList]; rfl
    omega
  | cons _ _ => rfl
theorem str_nil {s : ByteArray} (h : s.size = 0) : s.toList.isEmpty = true := by
  rw [ByteArray.toList_eq]
  have e2 : s.size = s.data.toList.length := by rw [Array.length_toList]; rfl
  have : s.data.toList = [] := List.length_eq_zero_iff.1 (by omega)
  rw [this]; rfl

theorem dd2 (w : World) (a b : Nat) : (w.drewN a).drewN b = w.drewN (a + b) := World.drewN_drewN _ _ _
theorem dd3 (w : World) (a b c : Nat) : ((w.drewN a).drewN b).drewN c = w.drewN (a + (b + c)) := by rw [World.drewN_drewN, World.drewN_drewN]
theorem below_dn2 (w : World) (a b : Nat) : Below w.heap.size w ((w.drewN a).drewN b) := by rw [dd2]; exact below_dn _ _
theorem below_dn3 (w : World) (a b c : Nat) : Below w.heap.size w (((w.drewN a).drewN b).drewN c) := by rw [dd3]; exact below_dn _ _

/-- The first number below n that passes a test. -/
def findI (P : Nat → Bool) : Nat → Option Nat
  | 0 => none
  | n + 1 => match findI P n with
    | some i => some i
    | none => if P n then some n else none

theorem findI_none {P : Nat → Bool} : ∀ {n : Nat}, (∀ j, j < n → P j = false) → findI P n = none
  | 0, _ => rfl
  | n + 1, h => by
    have h1 := findI_none (P := P) (n := n) (fun j hj => h j (by omega))
    simp [findI, h1, h n (by omega)]

theorem findI_some {P : Nat → Bool} {i : Nat} (hp : P i = true) (hb : ∀ j, j < i → P j = false) : ∀ {n : Nat}, i < n → findI P n = some i
  | 0, h => absurd h (Nat.not_lt_zero i)
  | n + 1, h => by
    by_cases hi : i = n
    · subst hi
      simp [findI, findI_none hb, hp]
    · simp [findI, findI_some hp hb (show i < n by omega)]

theorem findI_none_iff {P : Nat → Bool} {n : Nat} : findI P n = none ↔ ∀ j, j < n → P j = false := by
  refine ⟨fun h j hj => ?_, findI_none⟩
  cases hp : P j with
  | false => rfl
  | true =>
    exfalso
    induction n with
    | zero => omega
    | succ n ih =>
      cases hn : findI P n with
      | some i => simp [findI, hn] at h
      | none =>
        by_cases hjn : j < n
        · exact ih hn hjn
        · obtain rfl : j = n := by omega
          simp [findI, hn, hp] at h

theorem findI_spec {P : Nat → Bool} {n i : Nat} (h : findI P n = some i) : i < n ∧ P i = true ∧ ∀ j, j < i → P j = false := by
  induction n with
  | zero => cases h
  | succ n ih =>
    cases hn : findI P n with
    | some k =>
      simp [findI, hn] at h
      subst h
      have := ih hn
      exact ⟨by omega, this.2⟩
    | none =>
      simp [findI, hn] at h
      obtain ⟨hp, rfl⟩ := h
      exact ⟨by omega, hp, fun j hj => findI_none_iff.1 hn j hj⟩

theorem ne_nil {p : List Int} (h : 1 ≤ p.length) : ¬ p = [] := by rintro rfl; simp at h
theorem bF {a b : Int} (h : a ≠ b) : (a == b) = false := beq_eq_false_iff_ne.2 h
theorem bT {a b : Int} (h : a = b) : (a == b) = true := beq_iff_eq.2 h

/-- '[]int64{}': a new row of no places. -/
theorem own_made (w : World) : (w.alloc (.cells #[] 2)).ownsRow w.heap.size 2 1 (.slice (some ⟨w.heap.size, 0, none⟩) 0 0) ([] : List Int).length (([] : List Int).map (Value.int .i64)) :=
  World.ownsRow_made w #[] 0 (Nat.le_refl _) (by decide) (by simp)
theorem below_made (w : World) : Below w.heap.size w (w.alloc (.cells #[] 2)) := (Below.refl _ _).alloc (Nat.le_refl _) _

theorem row_below {w w' : World} {lo size n : Nat} {e : TypeId} {v : Value} {xs : List Value} (h : w.ownsRow lo e size v n xs) (hb : Below w.heap.size w w') : w'.ownsRow lo e size v n xs := by
  obtain ⟨h1, h2⟩ := h
  refine ⟨h1, ?_⟩
  rcases h2 with h2 | ⟨g, cap, cur, rfl, hb', hg, r⟩
  · exact .inl h2
  · exact .inr ⟨g, cap, cur, rfl, hb', by rw [hb.block g (Array.getElem?_eq_some_iff.1 hg).1]; exact hg, r⟩

/-- A slice of numbers of the call's own that is not empty, opened. -/
theorem Own.opened {w : World} {lo hi : Nat} {v : Value} {zs : List Int} (h : Own w lo hi v zs) (hn : 1 ≤ zs.length) :
    ∃ g cap, v = .slice (some ⟨g, 0, none⟩) zs.length cap ∧ lo ≤ g ∧ g < hi ∧ g < w.heap.size ∧ (∀ j, j < zs.length → w.cell? ⟨g, j, none⟩ = some (.int .i64 (gi zs j))) ∧ (∀ j, w.frozen? ⟨g, j, none⟩ = false) := by
  obtain ⟨hl, h', hh⟩ := h
  have h2 := h'
  obtain ⟨h1, h2⟩ := h2
  rcases h2 with ⟨rfl, h0⟩ | ⟨g, cap, cur, rfl, hb, hg, hn', hm, hs, ht⟩
  · omega
  · exact ⟨g, cap, rfl, hb, hh g rfl, (Array.getElem?_eq_some_iff.1 hg).1, fun j hj => by rw [h'.cellAt j (by omega)]; simp [gi, hj], fun j => h'.frozenAt j⟩

/-- One place of it written. -/
theorem Own.set {w : World} {lo hi g cap n : Nat} {zs : List Int} (hn : n = zs.length) (h : Own w lo hi (.slice (some ⟨g, 0, none⟩) n cap) zs) (j : Nat) (x : Int) :
    Own (w.setCell ⟨g, j, none⟩ (.int .i64 x)) lo hi (.slice (some ⟨g, 0, none⟩) n cap) (zs.set j x) := by
  subst hn
  obtain ⟨hl, h', hh⟩ := h
  have hs := (h'.stored j (.int .i64 x)).1
  refine ⟨by simpa using hl, ?_, hh⟩
  rw [List.length_set, List.map_set]
  exact hs

theorem gi_set {zs : List Int} {i j : Nat} {x : Int} (hi : i < zs.length) : gi (zs.set i x) j = if j = i then x else gi zs j := by
  unfold gi
  by_cases h : j = i
  · subst h; simp [hi]
  · have h' : ¬ i = j := fun e => h e.symm
    simp [h, h']
end Go.Proofs.YtengmacnaifbjaaDoor
