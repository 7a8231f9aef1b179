/-
  Decimal, by the reference and by the program: contracts. No condition beyond each contract's own.
-/
import Derived.Test.YtengmacnaifbjaaDoorBytes
import Derived.Shelf.Strconv.Itoa4
import Derived.Ground.NamesProg
namespace Go.Proofs.YtengmacnaifbjaaDoor
open Go.ChangeShapes Go.WideShapes Go.ChangeAt Go.RowKit

open Go.Shelf Go.PlainAid

def Tryd.lays173_ren : Go.Shelf.Ren := ⟨fun | 173 => 10 | 246 => 13 | 283 => 15 | 284 => 16 | 285 => 17 | 286 => 18 | 129 => 20 | 317 => 19 | 318 => 21 | 319 => 22 | 320 => 23 | 337 => 24 | 338 => 25 | n => n, fun | 2 => 2 | 3 => 3 | 9 => 9 | 4 => 4 | 171 => 31 | 0 => 0 | 53 => 32 | 37 => 29 | 5 => 5 | 173 => 35 | 212 => 39 | 51 => 40 | 20 => 20 | 213 => 41 | 46 => 43 | 232 => 46 | 233 => 47 | n => n, fun | 17 => 0 | 18 => 1 | 19 => 2 | n => n⟩
theorem Tryd.lays173 : Go.Proofs.LaysM.n173 Tryd.prog Tryd.lays173_ren := {
  mixed := by kernel_rfl
  f129 := Tryd.func20.trans (congrArg some (by kernel_rfl))
  f173 := Tryd.func10.trans (congrArg some (by kernel_rfl))
  f246 := Tryd.func13.trans (congrArg some (by kernel_rfl))
  f283 := Tryd.func15.trans (congrArg some (by kernel_rfl))
  f284 := Tryd.func16.trans (congrArg some (by kernel_rfl))
  f285 := Tryd.func17.trans (congrArg some (by kernel_rfl))
  f286 := Tryd.func18.trans (congrArg some (by kernel_rfl))
  f317 := Tryd.func19.trans (congrArg some (by kernel_rfl))
  f318 := Tryd.func21.trans (congrArg some (by kernel_rfl))
  f319 := Tryd.func22.trans (congrArg some (by kernel_rfl))
  f320 := Tryd.func23.trans (congrArg some (by kernel_rfl))
  f337 := Tryd.func24.trans (congrArg some (by kernel_rfl))
  f338 := Tryd.func25.trans (congrArg some (by kernel_rfl))
  t0 := Tryd.underlying0
  a0 := Tryd.isAgg0
  z0 := Tryd.sizeOf0
  v0 := Tryd.zeroValue0
  t2 := Tryd.underlying2
  a2 := Tryd.isAgg2
  z2 := Tryd.sizeOf2
  v2 := Tryd.zeroValue2
  t3 := Tryd.underlying3
  a3 := Tryd.isAgg3
  z3 := Tryd.sizeOf3
  v3 := Tryd.zeroValue3
  t4 := Tryd.underlying4
  a4 := Tryd.isAgg4
  z4 := Tryd.sizeOf4
  v4 := Tryd.zeroValue4
  t5 := Tryd.underlying5
  a5 := Tryd.isAgg5
  z5 := Tryd.sizeOf5
  v5 := Tryd.zeroValue5
  t9 := Tryd.underlying9
  a9 := Tryd.isAgg9
  z9 := Tryd.sizeOf9
  v9 := Tryd.zeroValue9
  t20 := Tryd.underlying20
  a20 := Tryd.isAgg20
  z20 := Tryd.sizeOf20
  v20 := Tryd.zeroValue20
  t37 := Tryd.underlying29
  a37 := Tryd.isAgg29
  z37 := Tryd.sizeOf29
  v37 := Tryd.zeroValue29
  t46 := Tryd.underlying43
  a46 := Tryd.isAgg43
  z46 := Tryd.sizeOf43
  v46 := Tryd.zeroValue43
  t51 := Tryd.underlying40
  a51 := Tryd.isAgg40
  z51 := Tryd.sizeOf40
  v51 := Tryd.zeroValue40
  t53 := Tryd.underlying32
  a53 := Tryd.isAgg32
  z53 := Tryd.sizeOf32
  v53 := Tryd.zeroValue32
  t171 := Tryd.underlying31
  a171 := Tryd.isAgg31
  z171 := Tryd.sizeOf31
  v171 := Tryd.zeroValue31
  t173 := Tryd.underlying35
  a173 := Tryd.isAgg35
  z173 := Tryd.sizeOf35
  v173 := Tryd.zeroValue35
  t212 := Tryd.underlying39
  a212 := Tryd.isAgg39
  z212 := Tryd.sizeOf39
  v212 := Tryd.zeroValue39
  t213 := Tryd.underlying41
  a213 := Tryd.isAgg41
  z213 := Tryd.sizeOf41
  t232 := Tryd.underlying46
  a232 := Tryd.isAgg46
  z232 := Tryd.sizeOf46
  v232 := Tryd.zeroValue46
  t233 := Tryd.underlying47
  a233 := Tryd.isAgg47
  z233 := Tryd.sizeOf47
  v233 := Tryd.zeroValue47
  g17 := by kernel_rfl
  g18 := by kernel_rfl
  g19 := by kernel_rfl
  i0 := by kernel_rfl
  i2 := by kernel_rfl
  i3 := by kernel_rfl
  i4 := by kernel_rfl
  i5 := by kernel_rfl
  i9 := by kernel_rfl
  i20 := by kernel_rfl
  i37 := by kernel_rfl
  i46 := by kernel_rfl
  i51 := by kernel_rfl
  i53 := by kernel_rfl
  i171 := by kernel_rfl
  i173 := by kernel_rfl
  i212 := by kernel_rfl
  i232 := by kernel_rfl
  i233 := by kernel_rfl
  m17 := by kernel_rfl
  m18 := by kernel_rfl
  m19 := by kernel_rfl }

theorem formatInt_any (n : Int) (h0 : -9223372036854775808 ≤ n) (h1 : n ≤ 9223372036854775807) (w : World) (htab : Lib.TabIs Tryd.prog w "internal/strconv.uint64pow10" .u64 Lib.pow10Tab) :
    Calls Tryd.prog 10 #[.int .i64 n, .int .i64 10] w fun e w' => e = .returned (.string ⟨(Lib.itoa n).toArray⟩) ∧ ∃ k os, w' = Sort.grow (w.drewN k) os := Any.strconv_FormatInt_10 Tryd.lays173 n h0 h1 w htab

/-- The decimal digits of a number, ahead of others. -/
def dgI (k : Nat) (xs : List Int) : List Int := if k = 0 then xs else dgI (k / 10) ((48 + ((k % 10 : Nat) : Int)) :: xs)
termination_by k
decreasing_by omega
theorem dgI_zero (xs : List Int) : dgI 0 xs = xs := by rw [dgI, if_pos rfl]
theorem dgI_step {k : Nat} (h : k ≠ 0) (xs : List Int) : dgI k xs = dgI (k / 10) ((48 + ((k % 10 : Nat) : Int)) :: xs) := by rw [dgI, if_neg h]
def toI (l : List UInt8) : List Int := l.map fun b => (b.toNat : Int)
theorem digit_byte {d : Nat} (h : d < 10) : ((UInt8.ofNat (48 + d)).toNat : Int) = 48 + (d : Int) := by
  rw [UInt8.toNat_ofNat']
  omega
theorem dgI_dec (u : Nat) : 1 ≤ u → ∀ xs, dgI u xs = toI (Lib.decDigits u) ++ xs := by
  induction u using Nat.strongRecOn with
  | ind u ih =>
    intro hu xs
    rw [dgI_step (by omega), Lib.decDigits]
    by_cases h : u < 10
    · rw [dif_pos h, show u / 10 = 0 by omega, dgI_zero, show u % 10 = u by omega]
      simp only [toI, List.map_cons, List.map_nil, List.singleton_append]
      rw [digit_byte h]
    · rw [dif_neg h, ih (u / 10) (by omega) (by omega)]
      simp only [toI, List.map_append, List.map_cons, List.map_nil, List.append_assoc, List.singleton_append]
      rw [digit_byte (Nat.mod_lt _ (by omega))]
theorem str_toI (l : List UInt8) : strOfNums (toI l) = ⟨l.toArray⟩ := by
  have e : (toI l).map (fun n => UInt8.ofNat n.toNat) = l := by
    unfold toI
    rw [List.map_map]
    conv => rhs; rw [← List.map_id l]
    apply List.map_congr_left
    intro b _
    simp
  unfold strOfNums
  rw [e]
/-- What the reference's digits come to. -/
theorem dec_pos {n : Int} {xs : List Int} (h : xs = dgI n.natAbs []) (hn : 0 < n) : strOfNums xs = ⟨(Lib.itoa n).toArray⟩ := by
  rw [h, dgI_dec _ (by omega), List.append_nil, str_toI, Lib.itoa, if_neg (by omega), show n.natAbs = n.toNat by omega]
theorem dec_neg {n : Int} {xs : List Int} (h : xs = dgI n.natAbs []) (hn : n < 0) : ({ data := #[45] } : ByteArray) ++ strOfNums xs = ⟨(Lib.itoa n).toArray⟩ := by
  rw [h, dgI_dec _ (by omega), List.append_nil, str_toI, Lib.itoa, if_pos hn]
  apply ByteArray.ext
  simp [ByteArray.data_append]
theorem dec_zero : ({ data := #[48] } : ByteArray) = ⟨(Lib.itoa 0).toArray⟩ := by
  have : Lib.itoa 0 = [48] := by
    show Lib.decDigits 0 = [48]
    rw [Lib.decDigits, dif_pos (by omega)]
    rfl
  rw [this]
theorem dgI_nil {u : Nat} (h : dgI u [] = []) : u = 0 := by
  by_cases hu : u = 0
  · exact hu
  · rw [dgI_dec u (by omega), List.append_nil] at h
    have h2 := congrArg List.length h
    rw [toI, List.length_map, Lib.decDigits_length, Lib.nDigits] at h2
    split at h2 <;> simp at h2

theorem byte_one (w : World) (x : Int) : (w.alloc (.cells #[.int .u8 x] 5)).ownsRow w.heap.size 5 1 (.slice (some ⟨w.heap.size, 0, none⟩) 1 1) [x].length ([x].map (Value.int .u8)) :=
  ⟨by simp, .inr ⟨w.heap.size, 1, _, rfl, Nat.le_refl _, heap_alloc_new w _, Nat.le_refl _, by decide, by simp, by simp⟩⟩
theorem row_mono {w : World} {b b' size n : Nat} {e : TypeId} {v : Value} {xs : List Value} (h : w.ownsRow b e size v n xs) (hb : b' ≤ b) : w.ownsRow b' e size v n xs := by
  obtain ⟨h1, h2⟩ := h
  refine ⟨h1, ?_⟩
  rcases h2 with h2 | ⟨g, cap, cur, e, hb', r⟩
  · exact .inl h2
  · exact .inr ⟨g, cap, cur, e, by omega, r⟩
theorem row_open {w : World} {lo : Nat} {v : Value} {zs : List Int} (h : w.ownsRow lo 5 1 v zs.length (zs.map (Value.int .u8))) (hn : 1 ≤ zs.length) : ∃ g cap, v = .slice (some ⟨g, 0, none⟩) zs.length cap ∧ g < w.heap.size := by
  obtain ⟨h1, h2⟩ := h
  rcases h2 with ⟨rfl, h0⟩ | ⟨g, cap, cur, rfl, hb, hg, r⟩
  · omega
  · exact ⟨g, cap, rfl, (Array.getElem?_eq_some_iff.1 hg).1⟩
/-- 'append([]byte{x}, ys...)': a new row of one byte, and ys behind it. -/
theorem push_front {ops : Array Oper} {rest : List Oper} {o : Oper} {a : Act} {Q : Exit → Act → World → Prop} {w : World} {lo : Nat} {x : Int} {ys : List Int} {g c : Nat}
    (hgd : o.guard = none) (s xo : Operand) (ho : o.op = .call { callee := .builtin .append, args := #[s, xo], argTypes := #[29, 29] })
    (hs : a.eval s = .slice (some ⟨w.heap.size, 0, none⟩) 1 1) (hx : a.eval xo = .slice (some ⟨g, 0, none⟩) ys.length c) (hown : w.ownsRow lo 5 1 (.slice (some ⟨g, 0, none⟩) ys.length c) ys.length (ys.map (Value.int .u8)))
    (hlo : lo ≤ w.heap.size) (hl : ys.length ≤ 1000) (hg : g < w.heap.size)
    (h : ∀ g' c' w', w'.ownsRow lo 5 1 (.slice (some ⟨g', 0, none⟩) ([x] ++ ys).length c') ([x] ++ ys).length (([x] ++ ys).map (Value.int .u8)) → g' < w'.heap.size → Below lo w w' → wpList Tryd.prog ops Q rest (a.put o.dst (.slice (some ⟨g', 0, none⟩) ([x] ++ ys).length c')) w') :
    wpList Tryd.prog ops Q (o :: rest) a (w.alloc (.cells #[.int .u8 x] 5)) := by
  obtain ⟨i0, hi, hz0, hz1, hz2⟩ := info_parts Tryd.infoU8
  have hb1 := (Below.refl w.heap.size w).alloc (Nat.le_refl _) (.cells #[.int .u8 x] 5)
  refine wpList_append_own _ hgd s xo 29 ho lo 5 i0 (.int .u8 0) 1 1 Tryd.underlying29 hi hz0 hz1 hz2 rfl (by decide) _ [x].length _ hs (row_mono (byte_one w x) hlo) ⟨g, 0, none⟩ ys.length c (ys.map (Value.int .u8)) hx (by simp) ?_ (by intro u hu; simp at hu; obtain ⟨z, _, rfl⟩ := hu; rfl) (by unfold maxLen; simp; omega) (by simp; omega) (by simp; omega) ?_
  · intro j u hu
    have hj : j < ys.length := by
      have := (List.getElem?_eq_some_iff.1 hu).1
      simpa using this
    rw [Addr.add_lit, Nat.zero_add, hb1.cell (p := ⟨g, j, none⟩) hg, hown.cellAt j (by omega)]
    exact hu
  intro v' w' hown' hgr _
  have hown2 : w'.ownsRow lo 5 1 v' ([x] ++ ys).length (([x] ++ ys).map (Value.int .u8)) := by rw [List.length_append, List.map_append]; exact hown'
  obtain ⟨g', c', rfl, hg'⟩ := row_open hown2 (by simp)
  refine h g' c' w' hown2 hg' ?_
  exact ((Below.refl _ _).alloc hlo _).grown hgr (by simp; omega) (fun k hk => by simp [Value.ownBlock] at hk; omega)
end Go.Proofs.YtengmacnaifbjaaDoor
