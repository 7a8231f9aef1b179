/-
  The program's sorting of the throws of a beat (chapter 4), by sort.Slice. No condition beyond each contract's own.
-/
import Derived.Test.YtloebbeaccjgjaaSo1
import Derived.Shelf.GgSortFunc.Whole
import Derived.Shelf.GgSortFunc.Tiny
import Derived.Ground.GgsProg
import Derived.Lib.RowBridge
import Derived.Lib.SortBridge
import Derived.Sort.LotA
import Derived.Deep.QuietTactic
namespace Go.Proofs.Ytloebbeaccjgjaa
open Go.ChangeShapes Go.WideShapes Go.ChangeAt Go.RowKit

open Go.Shelf

def Try.sa6_ren : Go.Shelf.Ren := ⟨fun | 6 => 36 | 10 => 47 | 11 => 48 | 12 => 49 | 13 => 50 | 14 => 51 | 24 => 63 | 25 => 64 | 26 => 65 | 27 => 66 | 28 => 67 | 29 => 68 | 30 => 69 | 31 => 70 | 32 => 71 | 33 => 72 | 34 => 73 | 35 => 74 | 36 => 75 | 37 => 76 | 38 => 77 | 39 => 78 | n => n, fun | 20 => 20 | 26 => 53 | 35 => 64 | 0 => 0 | 37 => 66 | 3 => 3 | 41 => 70 | 44 => 73 | 49 => 78 | 51 => 80 | 4 => 4 | 54 => 83 | 53 => 82 | 58 => 87 | 5 => 5 | 9 => 9 | 60 => 89 | 64 => 93 | 66 => 95 | 67 => 96 | 17 => 17 | 32 => 61 | 33 => 62 | 82 => 111 | 12 => 12 | 75 => 104 | 76 => 105 | 77 => 106 | 78 => 107 | 79 => 108 | 80 => 109 | n => n, fun | n => n⟩
theorem Try.sa6 : Go.Proofs.LaysGg.n6 Try.prog Try.sa6_ren := {
  mixed := by kernel_rfl
  f6 := Try.func36.trans (congrArg some (by kernel_rfl))
  f10 := Try.func47.trans (congrArg some (by kernel_rfl))
  f11 := Try.func48.trans (congrArg some (by kernel_rfl))
  f12 := Try.func49.trans (congrArg some (by kernel_rfl))
  f13 := Try.func50.trans (congrArg some (by kernel_rfl))
  f14 := Try.func51.trans (congrArg some (by kernel_rfl))
  f24 := Try.func63.trans (congrArg some (by kernel_rfl))
  f25 := Try.func64.trans (congrArg some (by kernel_rfl))
  f26 := Try.func65.trans (congrArg some (by kernel_rfl))
  f27 := Try.func66.trans (congrArg some (by kernel_rfl))
  f28 := Try.func67.trans (congrArg some (by kernel_rfl))
  f29 := Try.func68.trans (congrArg some (by kernel_rfl))
  f30 := Try.func69.trans (congrArg some (by kernel_rfl))
  f31 := Try.func70.trans (congrArg some (by kernel_rfl))
  f32 := Try.func71.trans (congrArg some (by kernel_rfl))
  f33 := Try.func72.trans (congrArg some (by kernel_rfl))
  f34 := Try.func73.trans (congrArg some (by kernel_rfl))
  f35 := Try.func74.trans (congrArg some (by kernel_rfl))
  f36 := Try.func75.trans (congrArg some (by kernel_rfl))
  f37 := Try.func76.trans (congrArg some (by kernel_rfl))
  f38 := Try.func77.trans (congrArg some (by kernel_rfl))
  f39 := Try.func78.trans (congrArg some (by kernel_rfl))
  t0 := Try.underlying0
  a0 := Try.isAgg0
  z0 := Try.sizeOf0
  v0 := Try.zeroValue0
  i0 := by kernel_rfl
  t3 := Try.underlying3
  a3 := Try.isAgg3
  z3 := Try.sizeOf3
  v3 := Try.zeroValue3
  i3 := by kernel_rfl
  t4 := Try.underlying4
  a4 := Try.isAgg4
  z4 := Try.sizeOf4
  v4 := Try.zeroValue4
  i4 := by kernel_rfl
  t5 := Try.underlying5
  a5 := Try.isAgg5
  z5 := Try.sizeOf5
  v5 := Try.zeroValue5
  i5 := by kernel_rfl
  t9 := Try.underlying9
  a9 := Try.isAgg9
  z9 := Try.sizeOf9
  v9 := Try.zeroValue9
  i9 := by kernel_rfl
  t12 := Try.underlying12
  a12 := Try.isAgg12
  z12 := Try.sizeOf12
  v12 := Try.zeroValue12
  i12 := by kernel_rfl
  t17 := Try.underlying17
  a17 := Try.isAgg17
  z17 := Try.sizeOf17
  v17 := Try.zeroValue17
  i17 := by kernel_rfl
  t20 := Try.underlying20
  a20 := Try.isAgg20
  z20 := Try.sizeOf20
  v20 := Try.zeroValue20
  i20 := by kernel_rfl
  t26 := Try.underlying53
  a26 := Try.isAgg53
  z26 := Try.sizeOf53
  v26 := Try.zeroValue53
  i26 := by kernel_rfl
  t32 := Try.underlying61
  a32 := Try.isAgg61
  z32 := Try.sizeOf61
  v32 := Try.zeroValue61
  i32 := by kernel_rfl
  t33 := Try.underlying62
  a33 := Try.isAgg62
  z33 := Try.sizeOf62
  v33 := Try.zeroValue62
  i33 := by kernel_rfl
  t35 := Try.underlying64
  a35 := Try.isAgg64
  z35 := Try.sizeOf64
  v35 := Try.zeroValue64
  i35 := by kernel_rfl
  t37 := Try.underlying66
  a37 := Try.isAgg66
  z37 := Try.sizeOf66
  v37 := Try.zeroValue66
  i37 := by kernel_rfl
  t41 := Try.underlying70
  a41 := Try.isAgg70
  z41 := Try.sizeOf70
  v41 := Try.zeroValue70
  i41 := by kernel_rfl
  t44 := Try.underlying73
  a44 := Try.isAgg73
  z44 := Try.sizeOf73
  v44 := Try.zeroValue73
  i44 := by kernel_rfl
  t49 := Try.underlying78
  a49 := Try.isAgg78
  z49 := Try.sizeOf78
  v49 := Try.zeroValue78
  i49 := by kernel_rfl
  t51 := Try.underlying80
  a51 := Try.isAgg80
  z51 := Try.sizeOf80
  v51 := Try.zeroValue80
  i51 := by kernel_rfl
  t53 := Try.underlying82
  a53 := Try.isAgg82
  z53 := Try.sizeOf82
  v53 := Try.zeroValue82
  i53 := by kernel_rfl
  t54 := Try.underlying83
  a54 := Try.isAgg83
  z54 := Try.sizeOf83
  v54 := Try.zeroValue83
  i54 := by kernel_rfl
  t58 := Try.underlying87
  a58 := Try.isAgg87
  z58 := Try.sizeOf87
  v58 := Try.zeroValue87
  i58 := by kernel_rfl
  t60 := Try.underlying89
  a60 := Try.isAgg89
  z60 := Try.sizeOf89
  v60 := Try.zeroValue89
  i60 := by kernel_rfl
  t64 := Try.underlying93
  a64 := Try.isAgg93
  z64 := Try.sizeOf93
  v64 := Try.zeroValue93
  i64 := by kernel_rfl
  t66 := Try.underlying95
  a66 := Try.isAgg95
  z66 := Try.sizeOf95
  v66 := Try.zeroValue95
  i66 := by kernel_rfl
  t67 := Try.underlying96
  a67 := Try.isAgg96
  z67 := Try.sizeOf96
  v67 := Try.zeroValue96
  i67 := by kernel_rfl
  t75 := Try.underlying104
  a75 := Try.isAgg104
  z75 := Try.sizeOf104
  v75 := Try.zeroValue104
  i75 := by kernel_rfl
  t76 := Try.underlying105
  a76 := Try.isAgg105
  z76 := Try.sizeOf105
  v76 := Try.zeroValue105
  i76 := by kernel_rfl
  t77 := Try.underlying106
  a77 := Try.isAgg106
  z77 := Try.sizeOf106
  v77 := Try.zeroValue106
  i77 := by kernel_rfl
  t78 := Try.underlying107
  a78 := Try.isAgg107
  z78 := Try.sizeOf107
  v78 := Try.zeroValue107
  i78 := by kernel_rfl
  t79 := Try.underlying108
  a79 := Try.isAgg108
  z79 := Try.sizeOf108
  v79 := Try.zeroValue108
  i79 := by kernel_rfl
  t80 := Try.underlying109
  a80 := Try.isAgg109
  z80 := Try.sizeOf109
  v80 := Try.zeroValue109
  i80 := by kernel_rfl
  t82 := Try.underlying111
  a82 := Try.isAgg111
  z82 := Try.sizeOf111
  v82 := Try.zeroValue111
  i82 := by kernel_rfl }

noncomputable def siT : TypeInfo := (Try.prog.info? 22).get (by kernel_rfl)
noncomputable def siE : TypeInfo := (Try.prog.info? 2).get (by kernel_rfl)
theorem siK (n : Nat) (h2 : 2 ≤ n) : Lib.swapperK n siE 6 = 5 := by
  have a : siE.hasPointers = false := by kernel_rfl
  have b : siE.bytes = 8 := by kernel_rfl
  have c : (n == 0) = false := by simp; omega
  have d : (n == 1) = false := by simp; omega
  simp [Lib.swapperK, a, b, c, d]
def ltD (x y : Int) : Bool := decide (y < x)
theorem swo_ltD : Go.Sort.SWO ltD where
  irrefl x := by simp [ltD]
  trans x y z h1 h2 := by simp only [ltD, decide_eq_true_eq] at *; omega
  ntrans x y z h1 h2 := by simp only [ltD, decide_eq_false_iff_not] at *; omega

/-- What has been sorted is the one falling order. -/
theorem sorted_desc (d d' : Array Int) (hp : Go.Sort.PermIn 0 d.size d d') (hs : Go.Sort.SortedIn ltD 0 d.size d') : Desc d'.toList ∧ d'.toList.Perm d.toList ∧ d'.size = d.size := by
  obtain ⟨hsz, _, hperm⟩ := hp
  have e1 : d'.extract 0 d.size = d' := by rw [← hsz]; exact Array.extract_size
  rw [e1, Array.extract_size] at hperm
  refine ⟨?_, hperm, hsz⟩
  refine List.pairwise_iff_getElem.2 fun i j hi hj hij => ?_
  have hi' : i < d'.size := by simpa using hi
  have hj' : j < d'.size := by simpa using hj
  have := hs i j (Nat.zero_le _) hij (by omega)
  rw [getElem!_pos d' j hj', getElem!_pos d' i hi'] at this
  simp only [ltD, decide_eq_false_iff_not] at this
  simp only [Array.getElem_toList]
  omega

set_option maxHeartbeats 2000000 in
/-- The closure that sort.Slice is handed: it reads the variable's cell and two of the row's. -/
theorem less_any (blk off c Bs size : Nat) (W : World) (G : Nat → Int) (hs : W.cell? ⟨Bs, 0, none⟩ = some (.slice (some ⟨blk, off, none⟩) size c))
    (hc : ∀ t, t < size → W.cell? ⟨blk, off + t, none⟩ = some (.int .i64 (G t))) (i j : Nat) (hi : i < size) (hj : j < size) :
    Calls Try.prog 37 #[.int .i64 i, .int .i64 j, .pointer (some ⟨Bs, 0, none⟩)] W fun e w' => e = .returned (.bool (ltD (G i) (G j))) ∧ ∃ q, w' = W.drewN q := by
  have ci := hc i hi
  have cj := hc j hj
  clear hc
  go_enter Try.func37, Try.ntmps37
  go_wp2
  go_quiet (fail)
  go_wp2
  go_ret
  exact ⟨rfl, nq, rfl⟩

set_option maxHeartbeats 2000000 in
/-- sort.Slice on two numbers or more. -/
theorem sort_many (blk c Bs : Nat) (d : Array Int) (h2 : 2 ≤ d.size) (h12 : d.size ≤ 1048576) (w : World) (hH : Go.Sort.Holds (Value.int .i64) w blk 0 d) (hblk : blk < w.heap.size)
    (hBs : w.cell? ⟨Bs, 0, none⟩ = some (.slice (some ⟨blk, 0, none⟩) d.size c)) (hB1 : Bs < w.heap.size) (hB2 : Bs ≠ blk) :
    Calls Try.prog 36 #[.iface 22 (.slice (some ⟨blk, 0, none⟩) d.size c), .func (.func 37) #[] #[.pointer (some ⟨Bs, 0, none⟩)]] w fun e w' =>
      e = .returned (.tuple #[]) ∧ ∃ d' n os, Desc d'.toList ∧ d'.toList.Perm d.toList ∧ d'.size = d.size ∧ w' = Go.Sort.grow (Go.Sort.putRow (Value.int .i64) (Go.Sort.ahead w n) blk 0 d') os := by
  have hless : LessReads Try.prog 37 #[.pointer (some ⟨Bs, 0, none⟩)] (Value.int .i64) ltD blk 0 d.size w := by
    intro m os dk hs i j hi hj
    have e : sortWorld (Value.int .i64) w blk 0 m dk os = Go.Sort.putRow (Value.int .i64) (Go.Sort.grow (Go.Sort.ahead w m) os) blk 0 dk := by
      unfold sortWorld; rw [Go.Sort.putRow_grow _ (Go.Sort.ahead w m) _ blk 0 _ hblk]
    have hHg : Go.Sort.Holds (Value.int .i64) (Go.Sort.grow (Go.Sort.ahead w m) os) blk 0 d := Go.Sort.holds_grow _ _ _ blk 0 d hblk (Go.Sort.holds_ahead _ _ _ _ _ _ hH)
    refine less_any blk 0 c Bs d.size _ (fun t => dk[t]!) ?_ (fun t ht => ?_) i j hi hj
    · rw [e, Go.Sort.cell?_putRow_other _ _ blk 0 dk _ (Or.inl (by exact hB2)), Go.Sort.cell?_grow _ _ _ (by exact hB1)]; exact hBs
    · rw [e]; exact Go.Sort.cell?_putRow _ _ blk 0 d dk hHg hs t (by omega)
  have hS := Any.sort_Slice_sorted Try.sa6 22 2 siT siE (by kernel_rfl) (by kernel_rfl) (by kernel_rfl) (by kernel_rfl) 6 (fun _ => by kernel_rfl) (by kernel_rfl) (fun _ => by kernel_rfl) (Value.int .i64) (fun _ => rfl) ltD swo_ltD 37 _
    (enters_of Try.func37 (by kernel_rfl) rfl) blk 0 c d h2 (by omega) 58 (by rw [siK _ h2]; kernel_rfl) true
    (fun args W => run_callFunc_extern Try.func58 (by kernel_rfl) (by kernel_rfl) (by kernel_rfl) (e := Extern.ReflectliteSwapper.swap true) (by kernel_rfl) args W) w hless hH hblk
  refine Calls.mono hS ?_
  rintro e w' ⟨he, d', n, os, hp, hso, hw⟩
  obtain ⟨h1, h3, h4⟩ := sorted_desc d d' hp hso
  exact ⟨he, d', n, os, h1, h3, h4, hw⟩

set_option maxHeartbeats 2000000 in
/-- .. on one. -/
theorem sort_one (p : Option Addr) (c Bs : Nat) (w : World) :
    Calls Try.prog 36 #[.iface 22 (.slice p 1 c), .func (.func 37) #[] #[.pointer (some ⟨Bs, 0, none⟩)]] w fun e w' => e = .returned (.tuple #[]) ∧ ∃ os, w' = Go.Sort.grow w os :=
  Any.sort_Slice_tiny Try.sa6 22 2 siT siE (by kernel_rfl) (by kernel_rfl) (by kernel_rfl) (by kernel_rfl) 6 (fun _ => by kernel_rfl) p 1 c (Nat.le_refl _) 55 (by
    rw [show Lib.swapperK 1 siE 6 = 2 by simp [Lib.swapperK]]
    kernel_rfl) (.func 37) #[] #[.pointer (some ⟨Bs, 0, none⟩)] w
end Go.Proofs.Ytloebbeaccjgjaa
