/-
  Notations (chapter 7) in memory: what they read as; an argument opened. No condition.
-/
import Derived.Test.YtdagakjeefhimaaM1
import Derived.Test.YtdagakjeefhimaaP1
import Derived.Test.YtdagakjeefhimaaY3
namespace Go.Proofs.Ytdagakjeefhimaa
open Go.ChangeShapes Go.WideShapes Go.ChangeAt Go.RowKit


set_option maxRecDepth 100000 in
theorem rdI_open {H : Type} {enc : TypeId × Value → H} {W : World} {fuel : Nat} {v : Value} {x : DataW H × List MemPlace}
    (hf : DataW.trod enc Try.prog W 0 (fun _ => true) true fuel 22 [v] = some x) (hr : ∀ k ∈ DataW.weights Try.prog 22 x.1, k ≤ reachBytes) :
    ∃ A : List Int, Rd W v A := by
  rcases open_ints Try.underlying22 Try.underlying2 Try.cellsInt64 hf with ⟨hcs, hx⟩ | ⟨a, len, cap, zs, hcs, _, hl, hm, hz, hx, hcell, hwz⟩
  · simp at hcs
    subst hcs
    exact ⟨[], by simp, none, 0, rfl, fun h => absurd rfl h⟩
  · simp at hcs
    subst hcs
    simp only [if_true] at hz
    have hrr := hr (((lits (H := H) .i64 (zs.take len)).length + (lits (H := H) .i64 (zs.drop len)).length) * Try.prog.bytesOf 2) (by rw [hx]; simp [DataW.weights, Try.underlying22])
    rw [Try.bytesInt64] at hrr
    simp only [lits, List.length_map, List.length_take, List.length_drop, reachBytes] at hrr
    have hlen : (zs.take len).length = len := by simp; omega
    refine ⟨zs.take len, by omega, some a, cap, by rw [hlen], fun hn => ?_⟩
    rw [hlen] at hn
    have hc0 := hcell 0 (by omega)
    obtain ⟨b, o, s⟩ := a
    have hs : s = none := by simpa [Addr.add] using World.cell?_spot hc0
    subst hs
    refine ⟨b, o, rfl, by simpa [Addr.add] using World.block_lt_of_cell? W _ hc0, fun j hj => ?_⟩
    rw [hlen] at hj
    have := hcell j (by omega)
    rw [gi_take hj]
    rw [← Addr.add_lit]
    exact this

set_option maxRecDepth 100000 in
theorem rdYs_open {H : Type} {enc : TypeId × Value → H} {W : World} {fuel : Nat} {v : Value} {x : DataW H × List MemPlace}
    (hf : DataW.trod enc Try.prog W 0 (fun _ => true) true fuel 26 [v] = some x) (hr : ∀ k ∈ DataW.weights Try.prog 26 x.1, k ≤ reachBytes) :
    ∃ (n : Nat) (T : List Th), RdT 2 W v n T ∧ ∀ k, k < n * 2 → (Lit.int .i64 (gt T k).1).wf = true := by
  rcases Go.Deep.open_slice Try.underlying26 hf with ⟨hcs, hx⟩ | ⟨a, len, cap, m, nn, D, Pl, hcs, hb, hl, hm, hmm, hx, hi⟩
  · simp at hcs
    subst hcs
    exact ⟨0, [], ⟨by simp, by simp, none, 0, rfl, fun h => absurd rfl h⟩, fun k hk => absurd hk (by omega)⟩
  · simp at hcs
    subst hcs
    have hlm : len ≤ m := by rw [hmm]; split <;> omega
    have hrr := hr ((((List.range len).map D).length + ((List.range (m - len)).map fun j => D (len + j)).length) * Try.prog.bytesOf 66) (by rw [hx]; simp [DataW.weights, Try.underlying26])
    rw [Try.bytesSync] at hrr
    simp only [List.length_map, List.length_range, reachBytes] at hrr
    have key : ∀ i : Nat, ∃ q : Th × Th, i < len → W.cell? (a.add (i * 4)) = some (.int .i64 q.1.1) ∧ W.cell? (a.add (i * 4 + 1)) = some (.bool q.1.2) ∧ W.cell? (a.add (i * 4 + 2)) = some (.int .i64 q.2.1) ∧ W.cell? (a.add (i * 4 + 3)) = some (.bool q.2.2) ∧
        (Lit.int .i64 q.1.1).wf = true ∧ (Lit.int .i64 q.2.1).wf = true := by
      intro i
      by_cases hil : i < len
      · obtain ⟨cs', hc, ht⟩ := hi i (by omega)
        rw [Try.cellsSync] at hc
        obtain ⟨_, hlen, hcell⟩ := World.cells?_some hc
        obtain ⟨c0, c1, c2, c3, rfl⟩ := list4 hlen
        obtain ⟨y0, y1, n1, _, _, t0, t1⟩ := trod_struct2 Try.underlying66 ht
        obtain ⟨z0, z1, n2, _, _, s0, s1⟩ := trod_struct2 Try.underlying64 t0
        obtain ⟨z2, z3, n3, _, _, s2, s3⟩ := trod_struct2 Try.underlying64 t1
        simp [Try.cellsSyncT, Try.cellsInt64, Try.cellsBool] at s0 s1 s2 s3
        obtain ⟨x0, e0, _, w0⟩ := DataW.trod_int Try.underlying2 s0
        obtain ⟨x1, e1, _⟩ := DataW.trod_bool Try.underlying4 s1
        obtain ⟨x2, e2, _, w2⟩ := DataW.trod_int Try.underlying2 s2
        obtain ⟨x3, e3, _⟩ := DataW.trod_bool Try.underlying4 s3
        simp at e0 e1 e2 e3
        subst e0 e1 e2 e3
        refine ⟨((x0, x1), (x2, x3)), fun _ => ⟨?_, ?_, ?_, ?_, w0, w2⟩⟩
        · have := hcell 0 (by omega); rw [Go.Deep.add_add] at this; exact this
        · have := hcell 1 (by omega); rw [Go.Deep.add_add] at this; exact this
        · have := hcell 2 (by omega); rw [Go.Deep.add_add] at this; exact this
        · have := hcell 3 (by omega); rw [Go.Deep.add_add] at this; exact this
      · exact ⟨((0, false), (0, false)), fun h => absurd h hil⟩
    obtain ⟨f, hf2⟩ := Classical.axiomOfChoice key
    refine ⟨len, pairT f len, ⟨pairT_length f len, by omega, some a, cap, rfl, fun hn => ?_⟩, fun k hk => ?_⟩
    · have hc0 := (hf2 0 (by omega)).1
      obtain ⟨b, o, s⟩ := a
      have hs : s = none := by simpa [Addr.add] using World.cell?_spot hc0
      subst hs
      refine ⟨b, o, rfl, by simpa [Addr.add] using World.block_lt_of_cell? W _ hc0, fun k hk => ?_⟩
      rw [pairT_gt f hk]
      have h4 := hf2 (k / 2) (by omega)
      simp only [Addr.add_lit] at h4
      by_cases he : k % 2 = 0
      · rw [if_pos he, show o + 2 * k = o + k / 2 * 4 by omega, show o + (2 * k + 1) = o + (k / 2 * 4 + 1) by omega]
        exact ⟨h4.1, h4.2.1⟩
      · rw [if_neg he, show o + 2 * k = o + (k / 2 * 4 + 2) by omega, show o + (2 * k + 1) = o + (k / 2 * 4 + 3) by omega]
        exact ⟨h4.2.2.1, h4.2.2.2.1⟩
    · rw [pairT_gt f hk]
      have h4 := hf2 (k / 2) (by omega)
      by_cases he : k % 2 = 0
      · rw [if_pos he]; exact h4.2.2.2.2.1
      · rw [if_neg he]; exact h4.2.2.2.2.2

/-- A notation reads as its five parts. -/
def RdN (w : World) (vp vm vs va vb : Value) (P : List Int) (R : List (List Int)) (n : Nat) (T A B : List Th) : Prop :=
  Rd w vp P ∧ RdR w vm R ∧ RdT 2 w vs n T ∧ RdP w va vb A B
theorem RdN.below {w w' : World} {vp vm vs va vb : Value} {P : List Int} {R : List (List Int)} {n : Nat} {T A B : List Th} (h : RdN w vp vm vs va vb P R n T A B) (hb : Below w.heap.size w w') : RdN w' vp vm vs va vb P R n T A B :=
  ⟨h.1.below hb, h.2.1.below hb, h.2.2.1.below hb, h.2.2.2.below hb⟩
theorem RdN.parts {w : World} {vp vm vs va vb : Value} {P : List Int} {R : List (List Int)} {n : Nat} {T A B : List Th} (h : RdN w vp vm vs va vb P R n T A B) : Rd w vp P ∧ RdR w vm R ∧ RdT 2 w vs n T ∧ RdP w va vb A B := h
theorem RdN.rd {w : World} {vp vm vs va vb : Value} {P : List Int} {R : List (List Int)} {n : Nat} {T A B : List Th} (h : RdN w vp vm vs va vb P R n T A B) : RdN w vp vm vs va vb P R n T A B := h
theorem RdN.form' {w : World} {vp vm vs va vb : Value} {P : List Int} {R : List (List Int)} {n : Nat} {T A B : List Th} (h : RdN w vp vm vs va vb P R n T A B) :
    ∃ sp np cp sm nm cm ss ns cs sa na ca sb nb cb, vp = .slice sp np cp ∧ vm = .slice sm nm cm ∧ vs = .slice ss ns cs ∧ va = .slice sa na ca ∧ vb = .slice sb nb cb := by
  obtain ⟨⟨_, sp, cp, hp, _⟩, hm, hs, ha⟩ := h
  obtain ⟨sm, nm, cm, hm⟩ := hm.form'
  obtain ⟨_, _, ss, cs, hs, _⟩ := hs
  obtain ⟨sa, na, ca, sb, nb, cb, ha, hb⟩ := ha.form'
  exact ⟨_, _, _, _, _, _, _, _, _, _, _, _, _, _, _, hp, hm, hs, ha, hb⟩

set_option maxRecDepth 100000 in
/-- An argument of type Notation, opened once. -/
theorem rdN_open {H : Type} {enc : TypeId × Value → H} {W : World} {r : Reach} {b0 : Nat} {v : Value} {d : DataW H} {p : List MemPlace}
    (hval : Value.okWide Try.prog W r b0 31 v) (h : DataW.Trod enc Try.prog W 0 (fun _ => true) true 31 v d p)
    (hr : ∀ k ∈ DataW.weights Try.prog 31 d, k ≤ reachBytes) :
    ∃ (x : Int) (vp vm vs va vb : Value) (P : List Int) (R : List (List Int)) (n : Nat) (T A B : List Th), v = .agg #[.int .i64 x, vp, vm, vs, va, vb] ∧ RdN W vp vm vs va vb P R n T A B := by
  obtain ⟨cs, rfl, hsz⟩ := okWide_struct Try.underlying31 hval
  rw [show Try.prog.cellsOf 31 = 6 by kernel_rfl] at hsz
  obtain ⟨l⟩ := cs
  match l, hsz with
  | [c0, c1, c2, c3, c4, c5], _ =>
    obtain ⟨fuel, hf⟩ := h
    obtain ⟨xs, n, _, hx, hl, hlen, hff⟩ := DataW.trod_struct Try.underlying31 hf
    match xs, hlen with
    | [y0, y1, y2, y3, y4], _ =>
      have k0 : Try.prog.cellsOf 2 = 1 := by kernel_rfl
      have k1 : Try.prog.cellsOf 22 = 1 := by kernel_rfl
      have k2 : Try.prog.cellsOf 25 = 1 := by kernel_rfl
      have k3 : Try.prog.cellsOf 26 = 1 := by kernel_rfl
      have k4 : Try.prog.cellsOf 29 = 2 := by kernel_rfl
      have t0 : DataW.trod enc Try.prog W 0 (fun _ => true) true n 2 [c0] = some y0 := by simpa [Value.cells, k0] using hff 0 _ rfl
      have t1 : DataW.trod enc Try.prog W 0 (fun _ => true) true n 22 [c1] = some y1 := by simpa [Value.cells, k1] using hff 1 _ rfl
      have t2 : DataW.trod enc Try.prog W 0 (fun _ => true) true n 25 [c2] = some y2 := by simpa [Value.cells, k2] using hff 2 _ rfl
      have t3 : DataW.trod enc Try.prog W 0 (fun _ => true) true n 26 [c3] = some y3 := by simpa [Value.cells, k3] using hff 3 _ rfl
      have t4 : DataW.trod enc Try.prog W 0 (fun _ => true) true n 29 [c4, c5] = some y4 := by simpa [Value.cells, k4] using hff 4 _ rfl
      simp only [Prod.mk.injEq, List.map_cons, List.map_nil] at hx
      obtain ⟨rfl, _⟩ := hx
      simp only [DataW.weights, Try.underlying31, DataW.weightsEach, List.map_cons, List.map_nil, List.append_nil, List.mem_append] at hr
      obtain ⟨x, e0, _, _⟩ := DataW.trod_int Try.underlying2 t0
      simp at e0
      subst e0
      obtain ⟨P, hP⟩ := rdI_open t1 (fun k hk => hr k (.inr (.inl hk)))
      obtain ⟨z2, n2, hz2, _, u2⟩ := trod_struct1 Try.underlying25 t2
      rw [show Try.prog.cellsOf 23 = 1 by kernel_rfl] at u2
      simp at u2
      obtain ⟨R, hR⟩ := rdR_open u2 (fun k hk => hr k (.inr (.inr (.inl (by rw [hz2]; simpa [DataW.weights, Try.underlying25, DataW.weightsEach] using hk)))))
      obtain ⟨n3, T, hT, _⟩ := rdYs_open t3 (fun k hk => hr k (.inr (.inr (.inr (.inl hk)))))
      obtain ⟨z4, z5, n4, hz4, _, u4, u5⟩ := trod_struct2 Try.underlying29 t4
      rw [show Try.prog.cellsOf 27 = 1 by kernel_rfl] at u4 u5
      simp at u4 u5
      obtain ⟨A, hA, _⟩ := rdPs_open u4 (fun k hk => hr k (.inr (.inr (.inr (.inr (by rw [hz4]; simp only [DataW.weights, Try.underlying29, DataW.weightsEach, List.map_cons, List.map_nil, List.append_nil, List.mem_append]; exact .inl hk))))))
      obtain ⟨B, hB, _⟩ := rdPs_open u5 (fun k hk => hr k (.inr (.inr (.inr (.inr (by rw [hz4]; simp only [DataW.weights, Try.underlying29, DataW.weightsEach, List.map_cons, List.map_nil, List.append_nil, List.mem_append]; exact .inr hk))))))
      exact ⟨x, c1, c2, c3, c4, c5, P, R, n3, T, A, B, rfl, hP, hR, hT, hA, hB⟩
end Go.Proofs.Ytdagakjeefhimaa
