/-
  More plain lemmas on slices of numbers. No condition.
-/
import Derived.Test.YtdbjkgapgjmjoaaL02b
namespace Go.Proofs.Ytdbjkgapgjmjoaa
open Go.ChangeShapes Go.WideShapes Go.ChangeAt Go.RowKit


/-- A slice's length is not beyond its capacity. -/
def Cp (v : Value) : Prop := ∀ a n c, v = .slice a n c → n ≤ c
theorem Own.cp {w : World} {lo hi : Nat} {v : Value} {zs : List Int} (h : Own w lo hi v zs) : Cp v := by
  obtain ⟨_, ⟨_, h2⟩, _⟩ := h
  intro a n c hv
  rcases h2 with ⟨rfl, h0⟩ | ⟨g, cap, cur, rfl, hb, hg, hn, hm, hs, ht⟩
  · cases hv; omega
  · cases hv; exact hn

/-- The first k numbers of a slice. -/
theorem rd_take {w : World} {b o c : Nat} {p : List Int} {k : Nat} (h : Rd w (.slice (some ⟨b, o, none⟩) p.length c) p) (hk : k ≤ p.length) (hk1 : 1 ≤ k) : Rd w (.slice (some ⟨b, o, none⟩) k c) (p.take k) := by
  obtain ⟨hl, a, c', hv, ha⟩ := h
  cases hv
  have e : (p.take k).length = k := by simp; omega
  refine ⟨by omega, some ⟨b, o, none⟩, c, by rw [e], fun _ => ?_⟩
  obtain ⟨b', o', hbo, hlt, hc⟩ := ha (by omega)
  cases hbo
  refine ⟨b, o, rfl, hlt, fun j hj => ?_⟩
  rw [e] at hj
  rw [gi_take hj]
  exact hc j (by omega)
theorem own_drew {w : World} {lo hi : Nat} {v : Value} {zs : List Int} (h : Own w lo hi v zs) : Own w.drew lo hi v zs := h
theorem rd_drew {w : World} {v : Value} {zs : List Int} (h : Rd w v zs) : Rd w.drew v zs := h
end Go.Proofs.Ytdbjkgapgjmjoaa
