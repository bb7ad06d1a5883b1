/- What the walk is told of a slice of integers that came in. No program's function in sight. -/
import Derived.Test.YtanpmbiblibgfaaDoorMem
import Derived.ProofKit
namespace Go.Proofs.YtanpmbiblibgfaaDoor
open Go.RowKit

/-- The slice holds the numbers zs. -/
def ArgInts (k : IntKind) (w : World) (A : Option Addr) (n cap : Nat) (zs : List Int) : Prop :=
  zs.length = n ∧ n ≤ cap ∧ cap ≤ 9223372036854775807 ∧ (∀ i, i < n → ∃ b off, A = some ⟨b, off, none⟩ ∧ b < w.heap.size ∧ w.cell? ⟨b, off + i, none⟩ = some (.int k (zs.getD i 0))) ∧ ∀ z ∈ zs, (Lit.int k z).wf = true
theorem argInts_nil {k : IntKind} {w : World} : ArgInts k w none 0 0 [] := ⟨rfl, Nat.le_refl _, Nat.zero_le _, fun i h => absurd h (by omega), by simp⟩
theorem cell_lt {w : World} {b o : Nat} {u : Value} (h : w.cell? ⟨b, o, none⟩ = some u) : b < w.heap.size := by
  rcases Nat.lt_or_ge b w.heap.size with k | k
  · exact k
  · rw [World.cell?, Array.getElem?_eq_none k] at h
    cases h
theorem argInts_mk {k : IntKind} {w : World} {x : Addr} {n cap : Nat} {zs : List Int} (hl : n ≤ cap) (hm : cap ≤ maxLen) (hz : zs.length = cap) (hc : ∀ i, i < zs.length → w.cell? (x.add i) = some (.int k (zs.getD i 0))) (hw : ∀ z ∈ zs, (Lit.int k z).wf = true) : ArgInts k w (some x) n cap (zs.take n) := by
  refine ⟨by rw [List.length_take]; omega, hl, hm, fun i hi => ?_, fun z hz => hw z (List.mem_of_mem_take hz)⟩
  obtain ⟨b, off, spot⟩ := x
  have h0 := hc 0 (by omega)
  have hs : spot = none := by simpa [Addr.add] using World.cell?_spot h0
  subst hs
  have h1 : w.cell? ⟨b, off + i, none⟩ = some (.int k (zs.getD i 0)) := by
    have := hc i (by omega)
    by_cases hi0 : i = 0
    · subst hi0; simpa [Addr.add] using this
    · simpa [Addr.add, hi0] using this
  refine ⟨b, off, rfl, cell_lt h1, ?_⟩
  rw [h1]
  simp [List.getD, hi]
theorem argBys {w : World} {A : Option Addr} {n cap : Nat} {zs : List Int} (h : ArgInts .u8 w A n cap zs) : Bys w w.heap.size A n := by
  obtain ⟨h1, h2, h3, h4, h5⟩ := h
  refine ⟨by omega, fun k hk => ?_⟩
  obtain ⟨b, off, e, hb, hc⟩ := h4 k hk
  have hz : zs.getD k 0 ∈ zs := by
    rw [List.getD_eq_getElem?_getD, List.getElem?_eq_getElem (by omega)]
    exact List.getElem_mem _
  have hw := h5 _ hz
  have hb2 : 0 ≤ zs.getD k 0 ∧ zs.getD k 0 ≤ 255 := by
    have e1 : IntKind.u8.min = 0 := by decide
    have e2 : IntKind.u8.max = 255 := by decide
    simp only [Lit.wf, e1, e2, Bool.and_eq_true, decide_eq_true_eq] at hw
    omega
  exact ⟨b, off, _, e, hb, hc, hb2.1, hb2.2⟩
end Go.Proofs.YtanpmbiblibgfaaDoor
