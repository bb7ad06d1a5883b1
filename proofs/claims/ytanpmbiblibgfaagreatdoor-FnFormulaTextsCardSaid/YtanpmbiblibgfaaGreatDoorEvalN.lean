/- The value of a node, of the program and of the reference. Conditions: the node is good, the values before it can be read. -/
import Derived.Test.YtanpmbiblibgfaaGreatDoorEvalL
import Derived.Test.YtanpmbiblibgfaaGreatDoorFrS
import Derived.Test.YtanpmbiblibgfaaGreatDoorGa
import Derived.Test.YtanpmbiblibgfaaGreatDoorFCmp
import Derived.RegionTactic
import Derived.ChangeAlike
import Derived.BigRegion
import Derived.Deep.DeepCutAuto
namespace Go.Proofs.YtanpmbiblibgfaaGreatDoor
open Go.RowKit

set_option linter.unusedVariables false
/-- Two new boxes behind a world. -/
theorem two_new (w0 : World) (t : TypeId) (A B : Array Value) : Whole ((w0.alloc (.cells A t)).alloc (.cells B t)) w0.heap.size t A ∧ Whole ((w0.alloc (.cells A t)).alloc (.cells B t)) (w0.heap.size + 1) t B ∧ (∀ g t' cs, Whole w0 g t' cs → Whole ((w0.alloc (.cells A t)).alloc (.cells B t)) g t' cs) ∧ ∀ (b : Nat) (w : World), Below b w w0 → b ≤ w.heap.size → Below b w ((w0.alloc (.cells A t)).alloc (.cells B t)) := by
  refine ⟨(Whole.new w0 t A).alloc _, ?_, fun g t' cs h => (h.alloc _).alloc _, fun b w h hb => ?_⟩
  · have := Whole.new (w0.alloc (.cells A t)) t B
    simpa using this
  · have := h.size
    exact (h.alloc (by omega) _).alloc (by simp; omega) _
theorem two_drew (w0 : World) (t : TypeId) (A B : Array Value) : Whole ((w0.alloc (.cells A t)).alloc (.cells B t)).drew w0.heap.size t A ∧ Whole ((w0.alloc (.cells A t)).alloc (.cells B t)).drew (w0.heap.size + 1) t B ∧ (∀ g t' cs, Whole w0 g t' cs → Whole ((w0.alloc (.cells A t)).alloc (.cells B t)).drew g t' cs) ∧ ∀ (b : Nat) (w : World), Below b w w0 → b ≤ w.heap.size → Below b w ((w0.alloc (.cells A t)).alloc (.cells B t)).drew :=
  ⟨(two_new w0 t A B).1, (two_new w0 t A B).2.1, (two_new w0 t A B).2.2.1, fun b w h hb => Below.drew ((two_new w0 t A B).2.2.2 b w h hb)⟩
theorem cmpL_swap {a b : Fr} (ha : fracOkL a = true) (hb : fracOkL b = true) : (cmpL a b ≤ 0 ↔ ¬ cmpL b a < 0) ∧ (0 < cmpL b a → cmpL a b ≤ 0) ∧ (¬ 0 < cmpL b a → cmpL a b ≤ 0 → a = b) := by
  have e1 : cmpL a b = (if a.1 * b.2 < b.1 * a.2 then -1 else if b.1 * a.2 < a.1 * b.2 then 1 else 0) := by rw [cmpL, if_pos (by rw [ha, hb]; rfl)]
  have e2 : cmpL b a = (if b.1 * a.2 < a.1 * b.2 then -1 else if a.1 * b.2 < b.1 * a.2 then 1 else 0) := by rw [cmpL, if_pos (by rw [hb, ha]; rfl)]
  rw [e1, e2]
  by_cases h1 : a.1 * b.2 < b.1 * a.2
  · rw [if_pos h1, if_neg (by omega), if_pos h1]
    refine ⟨by simp, by simp, by simp⟩
  · rw [if_neg h1]
    by_cases h2 : b.1 * a.2 < a.1 * b.2
    · rw [if_pos h2, if_pos h2]
      refine ⟨by simp, by simp, by simp⟩
    · rw [if_neg h2, if_neg h2, if_neg h1]
      refine ⟨by simp, by simp, fun _ _ => frac_eq ha hb (by omega)⟩
end Go.Proofs.YtanpmbiblibgfaaGreatDoor
