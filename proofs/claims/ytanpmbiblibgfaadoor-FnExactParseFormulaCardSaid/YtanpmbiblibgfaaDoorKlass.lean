/- A region that draws its order, whose own operations only read, beside calls that make memory: one walk, in the worlds of a class. No program's function in sight. -/
import Derived.Test.YtanpmbiblibgfaaDoorNum
import Derived.BigQuiet
namespace Go.Proofs.YtanpmbiblibgfaaDoor
open Go.RowKit

/-- A world of the class S. -/
structure InClass (S : World → Prop) where
  w : World
  h : S w
theorem wp_region_class {P : Program} {S : World → Prop} {id : Nat} {Q : Exit → Act → World → Prop} {a : Act} {w : World} {l : List Oper} (hm : P.follows .mixedOrders = true) (hB : Region.lexB .any l.toArray = true) (hS : S w.drew)
    (h : wpQuiet P l.toArray (fun w' => ∃ x : InClass S, w' = x.w) (fun a' => ∀ w', (∃ x : InClass S, w' = x.w) → Q .normal a' w') l a) : (Code.region id l.toArray true).wp P Q a w :=
  wp_region_quiet (C := fun w' => ∃ x : InClass S, w' = x.w) hm hB ⟨⟨w.drew, hS⟩, rfl⟩ (by rw [List.toList_toArray]; exact h)
/-- A callee that makes memory leaves a world of the class. -/
theorem class_call {P : Program} {S : World → Prop} {f : FuncId} {args : Array Value} {x : InClass S} {v : Value} (h : Calls P f args x.w fun e w' => e = .returned v ∧ Below x.w.heap.size x.w w')
    (hk : ∀ (u u' : World), S u → Below u.heap.size u u' → S u') : Calls P f args x.w fun e w'' => e = .returned v ∧ ∃ y : InClass S, w'' = y.w :=
  h.mono fun _ w' ⟨he, hb⟩ => ⟨he, ⟨w', hk _ _ x.h hb⟩, rfl⟩
theorem class_same {P : Program} {S : World → Prop} {f : FuncId} {args : Array Value} {x : InClass S} {v : Value} (h : Calls P f args x.w fun e w' => e = .returned v ∧ x.w = w') : Calls P f args x.w fun e w'' => e = .returned v ∧ ∃ y : InClass S, w'' = y.w :=
  h.mono fun _ _ ⟨he, hw⟩ => ⟨he, x, hw.symm⟩
end Go.Proofs.YtanpmbiblibgfaaDoor
