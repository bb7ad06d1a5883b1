/- The formulas that a draw gives. Conditions: the cursor is whole. -/
import Derived.Test.YtdccdoodmiihbaaDoorDraw
import Derived.Test.YtdccdoodmiihbaaDoorOwR
import Derived.Test.YtdccdoodmiihbaaDoorFormOk
import Derived.Test.YtdccdoodmiihbaaDoorSFrac3
import Derived.Test.YtdccdoodmiihbaaDoorFracM
import Derived.Test.YtdccdoodmiihbaaDoorPlaces
import Derived.Deep.DeepCutAuto
namespace Go.Proofs.YtdccdoodmiihbaaDoor
open Go.RowKit

set_option linter.unusedVariables false
theorem grown_fresh {a b : World} {row : Option Nat} (h : a.grownBy b row) {p : Addr} (hp : a.heap.size ≤ p.block) (u : Value) : a.grownBy (b.setCell p u) row :=
  ⟨h.os, h.tape, h.output, by simpa [World.setCell] using h.size, fun i hi hn => (Below.heap_setCell b p u i (by omega)).trans (h.block i hi hn)⟩
theorem Cur.lt {w : World} {B g n c : Nat} {A : Option Addr} (h : Cur w B g A n c) : g < w.heap.size ∧ B ≤ g ∧ B ≤ w.heap.size := by
  obtain ⟨_, _, h1, _, _, h2, h3, _⟩ := h
  exact ⟨h1.lt, h2, h3⟩
/-- A cursor that was drawn from, and nothing else turned but what is new. -/
def Dr (w : World) (B g : Nat) (A : Option Addr) (n c : Nat) (w' : World) : Prop := Cur w' B g A n c ∧ w.grownBy w' (some g)
section
variable {w w1 w2 : World} {B g n c : Nat} {A : Option Addr}
theorem Dr.start (h : Cur w B g A n c) : Dr w B g A n c w := ⟨h, grown_refl _ _⟩
theorem Dr.draw (h : Dr w B g A n c w1) (hc : Cur w2 B g A n c) (hg : w1.grownBy w2 (some g)) : Dr w B g A n c w2 := ⟨hc, grown_trans h.2 hg⟩
theorem Dr.below (h : Dr w B g A n c w1) (hb : Below w1.heap.size w1 w2) : Dr w B g A n c w2 := ⟨h.1.grown (grown_of_below hb none) (by simp) (by simp), grown_trans h.2 (grown_of_below hb (some g))⟩
theorem Dr.alloc (h : Dr w B g A n c w1) (o : Obj) : Dr w B g A n c (w1.alloc o) := h.below ((Below.refl _ _).alloc (Nat.le_refl _) _)
theorem Dr.drew (h : Dr w B g A n c w1) : Dr w B g A n c w1.drew := h.below (Below.drew (Below.refl _ _))
theorem Dr.set (h : Dr w B g A n c w1) {p : Addr} (hp : w.heap.size ≤ p.block) (hne : p.block ≠ g) (hB : B ≤ w.heap.size) (u : Value) : Dr w B g A n c (w1.setCell p u) :=
  ⟨h.1.grown (row := some p.block) (grown_setCell (grown_refl _ _) rfl u) (by intro e; injection e with e; exact hne e.symm) (by intro k hk; injection hk with hk; omega), grown_fresh h.2 hp u⟩
theorem Dr.grown (h : Dr w B g A n c w1) {row : Option Nat} (hg : w1.grownBy w2 row) (hr : ∀ k, row = some k → w.heap.size ≤ k ∧ k ≠ g) (hB : B ≤ w.heap.size) : Dr w B g A n c w2 :=
  ⟨h.1.grown hg (by intro e; exact (hr g e.symm).2 rfl) (fun k hk => by have := (hr k hk).1; omega),
   ⟨hg.os.trans h.2.os, hg.tape.trans h.2.tape, hg.output.trans h.2.output, Nat.le_trans h.2.size hg.size, fun i hi hn => (hg.block i (Nat.lt_of_lt_of_le hi h.2.size) (by intro e; have := (hr i e.symm).1; omega)).trans (h.2.block i hi hn)⟩⟩
end


theorem getD_old' {α : Type} (xs : List α) (x d : α) {i : Nat} (h : i < xs.length) : (xs ++ [x]).getD i d = xs.getD i d := by
  rw [List.getD_eq_getElem?_getD, List.getD_eq_getElem?_getD, List.getElem?_append_left h]
theorem getD_new' {α : Type} (xs : List α) (x d : α) {i : Nat} (h : i = xs.length) : (xs ++ [x]).getD i d = x := by
  subst h
  rw [List.getD_eq_getElem?_getD, List.getElem?_append_right (Nat.le_refl _)]
  simp
theorem no_cells_new (w : World) (xs : List Value) (t : TypeId) : ∀ j u, xs[j]? = some u → (w.alloc (.cells xs.toArray t)).cell? ((⟨w.heap.size, 0, none⟩ : Addr).add j) = some u := by
  intro j u hj
  have ha : Addr.add ⟨w.heap.size, 0, none⟩ j = ⟨w.heap.size, j, none⟩ := by unfold Addr.add; split <;> simp_all
  rw [ha, (Whole.new w t xs.toArray).cell j, List.getElem?_toArray, hj]
/-- Nodes that are good, each behind those before it. -/
def noChain (xs : List No) : Prop := ∀ i, i < xs.length → nodeB (xs.getD i No.zero) (i : Int) = true
theorem noChain.more {xs : List No} {s : No} (h : noChain xs) (hs : nodeB s (xs.length : Int) = true) : noChain (xs ++ [s]) := by
  intro i hi
  rw [List.length_append] at hi
  by_cases e : i < xs.length
  · rw [getD_old' xs s No.zero e]
    exact h i e
  · have e2 : i = xs.length := by simp at hi; omega
    rw [getD_new' xs s No.zero e2, e2]
    exact hs
theorem noChain.ok {xs : List No} (h : noChain xs) (h1 : 1 ≤ xs.length) (h2 : xs.length ≤ 30) : formB xs.length (fun i => xs.getD i No.zero) = true := by
  rw [formB, allUp_mk (P := fun i => nodeB (xs.getD i No.zero) (i : Int)) h, inB_t (by omega) (by omega)]
  rfl

end Go.Proofs.YtdccdoodmiihbaaDoor
