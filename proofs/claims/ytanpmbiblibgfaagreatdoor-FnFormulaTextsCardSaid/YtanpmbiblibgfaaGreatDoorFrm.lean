/- A box that holds an own row, turned by calls: what stays. No program's function in sight. -/
import Derived.Test.YtanpmbiblibgfaaGreatDoorIWor
import Derived.Test.YtanpmbiblibgfaaGreatDoorRdl
import Derived.Test.YtanpmbiblibgfaaGreatDoorNo
namespace Go.Proofs.YtanpmbiblibgfaaGreatDoor
open Go.RowKit
/-- All stays but the box ob and the row that v owns; what v' owns was v's or is new. -/
structure FR (ob : Nat) (w w' : World) (v v' : Value) : Prop where
  os : w'.os = w.os
  tape : w'.tape = w.tape
  output : w'.output = w.output
  size : w.heap.size ≤ w'.heap.size
  block : ∀ k, k < w.heap.size → k ≠ ob → v.ownBlock ≠ some k → w'.heap[k]? = w.heap[k]?
  own : ∀ q, v'.ownBlock = some q → v.ownBlock = some q ∨ w.heap.size ≤ q
section
variable {ob base : Nat} {w w' w'' : World} {v v' v'' : Value}
theorem FR.refl (ob : Nat) (w : World) (v : Value) : FR ob w w v v := ⟨rfl, rfl, rfl, Nat.le_refl _, fun _ _ _ _ => rfl, fun _ h => .inl h⟩
theorem FR.trans (h : FR ob w w' v v') (k : FR ob w' w'' v' v'') : FR ob w w'' v v'' :=
  ⟨k.os.trans h.os, k.tape.trans h.tape, k.output.trans h.output, Nat.le_trans h.size k.size,
    fun j hj h1 h2 => (k.block j (Nat.lt_of_lt_of_le hj h.size) h1 (fun e => by
      rcases h.own j e with q | q
      · exact h2 q
      · omega)).trans (h.block j hj h1 h2),
    fun q hq => by
      have := h.size
      rcases k.own q hq with e | e
      · exact h.own q e
      · exact .inr (by omega)⟩
theorem FR.of_below (h : Below w.heap.size w w') (ob : Nat) (v : Value) : FR ob w w' v v := ⟨h.os, h.tape, h.output, h.size, fun k hk _ _ => h.block k hk, fun _ e => .inl e⟩
theorem FR.below (h : FR ob w w' v v') (hob : base ≤ ob) (hv : ∀ q, v.ownBlock = some q → base ≤ q) (hb : base ≤ w.heap.size) : Below base w w' :=
  ⟨h.os, h.tape, h.output, h.size, fun k hk => h.block k (by omega) (by omega) (fun e => by have := hv k e; omega)⟩
theorem FR.whole (h : FR ob w w' v v') {g : Nat} {t : TypeId} {cs : Array Value} (hw : Whole w g t cs) (h1 : g ≠ ob) (h2 : v.ownBlock ≠ some g) : Whole w' g t cs := (h.block g hw.lt h1 h2).trans hw
theorem FR.app (h : FR ob w w' v v) {g : Nat} {n cap : Nat} {x : Value} (hg : w'.grownBy w'' v.ownBlock) (hat : v.ownBlock = some g ∨ g = w'.heap.size) : FR ob w (w''.setCell ⟨ob, 0, none⟩ x) v (.slice (some ⟨g, 0, none⟩) n cap) :=
  ⟨hg.os.trans h.os, hg.tape.trans h.tape, hg.output.trans h.output, by have := h.size; have := hg.size; simp [World.setCell]; omega,
    fun k hk h1 h2 => (Below.heap_setCell w'' ⟨ob, 0, none⟩ x k (fun e => h1 e)).trans ((hg.block k (Nat.lt_of_lt_of_le hk h.size) (fun e => h2 e.symm)).trans (h.block k hk h1 h2)),
    fun q hq => by
      have hq' : some g = some q := hq
      injection hq' with hq
      have := h.size
      rcases hat with e | e
      · exact .inl (by rw [e]; exact congrArg some hq)
      · exact .inr (by omega)⟩
end
theorem FR.far {ob : Nat} {w w' : World} {v v' : Value} (h : FR ob w w' v v') {g i : Nat} (hg : w.heap.size ≤ g) (x : Value) : FR ob w (w'.setCell ⟨g, i, none⟩ x) v v' :=
  ⟨h.os, h.tape, h.output, by have := h.size; simpa [World.setCell] using this,
    fun k hk h1 h2 => (Below.heap_setCell w' ⟨g, i, none⟩ x k (fun e => by have e' : k = g := e; omega)).trans (h.block k hk h1 h2), h.own⟩
/-- The words ws lie at A, in blocks below lim. -/
def WdR (w : World) (lim : Nat) (A : Option Addr) (ws : List (List UInt8)) : Prop := ∀ (j : Nat) x, ws[j]? = some x → ∃ g off, A = some ⟨g, off, none⟩ ∧ g < lim ∧ w.cell? ⟨g, off + j, none⟩ = some (strV x)
theorem WdR.below {w w' : World} {lim : Nat} {A : Option Addr} {ws : List (List UInt8)} (h : WdR w lim A ws) (hb : Below lim w w') : WdR w' lim A ws := fun j x hx => by
  obtain ⟨g, off, e, hg, hc⟩ := h j x hx
  exact ⟨g, off, e, hg, (hb.cell (p := ⟨g, off + j, none⟩) hg).trans hc⟩
theorem WdR.own {w : World} {base n c : Nat} {B : Option Addr} {ws : List (List UInt8)} (h : w.ownsRow base 9 1 (.slice B n c) n (strs ws)) : WdR w w.heap.size B ws := fun j x hx => by
  have hl : ws.length = n := by have := h.1; simpa using this
  have hj := (List.getElem?_eq_some_iff.1 hx).1
  obtain ⟨g, e, _, h2, _, _, h3⟩ := own_cells h (by omega)
  exact ⟨g, 0, e, h2, by rw [Nat.zero_add]; exact h3 j x hx⟩
/-- The own row of nodes in the box ob. -/
def BoxN (w : World) (base ob : Nat) (v : Value) (xs : List No) : Prop := Whole w ob 24 #[v] ∧ w.ownsRow base 46 6 v xs.length (xs.flatMap No.cells)
theorem own_shape {w : World} {base size n : Nat} {e : TypeId} {v : Value} {xs : List Value} (h : w.ownsRow base e size v n xs) : ∃ A c, v = .slice A n c := by
  rcases h.2 with ⟨rfl, rfl⟩ | ⟨g, cap, cur, rfl, _⟩
  · exact ⟨_, _, rfl⟩
  · exact ⟨_, _, rfl⟩
theorem BoxN.shape {w : World} {base ob : Nat} {v : Value} {xs : List No} (h : BoxN w base ob v xs) : ∃ A n c, v = .slice A n c ∧ n = xs.length := by
  obtain ⟨A, c, e⟩ := own_shape h.2
  exact ⟨A, _, c, e, rfl⟩
theorem BoxN.cell_ {w : World} {base ob : Nat} {v : Value} {xs : List No} (h : BoxN w base ob v xs) : w.cell? ⟨ob, 0, none⟩ = some v := h.1.cell 0
/-- A cell of a box elsewhere. -/
theorem BoxN.far {w : World} {base ob g i : Nat} {v : Value} {xs : List No} (h : BoxN w base ob v xs) (h1 : g ≠ ob) (h2 : v.ownBlock ≠ some g) (x : Value) : BoxN (w.setCell ⟨g, i, none⟩ x) base ob v xs :=
  ⟨(Below.heap_setCell w ⟨g, i, none⟩ x ob (fun e => h1 e.symm)).trans h.1, h.2.kept (row := some g) (grown_setCell (grown_refl w _) (p := ⟨g, i, none⟩) rfl x) (.inr h2)⟩
/-- What a reading leaves. -/
def ReadE (base ob tot : Nat) (w : World) (v : Value) (xs : List No) (res : Option (List No × List (List UInt8))) (e : Ending) (w' : World) : Prop :=
  ∃ (ys : List No) (v' : Value), BoxN w' base ob v' ys ∧ FR ob w w' v v' ∧ match res with
    | some (ns, r) => e = .returned (.int .i64 ((tot : Int) - r.length)) ∧ ys = xs ++ ns
    | none => e = .returned (.int .i64 (-1))
theorem ReadE.none_ {base ob tot : Nat} {w w' : World} {v v' : Value} {xs ys : List No} (h1 : BoxN w' base ob v' ys) (h2 : FR ob w w' v v') : ReadE base ob tot w v xs none (.returned (.int .i64 (-1))) w' := ⟨ys, v', h1, h2, rfl⟩
theorem ReadE.some_ {base ob tot : Nat} {w w' : World} {v v' : Value} {xs ns : List No} {r : List (List UInt8)} {z : Int} (h1 : BoxN w' base ob v' (xs ++ ns)) (h2 : FR ob w w' v v') (hz : z = (tot : Int) - r.length) : ReadE base ob tot w v xs (some (ns, r)) (.returned (.int .i64 z)) w' := ⟨xs ++ ns, v', h1, h2, by rw [hz], rfl⟩
theorem suffix_drop {r ws : List (List UInt8)} (h : r <:+ ws) : ws.drop (ws.length - r.length) = r := by
  obtain ⟨p, rfl⟩ := h
  rw [List.length_append, Nat.add_sub_cancel]
  exact List.drop_left
end Go.Proofs.YtanpmbiblibgfaaGreatDoor
