/- A row that the call itself owns, its cells by their index. No program's function in sight. -/
import Derived.Test.YtanpmbiblibgfaaDoorIntS
namespace Go.Proofs.YtanpmbiblibgfaaDoor
open Go.RowKit

/-- v is a slice of n elements of size cells each, in a block of our own from base on; cell j holds F j. -/
def OwR (w : World) (base : Nat) (e : TypeId) (size : Nat) (v : Value) (n : Nat) (F : Nat → Value) : Prop :=
  (v = .slice none 0 0 ∧ n = 0) ∨ ∃ g cap G, v = .slice (some ⟨g, 0, none⟩) n cap ∧ base ≤ g ∧ n ≤ cap ∧ cap ≤ maxLen ∧ w.rowIs g e (cap * size) G ∧ ∀ j, j < n * size → G j = F j
section
variable {w w' : World} {base size n : Nat} {e : TypeId} {v : Value} {F F' : Nat → Value}
theorem OwR.of_own {xs : List Value} (h : w.ownsRow base e size v n xs) : OwR w base e size v n (fun j => xs.getD j undef) := by
  obtain ⟨hl, h⟩ := h
  rcases h with h | ⟨g, cap, cur, hv, hg, hh, h1, h2, h3, h4⟩
  · exact .inl h
  · refine .inr ⟨g, cap, fun j => cur.toList.getD j undef, hv, hg, h1, h2, ⟨cur, hh, h3, fun i hi => ?_⟩, fun j hj => ?_⟩
    · show cur[i]? = some (cur.toList.getD i undef)
      rw [← Array.getElem?_toList, List.getD_eq_getElem?_getD, List.getElem?_eq_getElem (by simp; omega)]
      rfl
    · show cur.toList.getD j undef = xs.getD j undef
      rw [← h4, List.getD_eq_getElem?_getD, List.getD_eq_getElem?_getD, List.getElem?_take, if_pos hj]
theorem OwR.of_row {g : Nat} (h : w.rowIs g e (n * size) F) (hg : base ≤ g) (hn : n ≤ maxLen) : OwR w base e size (.slice (some ⟨g, 0, none⟩) n n) n F :=
  .inr ⟨g, n, F, rfl, hg, Nat.le_refl _, hn, h, fun _ _ => rfl⟩
theorem OwR.congr (h : OwR w base e size v n F) (hF : ∀ j, j < n * size → F j = F' j) : OwR w base e size v n F' := by
  rcases h with h | ⟨g, cap, G, h1, h2, h3, h4, h5, h6⟩
  · exact .inl h
  · exact .inr ⟨g, cap, G, h1, h2, h3, h4, h5, fun j hj => (h6 j hj).trans (hF j hj)⟩
theorem OwR.lt (h : OwR w base e size v n F) : ∀ k, v.ownBlock = some k → base ≤ k ∧ k < w.heap.size := by
  intro k hk
  rcases h with ⟨rfl, _⟩ | ⟨g, cap, G, rfl, h2, _, _, h5, _⟩
  · simp [Value.ownBlock] at hk
  · simp only [Value.ownBlock, Option.some.injEq] at hk
    subst hk
    exact ⟨h2, h5.lt⟩
theorem OwR.kept (h : OwR w base e size v n F) {row : Option Nat} (hg : w.grownBy w' row) (hne : ∀ k, v.ownBlock = some k → row ≠ some k) : OwR w' base e size v n F := by
  rcases h with h | ⟨g, cap, G, rfl, h2, h3, h4, h5, h6⟩
  · exact .inl h
  · exact .inr ⟨g, cap, G, rfl, h2, h3, h4, h5.of_block (hg.block g h5.lt (fun e => hne g rfl e.symm)), h6⟩
theorem OwR.below {B : Nat} (h : OwR w base e size v n F) (hb : Below B w w') (hB : ∀ k, v.ownBlock = some k → k < B) : OwR w' base e size v n F := by
  rcases h with h | ⟨g, cap, G, rfl, h2, h3, h4, h5, h6⟩
  · exact .inl h
  · exact .inr ⟨g, cap, G, rfl, h2, h3, h4, h5.of_block (hb.block g (hB g rfl)), h6⟩
theorem OwR.all (h : OwR w base e size v n F) (hb : Below w.heap.size w w') : OwR w' base e size v n F := h.below hb fun k hk => (h.lt k hk).2
/-- What is owned above the block that was written. -/
theorem OwR.other (h : OwR w base e size v n F) {g : Nat} (hg : w.grownBy w' (some g)) (hne : g < base) : OwR w' base e size v n F :=
  h.kept hg fun k hk e => by have := (h.lt k hk).1; injection e; omega
theorem OwR.less (h : OwR w base e size v n F) {base' : Nat} (hb : base' ≤ base) : OwR w base' e size v n F := by
  rcases h with h | ⟨g, cap, G, rfl, h2, h3, h4, h5, h6⟩
  · exact .inl h
  · exact .inr ⟨g, cap, G, rfl, by omega, h3, h4, h5, h6⟩
theorem OwR.len (h : OwR w base e size v n F) : n ≤ maxLen := by
  rcases h with ⟨_, h⟩ | ⟨g, cap, G, rfl, h2, h3, h4, _⟩
  · subst h; exact Nat.zero_le _
  · omega
theorem OwR.form (h : OwR w base e size v n F) : ∃ B c, v = .slice B n c := by
  rcases h with ⟨rfl, rfl⟩ | ⟨g, cap, G, rfl, _⟩
  · exact ⟨none, 0, rfl⟩
  · exact ⟨_, cap, rfl⟩
end
theorem grown_of_below {w w' : World} (h : Below w.heap.size w w') (row : Option Nat) : w.grownBy w' row := ⟨h.os, h.tape, h.output, h.size, fun k hk _ => h.block k hk⟩
theorem below_of_grown {w w' : World} {B g : Nat} (h : w.grownBy w' (some g)) (hB : B ≤ g) (hs : B ≤ w.heap.size) : Below B w w' :=
  (Below.refl B w).grown h hs (fun k hk => by injection hk; omega)
/-- The cells of a list of elements of s cells each. -/
theorem flat_get {α : Type} {s : Nat} {f : α → List Value} (hf : ∀ x, (f x).length = s) : ∀ (xs : List α) (i j : Nat), j < s → (xs.flatMap f)[i * s + j]? = xs[i]?.bind fun x => (f x)[j]?
  | [], i, j, _ => by simp
  | x :: xs, 0, j, hj => by
    rw [List.flatMap_cons, Nat.zero_mul, Nat.zero_add, List.getElem?_append_left (by rw [hf]; exact hj)]
    rfl
  | x :: xs, i + 1, j, hj => by
    rw [List.flatMap_cons, List.getElem?_append_right (by rw [hf, Nat.add_mul]; omega), hf, show (i + 1) * s + j - s = i * s + j by rw [Nat.add_mul]; omega, flat_get hf xs i j hj]
    rfl
theorem flat_len {α : Type} {s : Nat} {f : α → List Value} (hf : ∀ x, (f x).length = s) : ∀ xs : List α, (xs.flatMap f).length = xs.length * s
  | [] => by simp
  | x :: xs => by rw [List.flatMap_cons, List.length_append, hf, flat_len hf xs, List.length_cons, Nat.add_mul]; omega
end Go.Proofs.YtanpmbiblibgfaaDoor
