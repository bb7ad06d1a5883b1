/- A book that the call itself owns: the row of its rules, and a row of nodes for each. No program's function in sight. -/
import Derived.Test.YtjnckhdmaebfdaaBook2
import Derived.Maps.AppendAt
namespace Go.Proofs.Ytjnckhdmaebfdaa
open Go.RowKit
set_option linter.unusedVariables false

theorem ru_cells_len (r : Rn) : r.cells.length = 7 := rfl
theorem ruAt_list (xs : List Rn) {n j : Nat} (hl : xs.length = n) (hj : j < n * 7) : (xs.flatMap Rn.cells).getD j undef = ruAt (fun i => xs.getD i Rn.zero) j := by
  have h1 : j / 7 < xs.length := by omega
  have h := flat_get ru_cells_len xs (j / 7) (j % 7) (Nat.mod_lt _ (by omega))
  rw [show j / 7 * 7 + j % 7 = j by omega] at h
  rw [ruAt, List.getD_eq_getElem?_getD, h, List.getElem?_eq_getElem h1, List.getD_eq_getElem?_getD, List.getD_eq_getElem?_getD, List.getElem?_eq_getElem h1]
  rfl
/-- The slice of a rule's nodes. -/
abbrev nsl (r : Rn) : Value := .slice r.A r.n r.c
/-- The block of a slice has its element's type. -/
theorem own_ne_owr {w : World} {b1 b2 s1 s2 n m : Nat} {e1 e2 : TypeId} {v u : Value} {xs : List Value} {F : Nat → Value} (h : w.ownsRow b1 e1 s1 v n xs) (k : OwR w b2 e2 s2 u m F) (hne : e1 ≠ e2) : ∀ q, u.ownBlock = some q → v.ownBlock ≠ some q := by
  intro q hq hv
  rcases k with ⟨rfl, _⟩ | ⟨g', cap, G, rfl, _, _, _, h5, _⟩
  · simp [Value.ownBlock] at hq
  · simp only [Value.ownBlock, Option.some.injEq] at hq
    subst hq
    obtain ⟨c, hh, _⟩ := h5
    exact own_apart h (t := e2) (cs := c) hh hne hv
theorem owr_apart {w : World} {base size n g : Nat} {e t : TypeId} {v : Value} {F : Nat → Value} {cs : Array Value} (h : OwR w base e size v n F) (hg : Whole w g t cs) (hne : e ≠ t) : ∀ k, v.ownBlock = some k → some g ≠ some k := by
  intro k hk e2
  injection e2 with e2
  subst e2
  rcases h with ⟨rfl, _⟩ | ⟨g', cap, G, rfl, _, _, _, h5, _⟩
  · simp [Value.ownBlock] at hk
  · simp only [Value.ownBlock, Option.some.injEq] at hk
    subst hk
    obtain ⟨c, hh, _⟩ := h5
    unfold Whole at hg
    rw [hg] at hh
    injection hh with hh
    injection hh with _ ht
    exact hne ht.symm
/-- The nodes of all rules are owned, no two rules share them. -/
def NdO (w : World) (base : Nat) (xs : List Rn) : Prop :=
  (∀ i, i < xs.length → OwR w base 65 6 (nsl (xs.getD i Rn.zero)) (xs.getD i Rn.zero).n (noAt (xs.getD i Rn.zero).N)) ∧ ∀ i j, i < j → j < xs.length → ∀ q, (nsl (xs.getD i Rn.zero)).ownBlock = some q → (nsl (xs.getD j Rn.zero)).ownBlock ≠ some q
def OwB (w : World) (base : Nat) (v : Value) (xs : List Rn) : Prop := w.ownsRow base 29 7 v xs.length (xs.flatMap Rn.cells) ∧ NdO w base xs
section
variable {w w' : World} {base : Nat} {v : Value} {xs : List Rn}
theorem NdO.kept (h : NdO w base xs) {row : Option Nat} (hg : w.grownBy w' row) (hne : ∀ i, i < xs.length → ∀ q, (nsl (xs.getD i Rn.zero)).ownBlock = some q → row ≠ some q) : NdO w' base xs :=
  ⟨fun i hi => (h.1 i hi).kept hg (hne i hi), h.2⟩
theorem OwB.all (h : OwB w base v xs) (hb : Below w.heap.size w w') : OwB w' base v xs :=
  ⟨h.1.kept (grown_of_below hb none) (Classical.em _), h.2.kept (grown_of_below hb none) (fun _ _ _ _ e => by cases e)⟩
theorem OwB.far (h : OwB w base v xs) {g : Nat} (hg : w.grownBy w' (some g)) {t : TypeId} {cs : Array Value} (hw : Whole w g t cs) (h1 : 29 ≠ t) (h2 : 65 ≠ t) : OwB w' base v xs :=
  ⟨h.1.kept hg (.inr (own_apart h.1 hw h1)), h.2.kept hg fun i hi q hq => owr_apart (h.2.1 i hi) hw h2 q hq⟩
theorem OwB.put (h : OwB w base v xs) {g : Nat} {t : TypeId} {cs : Array Value} (hw : Whole w g t cs) (h1 : 29 ≠ t) (h2 : 65 ≠ t) (o : Nat) (u : Value) : OwB (w.setCell ⟨g, o, none⟩ u) base v xs :=
  h.far (grown_setCell (grown_refl w (some g)) rfl u) hw h1 h2
theorem OwB.less (h : OwB w base v xs) {base' : Nat} (hb : base' ≤ base) : OwB w base' v xs := by
  refine ⟨?_, fun i hi => (h.2.1 i hi).less hb, h.2.2⟩
  obtain ⟨hl, h'⟩ := h.1
  rcases h' with h' | ⟨g, cap, cur, hv, hg, hh⟩
  · exact ⟨hl, .inl h'⟩
  · exact ⟨hl, .inr ⟨g, cap, cur, hv, by omega, hh⟩⟩
theorem OwB.row (h : OwB w base v xs) : OwR w base 29 7 v xs.length (ruAt fun i => xs.getD i Rn.zero) := (OwR.of_own h.1).congr fun _ hj => ruAt_list xs rfl hj
theorem OwB.rd {B : Option Addr} {c : Nat} (h : OwB w base (.slice B xs.length c) xs) : RdRu w w.heap.size B xs.length (fun i => xs.getD i Rn.zero) := by
  have hr := h.row
  rcases hr with ⟨hv, h0⟩ | ⟨g, cap, G, hv, hg, hn, hm, hr, hG⟩
  · exact ⟨by omega, fun i hi => by omega⟩
  · injection hv with hv1 _ hv2
    subst hv1 hv2
    have hc7 : xs.length * 7 ≤ c * 7 := Nat.mul_le_mul_right _ hn
    have key : ∀ k, k < xs.length * 7 → w.cell? ⟨g, k, none⟩ = some (ruAt (fun i => xs.getD i Rn.zero) k) := fun k hk => by rw [hr.cell (i := k) (by omega), hG k hk]
    refine ⟨by unfold maxLen at hm; omega, fun i hi => ⟨⟨g, 0, rfl, hr.lt, ?_, ?_, ?_, ?_, ?_, ?_, ?_⟩, RdNo.own (h.2.1 i hi)⟩⟩
    · rw [Nat.zero_add, key _ (by omega), ruAt0]
    · rw [Nat.zero_add, key _ (by omega), ruAt1]
    · rw [Nat.zero_add, key _ (by omega), ruAt2]
    · rw [Nat.zero_add, key _ (by omega), ruAt3]
    · rw [Nat.zero_add, key _ (by omega), ruAt4]
    · rw [Nat.zero_add, key _ (by omega), ruAt5]
    · rw [Nat.zero_add, key _ (by omega), ruAt6]
theorem OwB.nil (w : World) (base : Nat) : OwB w base (.slice none 0 0) [] := ⟨⟨by simp, .inl ⟨rfl, rfl⟩⟩, fun i hi => absurd hi (Nat.not_lt_zero i), fun i j _ hj => absurd hj (Nat.not_lt_zero j)⟩
theorem getD_l {α : Type} (xs : List α) (x d : α) {i : Nat} (h : i < xs.length) : (xs ++ [x]).getD i d = xs.getD i d := by
  rw [List.getD_eq_getElem?_getD, List.getD_eq_getElem?_getD, List.getElem?_append_left h]
theorem getD_r {α : Type} (xs : List α) (x d : α) {i : Nat} (h : i = xs.length) : (xs ++ [x]).getD i d = x := by
  subst h
  rw [List.getD_eq_getElem?_getD, List.getElem?_append_right (Nat.le_refl _)]
  simp
/-- One rule more behind an append: its nodes lie from b on, those of the others below b. -/
theorem OwB.snoc (h : OwB w base v xs) {r : Rn} {b : Nat} {v' : Value} (hb : ∀ i, i < xs.length → ∀ q, (nsl (xs.getD i Rn.zero)).ownBlock = some q → q < b) (hr : OwR w b 65 6 (nsl r) r.n (noAt r.N)) (hbb : base ≤ b)
    (hg : w.grownBy w' v.ownBlock) (hown : w'.ownsRow base 29 7 v' (xs.length + 1) (xs.flatMap Rn.cells ++ r.cells)) : OwB w' base v' (xs ++ [r]) := by
  refine ⟨?_, fun i hi => ?_, fun i j hij hj q hq => ?_⟩
  · rw [List.length_append, List.flatMap_append]
    simpa using hown
  · rw [List.length_append] at hi
    by_cases e : i < xs.length
    · rw [getD_l xs r Rn.zero e]
      exact (h.2.1 i e).kept hg (own_ne_owr h.1 (h.2.1 i e) (by decide))
    · rw [getD_r xs r Rn.zero (by simp at hi; omega)]
      exact (hr.less hbb).kept hg (own_ne_owr h.1 hr (by decide))
  · rw [List.length_append] at hj
    have hi : i < xs.length := by simp at hj; omega
    rw [getD_l xs r Rn.zero hi] at hq
    by_cases e : j < xs.length
    · rw [getD_l xs r Rn.zero e]
      exact h.2.2 i j hij e q hq
    · rw [getD_r xs r Rn.zero (by simp at hj; omega)]
      intro e2
      have h1 := hb i hi q hq
      have h2 := (hr.lt q e2).1
      omega
end
/-- The rules of a list are those of R but for where their nodes lie. -/
def sameL (R : Nat → Rn) (xs : List Rn) : Prop := ∀ i, i < xs.length → (xs.getD i Rn.zero).s = (R i).s ∧ (xs.getD i Rn.zero).n = (R i).n ∧ (xs.getD i Rn.zero).N = (R i).N
theorem sameL.same {R : Nat → Rn} {xs : List Rn} (h : sameL R xs) : sameR R (fun i => xs.getD i Rn.zero) xs.length := h
theorem sameL.snoc {R : Nat → Rn} {xs : List Rn} {r : Rn} (h : sameL R xs) (hr : r.s = (R xs.length).s ∧ r.n = (R xs.length).n ∧ r.N = (R xs.length).N) : sameL R (xs ++ [r]) := by
  intro i hi
  rw [List.length_append] at hi
  by_cases e : i < xs.length
  · rw [getD_l xs r Rn.zero e]
    exact h i e
  · have e2 : i = xs.length := by simp at hi; omega
    rw [getD_r xs r Rn.zero e2, e2]
    exact hr
end Go.Proofs.Ytjnckhdmaebfdaa
