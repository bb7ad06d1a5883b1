/- The words of a line, by the reference. Conditions: none. -/
import Derived.Test.YtanpmbiblibgfaaGreatDoorIWor
import Derived.Test.YtanpmbiblibgfaaGreatDoorSPar
import Derived.Lib.Fields
namespace Go.Proofs.YtanpmbiblibgfaaGreatDoor
open Go.RowKit Go.Lib
set_option linter.unusedVariables false
set_option linter.unusedSimpArgs false
def goodB (b : UInt8) : Bool := decide (32 ≤ b.toNat ∧ b.toNat ≤ 126)
/-- The words of a line; none where it is too long, has a bad byte or too many words. -/
def sfL (l : List UInt8) : Option (List (List UInt8)) := if (decide (l.length ≤ 600) && (l.all goodB && decide ((fields l).length ≤ 24))) = true then some (fields l) else none
theorem sfL_long {l : List UInt8} (h : 600 < l.length) : sfL l = none := by rw [sfL, if_neg (by simp; omega)]
theorem sfL_bad {l : List UInt8} {k : Nat} {b : UInt8} (hb : l[k]? = some b) (h : ¬ (32 ≤ b.toNat ∧ b.toNat ≤ 126)) : sfL l = none := by
  rw [sfL, if_neg]
  intro e
  simp only [Bool.and_eq_true, List.all_eq_true] at e
  have := e.2.1 b (List.mem_of_getElem? hb)
  rw [goodB, decide_eq_true_eq] at this
  exact h this
theorem sfL_many {l : List UInt8} (h : 24 < (fields l).length) : sfL l = none := by rw [sfL, if_neg (by simp; omega)]
theorem sfL_ok {l : List UInt8} (h1 : l.length ≤ 600) (h2 : ∀ b ∈ l, 32 ≤ b.toNat ∧ b.toNat ≤ 126) (h3 : (fields l).length ≤ 24) : sfL l = some (fields l) := by
  rw [sfL, if_pos]
  simp only [Bool.and_eq_true, List.all_eq_true, decide_eq_true_eq]
  exact ⟨h1, fun b hb => by rw [goodB, decide_eq_true_eq]; exact h2 b hb, h3⟩
/-- What SplitFields leaves. -/
def SplE (w : World) (r : Option (List (List UInt8))) (e : Ending) (w' : World) : Prop :=
  ∃ (B : Option Addr) (cc : Nat), e = .returned (.tuple #[.slice B (r.getD []).length cc, .bool r.isSome]) ∧ w'.ownsRow w.heap.size 9 1 (.slice B (r.getD []).length cc) (r.getD []).length (strs (r.getD [])) ∧ Below w.heap.size w w'
theorem isSp_32 : isSp 32 = true := by decide
theorem isSp_good {b : UInt8} (h : 32 ≤ b.toNat) (hn : b.toNat ≠ 32) : isSp b = false := by
  cases e : isSp b with
  | false => rfl
  | true =>
    exfalso
    simp only [isSp, Bool.or_eq_true, beq_iff_eq] at e
    rcases e with ((((e | e) | e) | e) | e) | e
    all_goals
      subst e
      first
        | exact hn rfl
        | (revert h; decide)
/-- What the words ahead of byte i are, the word under way beginning at g. -/
def splI (l : List UInt8) (i g : Nat) (xs : List (List UInt8)) : Prop :=
  xs.length ≤ i ∧ (i ≤ l.length → g ≤ i ∧ (∀ b ∈ l.take i, 32 ≤ b.toNat ∧ b.toNat ≤ 126) ∧ fields l = xs ++ fieldsGo ((l.take i).drop g) (l.drop i)) ∧ (l.length < i → (∀ b ∈ l, 32 ≤ b.toNat ∧ b.toNat ≤ 126) ∧ fields l = xs)
theorem splI_zero (l : List UInt8) : splI l 0 0 [] := ⟨Nat.le_refl _, fun _ => ⟨Nat.le_refl _, fun b hb => by simp at hb, by simp [fields]⟩, fun h => by omega⟩
theorem take_snoc' {l : List UInt8} {i : Nat} {b : UInt8} (hb : l[i]? = some b) : l.take (i + 1) = l.take i ++ [b] := by
  have hi : i < l.length := (List.getElem?_eq_some_iff.1 hb).1
  rw [List.take_succ_eq_append_getElem hi]
  rw [List.getElem?_eq_getElem hi] at hb
  injection hb with hb
  rw [hb]
theorem good_snoc {l : List UInt8} {i : Nat} {b : UInt8} (hb : l[i]? = some b) (h : ∀ x ∈ l.take i, 32 ≤ x.toNat ∧ x.toNat ≤ 126) (hg : 32 ≤ b.toNat ∧ b.toNat ≤ 126) : ∀ x ∈ l.take (i + 1), 32 ≤ x.toNat ∧ x.toNat ≤ 126 := by
  intro x hx
  rw [take_snoc' hb] at hx
  rcases List.mem_append.1 hx with hx | hx
  · exact h x hx
  · rw [List.mem_singleton.1 hx]; exact hg
theorem drop_cons' {l : List UInt8} {i : Nat} {b : UInt8} (hb : l[i]? = some b) : l.drop i = b :: l.drop (i + 1) := by
  have hi : i < l.length := (List.getElem?_eq_some_iff.1 hb).1
  rw [List.drop_eq_getElem_cons hi]
  rw [List.getElem?_eq_getElem hi] at hb
  injection hb with hb
  rw [hb]
theorem splI_more {l : List UInt8} {i g : Nat} {xs : List (List UInt8)} {b : UInt8} (h : splI l i g xs) (hb : l[i]? = some b) (hg : 32 ≤ b.toNat ∧ b.toNat ≤ 126) (hn : b.toNat ≠ 32) : splI l (i + 1) g xs := by
  have hi : i < l.length := (List.getElem?_eq_some_iff.1 hb).1
  obtain ⟨h0, h1, -⟩ := h
  obtain ⟨k1, k2, k3⟩ := h1 (by omega)
  refine ⟨by omega, fun _ => ⟨by omega, good_snoc hb k2 hg, ?_⟩, fun h => by omega⟩
  rw [k3, drop_cons' hb, fieldsGo_more _ _ _ (isSp_good hg.1 hn), take_snoc' hb, List.drop_append_of_le_length (by rw [List.length_take]; omega)]
theorem splI_space {l : List UInt8} {i g : Nat} {xs : List (List UInt8)} {b : UInt8} (h : splI l i g xs) (hb : l[i]? = some b) (hn : b.toNat = 32) (hgi : ¬ g < i) : splI l (i + 1) (i + 1) xs := by
  have hi : i < l.length := (List.getElem?_eq_some_iff.1 hb).1
  obtain ⟨h0, h1, -⟩ := h
  obtain ⟨k1, k2, k3⟩ := h1 (by omega)
  obtain rfl : b = 32 := UInt8.toNat_inj.1 hn
  have hg : g = i := by omega
  refine ⟨by omega, fun _ => ⟨Nat.le_refl _, good_snoc hb k2 (by decide), ?_⟩, fun h => by omega⟩
  have e1 : (l.take i).drop g = [] := List.drop_eq_nil_of_le (by rw [List.length_take]; omega)
  have e2 : (l.take (i + 1)).drop (i + 1) = [] := List.drop_eq_nil_of_le (by rw [List.length_take]; omega)
  rw [k3, drop_cons' hb, e1, e2, fieldsGo_sp _ _ isSp_32]
theorem splI_word {l : List UInt8} {i g : Nat} {xs : List (List UInt8)} {b : UInt8} (h : splI l i g xs) (hb : l[i]? = some b) (hn : b.toNat = 32) (hgi : g < i) : splI l (i + 1) (i + 1) (xs ++ [(l.take i).drop g]) := by
  have hi : i < l.length := (List.getElem?_eq_some_iff.1 hb).1
  obtain ⟨h0, h1, -⟩ := h
  obtain ⟨k1, k2, k3⟩ := h1 (by omega)
  obtain rfl : b = 32 := UInt8.toNat_inj.1 hn
  refine ⟨by rw [List.length_append]; simp; omega, fun _ => ⟨Nat.le_refl _, good_snoc hb k2 (by decide), ?_⟩, fun h => by omega⟩
  have e1 : (l.take i).drop g ≠ [] := fun e => by
    have := congrArg List.length e
    rw [List.length_drop, List.length_take] at this
    simp at this
    omega
  have e2 : (l.take (i + 1)).drop (i + 1) = [] := List.drop_eq_nil_of_le (by rw [List.length_take]; omega)
  rw [k3, drop_cons' hb, e2, fieldsGo_end _ _ _ isSp_32 e1, List.append_assoc]
  rfl
theorem splI_end {l : List UInt8} {g : Nat} {xs : List (List UInt8)} (h : splI l l.length g xs) (hgi : ¬ g < l.length) : splI l (l.length + 1) (l.length + 1) xs := by
  obtain ⟨h0, h1, -⟩ := h
  obtain ⟨k1, k2, k3⟩ := h1 (Nat.le_refl _)
  have e1 : (l.take l.length).drop g = [] := List.drop_eq_nil_of_le (by rw [List.length_take]; omega)
  refine ⟨by omega, fun h => by omega, fun _ => ⟨fun b hb => k2 b (by rw [List.take_length]; exact hb), ?_⟩⟩
  rw [k3, e1, List.drop_length]
  simp [fieldsGo]
theorem splI_endw {l : List UInt8} {g : Nat} {xs : List (List UInt8)} (h : splI l l.length g xs) (hgi : g < l.length) : splI l (l.length + 1) (l.length + 1) (xs ++ [(l.take l.length).drop g]) := by
  obtain ⟨h0, h1, -⟩ := h
  obtain ⟨k1, k2, k3⟩ := h1 (Nat.le_refl _)
  have e1 : (l.take l.length).drop g ≠ [] := fun e => by
    have := congrArg List.length e
    rw [List.length_drop, List.length_take] at this
    simp at this
    omega
  refine ⟨by rw [List.length_append]; simp; omega, fun h => by omega, fun _ => ⟨fun b hb => k2 b (by rw [List.take_length]; exact hb), ?_⟩⟩
  rw [k3, List.drop_length]
  cases hq : (l.take l.length).drop g with
  | nil => exact absurd hq e1
  | cons a r => simp [fieldsGo]
theorem str_cells_new (w : World) (xs : List Value) (t : TypeId) : ∀ j u, xs[j]? = some u → (w.alloc (.cells xs.toArray t)).cell? ((⟨w.heap.size, 0, none⟩ : Addr).add j) = some u := by
  intro j u hj
  have ha : Addr.add ⟨w.heap.size, 0, none⟩ j = ⟨w.heap.size, j, none⟩ := by unfold Addr.add; split <;> simp_all
  rw [ha, (Whole.new w t xs.toArray).cell j, List.getElem?_toArray, hj]
theorem extractMid (s : ByteArray) (a b : Nat) : s.extract a b = ⟨((s.data.toList.take b).drop a).toArray⟩ := by
  have h := ByteArray.extract_mk s.data.toList a b
  rw [← baList s] at h
  rw [h, List.drop_take]

end Go.Proofs.YtanpmbiblibgfaaGreatDoor
