/- The size of a formula, of the program and of the reference. Conditions: the nodes can be read. -/
import Derived.Test.YtanpmbiblibgfaaDoorFormOk
import Derived.Test.YtanpmbiblibgfaaDoorEvalL
import Derived.Test.YtanpmbiblibgfaaDoorIntS
import Derived.Maps.AppendAt
import Derived.BigQuiet
import Derived.RegionTactic
namespace Go.Proofs.YtanpmbiblibgfaaDoor
open Go.RowKit

set_option linter.unusedVariables false
/-- The places of a node's operands. -/
def opL (s : No) : List Int := if s.k = 9 then [s.a, s.b, s.c] else if 3 ≤ s.k ∧ s.k ≤ 8 then [s.a, s.b] else []
theorem opL_low {s : No} (h : s.k ≤ 2) : opL s = [] := by rw [opL, if_neg (by omega), if_neg (by omega)]
theorem opL_two {s : No} (h : 3 ≤ s.k) (h' : s.k ≤ 8) : opL s = [s.a, s.b] := by rw [opL, if_neg (by omega), if_pos ⟨h, h'⟩]
theorem opL_pick {s : No} (h : s.k = 9) : opL s = [s.a, s.b, s.c] := by rw [opL, if_pos h]
theorem opL_len (s : No) : (opL s).length ≤ 3 := by
  rw [opL]
  split
  · simp
  · split <;> simp
/-- Each operand's place lies ahead of the node's. -/
theorem opL_at {s : No} {m : Int} (h : nodeB s m = true) : ∀ j, j < (opL s).length → 0 ≤ (opL s).getD j 0 ∧ (opL s).getD j 0 < m := by
  rcases nodeB_parts h with ⟨h1, -⟩ | ⟨h1, -⟩ | ⟨h1, h2, a0, a1, b0, b1⟩ | ⟨h1, a0, a1, b0, b1, c0, c1⟩
  · rw [opL_low (by omega)]; intro j hj; simp at hj
  · rw [opL_low (by omega)]; intro j hj; simp at hj
  · rw [opL_two h1 h2]
    intro j hj
    match j, hj with
    | 0, _ => exact ⟨a0, a1⟩
    | 1, _ => exact ⟨b0, b1⟩
  · rw [opL_pick h1]
    intro j hj
    match j, hj with
    | 0, _ => exact ⟨a0, a1⟩
    | 1, _ => exact ⟨b0, b1⟩
    | 2, _ => exact ⟨c0, c1⟩
def m25 (a : Int) : Int := if 25 < a then 25 else a
/-- The size of a node whose operands have the sizes S. -/
def szV (s : No) (S : Nat → Int) : Int := m25 (if s.k = 9 then 1 + S s.a.toNat + S s.b.toNat + S s.c.toNat else if 3 ≤ s.k ∧ s.k ≤ 8 then 1 + S s.a.toNat + S s.b.toNat else 1)
/-- The sum over the first j operands O. -/
def szAcc (O : Nat → Int) (S : Nat → Int) : Nat → Int
  | 0 => 1
  | j + 1 => m25 (szAcc O S j + S (O j).toNat)
def szF (N : Nat → No) : Nat → List Int
  | 0 => []
  | k + 1 => szF N k ++ [szV (N k) (fun i => (szF N k).getD i 0)]
def szL (n : Nat) (N : Nat → No) : Int := if formB n N = true then (szF N n).getD (n - 1) 0 else 0
theorem m25_bd {a : Int} (h : 1 ≤ a) : 1 ≤ m25 a ∧ m25 a ≤ 25 := by rw [m25]; split <;> omega
theorem szAcc_bd {O S : Nat → Int} (h : ∀ i, 0 ≤ S i ∧ S i ≤ 25) : ∀ j, 1 ≤ szAcc O S j ∧ szAcc O S j ≤ 25
  | 0 => ⟨Int.le_refl _, by rw [szAcc]; omega⟩
  | j + 1 => by
    have := szAcc_bd h j (O := O)
    have := h (O j).toNat
    rw [szAcc]
    exact m25_bd (by omega)
theorem szAcc_all {s : No} {S : Nat → Int} (h : ∀ i, 0 ≤ S i ∧ S i ≤ 25) : szAcc (fun j => (opL s).getD j 0) S (opL s).length = szV s S := by
  have ha := h s.a.toNat
  have hb := h s.b.toNat
  have hc := h s.c.toNat
  by_cases h9 : s.k = 9
  · rw [opL_pick h9, szV, if_pos h9]
    show m25 (m25 (m25 (1 + S s.a.toNat) + S s.b.toNat) + S s.c.toNat) = _
    simp only [m25]
    repeat' split
    all_goals omega
  · by_cases h2 : 3 ≤ s.k ∧ s.k ≤ 8
    · rw [opL_two h2.1 h2.2, szV, if_neg h9, if_pos h2]
      show m25 (m25 (1 + S s.a.toNat) + S s.b.toNat) = _
      simp only [m25]
      repeat' split
      all_goals omega
    · rw [szV, if_neg h9, if_neg h2, opL, if_neg h9, if_neg h2]
      rfl
theorem szF_len (N : Nat → No) : ∀ k, (szF N k).length = k
  | 0 => rfl
  | k + 1 => by rw [szF, List.length_append, szF_len N k]; rfl
theorem szF_bd (N : Nat → No) : ∀ k i, 0 ≤ (szF N k).getD i 0 ∧ (szF N k).getD i 0 ≤ 25
  | 0, i => by simp [szF]
  | k + 1, i => by
    have ih := szF_bd N k
    rw [szF, List.getD_eq_getElem?_getD]
    rcases Nat.lt_or_ge i (szF N k).length with hl | hl
    · rw [List.getElem?_append_left hl, ← List.getD_eq_getElem?_getD]; exact ih i
    · rw [List.getElem?_append_right hl]
      by_cases e : i - (szF N k).length = 0
      · rw [e, ← szAcc_all ih]
        have := szAcc_bd ih (opL (N k)).length (O := fun j => (opL (N k)).getD j 0)
        show 0 ≤ szAcc _ _ _ ∧ szAcc _ _ _ ≤ 25
        omega
      · rw [List.getElem?_eq_none (by simp; omega)]; simp
theorem szF_last (N : Nat → No) (k : Nat) : szF N (k + 1) = szF N k ++ [szV (N k) (fun i => (szF N k).getD i 0)] := rfl
theorem RdI.cell {w : World} {B n b off : Nat} {z : Nat → Int} (h : RdI w B (some ⟨b, off, none⟩) n z) (i : Nat) (hi : i < n) : b < B ∧ w.cell? ⟨b, off + i, none⟩ = some (.int .i64 (z i)) := by
  obtain ⟨b', off', e, hb, hc⟩ := h.2 i hi
  injection e with e
  injection e with e1 e2
  subst e1 e2
  exact ⟨hb, hc⟩
theorem fs_block_base {w : World} {base e size m : Nat} {v : Value} {xs : List Value} (h : w.ownsRow base e size v m xs) : ∀ k, v.ownBlock = some k → base ≤ k := fun k hk => (h.lt k hk).1
theorem fs_drew {w : World} {base size n : Nat} {e : TypeId} {v : Value} {xs : List Value} (h : w.ownsRow base e size v n xs) : w.drew.ownsRow base e size v n xs := h
/-- An own slice of the numbers xs. -/
def OwnZ (w : World) (xs : List Int) (e : Ending) (w' : World) : Prop := ∃ (B : Option Addr) (cc : Nat), e = .returned (.slice B xs.length cc) ∧ w'.ownsRow w.heap.size 3 1 (.slice B xs.length cc) xs.length (xs.map (Value.int .i64)) ∧ Below w.heap.size w w'
theorem OwnZ.mk {w w' : World} {xs : List Int} {v : Value} (h : w'.ownsRow w.heap.size 3 1 v xs.length (xs.map (Value.int .i64))) (hb : Below w.heap.size w w') : OwnZ w xs (.returned v) w' := by
  obtain ⟨B, cc, rfl⟩ := (OwR.of_own h).form
  exact ⟨B, cc, rfl, h, hb⟩
theorem wpList_min2 {P : Program} {ops : Array Oper} {rest : List Oper} {o : Oper} {a : Act} {w : World} {Q : Exit → Act → World → Prop} (hg : o.guard = none) (x y : Operand) (ts : Array TypeId) (hop : o.op = Op.call { callee := Callee.builtin Builtin.min, args := #[x, y], argTypes := ts })
    (k : IntKind) (i j z : Int) (hx : a.eval x = .int k i) (hy : a.eval y = .int k j) (hz : (if j < i then j else i) = z) (hK : wpList P ops Q rest (a.put o.dst (.int k z)) w) :
    wpList P ops Q (o :: rest) a w := by
  refine wpList_plain hg fun K' hK' => ?_
  unfold Oper.wp
  simp [execOp, hop, resolve, invoke, builtin, hx, hy, run_min_int2, hz, Result.andThen]
  exact hK' _ _ hK
/-- The operands' slice. -/
def OpR (w : World) (xs : List Int) (e : Ending) (w' : World) : Prop := ∃ (B : Option Addr) (cc : Nat), e = .returned (.slice B xs.length cc) ∧ RdI w' w'.heap.size B xs.length (fun j => xs.getD j 0) ∧ Below w.heap.size w w'



end Go.Proofs.YtanpmbiblibgfaaDoor
