/- The words of a formula, by the program. Conditions: the nodes can be read, the table lies as the library lays it. -/
import Derived.Test.YtanpmbiblibgfaaDoorFmtI
import Derived.Test.YtanpmbiblibgfaaDoorWds
import Derived.Test.YtanpmbiblibgfaaDoorOwR
import Derived.Deep.Cut
import Derived.Deep.DeepCutAuto
import Derived.Maps.AppendAt
namespace Go.Proofs.YtanpmbiblibgfaaDoor
open Go.RowKit Go.Lib
set_option linter.unusedVariables false
set_option linter.unusedSimpArgs false
theorem str_inf : (Tryd.prog.info? 9).map (fun i => (i.zero, i.size, i.bytes)) = some (some (.string ByteArray.empty), 1, 16) := by kernel_rfl
/-- Words as cells. -/
abbrev strs (ws : List (List UInt8)) : List Value := ws.map strV
theorem own_one (w : World) (base : Nat) (h : base ≤ w.heap.size) (x : List UInt8) : (w.alloc (.cells #[strV x] 9)).ownsRow base 9 1 (.slice (some ⟨w.heap.size, 0, none⟩) 1 1) 1 (strs [x]) :=
  ⟨by simp, .inr ⟨w.heap.size, 1, #[strV x], rfl, h, Whole.new w 9 #[strV x], Nat.le_refl _, by unfold maxLen; omega, by simp, by simp⟩⟩
/-- The cells of an owned row of words. -/
theorem own_cells {w : World} {base n c : Nat} {B : Option Addr} {ws : List (List UInt8)} (h : w.ownsRow base 9 1 (.slice B n c) n (strs ws)) (hn : 1 ≤ n) : ∃ g, B = some ⟨g, 0, none⟩ ∧ base ≤ g ∧ g < w.heap.size ∧ n ≤ c ∧ ws.length = n ∧ ∀ (j : Nat) x, ws[j]? = some x → w.cell? ⟨g, j, none⟩ = some (strV x) := by
  obtain ⟨hl, h'⟩ := h
  have hl2 : ws.length = n := by simpa using hl
  have hr := OwR.of_own ⟨hl, h'⟩
  rcases hr with ⟨_, h0⟩ | ⟨g, cap, G, hv, hg, hn1, hm, hr, hG⟩
  · omega
  · injection hv with hv1 _ hv2
    subst hv1 hv2
    refine ⟨g, rfl, hg, hr.lt, hn1, hl2, fun j x hx => ?_⟩
    have hj : j < ws.length := (List.getElem?_eq_some_iff.1 hx).1
    rw [hr.cell (i := j) (by omega), hG j (by omega)]
    show some ((strs ws).getD j undef) = _
    rw [List.getD_eq_getElem?_getD, List.getElem?_map, hx]
    rfl
theorem own_news {w : World} {g : Nat} {zs : List (List UInt8)} (h : ∀ (j : Nat) x, zs[j]? = some x → w.cell? ⟨g, j, none⟩ = some (strV x)) : ∀ j u, (strs zs)[j]? = some u → w.cell? ((⟨g, 0, none⟩ : Addr).add j) = some u := by
  intro j u hu
  rw [List.getElem?_map] at hu
  cases hq : zs[j]? with
  | none => rw [hq] at hu; cases hu
  | some x =>
    rw [hq] at hu
    injection hu with hu
    rw [← hu]
    have ha : Addr.add ⟨g, 0, none⟩ j = ⟨g, j, none⟩ := by unfold Addr.add; split <;> simp_all
    rw [ha]
    exact h j x hq
theorem strs_one (zs : List (List UInt8)) : ∀ u ∈ strs zs, u.oneCell' = true := by
  intro u hu
  obtain ⟨x, _, rfl⟩ := List.mem_map.1 hu
  rfl
set_option maxHeartbeats 800000 in
theorem iKindWords (w : World) :
    Calls Tryd.prog 22 #[] w fun e w' => ∃ g : Nat, e = .returned (.slice (some ⟨g, 0, none⟩) 7 7) ∧ w.heap.size ≤ g ∧ g < w'.heap.size ∧ (∀ k : Nat, k < 7 → w'.cell? ⟨g, k, none⟩ = some (strV (nameL ((k : Int) + 3)))) ∧ Below w.heap.size w w' := by
  have pK := Whole.new w 9 #[.string ⟨#[43]⟩, .string ⟨#[45]⟩, .string ⟨#[42]⟩, .string ⟨#[47]⟩, .string ⟨#[109, 105, 110]⟩, .string ⟨#[109, 97, 120]⟩, .string ⟨#[112, 105, 99, 107]⟩]
  go_enter Tryd.func22, Tryd.ntmps22
  go_wp2
  go_ret
  refine ⟨w.heap.size, rfl, Nat.le_refl _, by simp, fun k hk => ?_, (by (repeat (first | (with_reducible exact Below.refl _ _) | (with_reducible assumption) | (with_reducible refine Below.drew ?_) | (with_reducible refine below_drewN ?_ _) | ((with_reducible refine Below.setCell ?_ ?_ _); rotate_left; focus (first | (simp; done) | omega | (simp; omega))) | ((with_reducible refine Below.alloc ?_ ?_ _); rotate_left; focus (first | exact Nat.le_refl _ | omega | (simp; done) | (simp; omega))))))⟩
  rcases (show k = 0 ∨ k = 1 ∨ k = 2 ∨ k = 3 ∨ k = 4 ∨ k = 5 ∨ k = 6 by omega) with rfl | rfl | rfl | rfl | rfl | rfl | rfl
  all_goals exact pK.cell _
/-- The operands' slice, in a block of its own. -/
def OpW (w : World) (xs : List Int) (e : Ending) (w' : World) : Prop := ∃ g : Nat, e = .returned (.slice (some ⟨g, 0, none⟩) xs.length xs.length) ∧ Whole w' g 3 (xs.map (Value.int .i64)).toArray ∧ Below w.heap.size w w'
theorem ints_at (O : List Int) {j : Nat} (h : j < O.length) : (O.map (Value.int .i64)).toArray[j]? = some (.int .i64 (O.getD j 0)) := by
  rw [List.getElem?_toArray, List.getElem?_map, List.getElem?_eq_getElem h, List.getD_eq_getElem?_getD, List.getElem?_eq_getElem h]
  rfl
/-- The words of the first j operands behind the name. -/
def wacc (N : Nat → No) (s : No) (j : Nat) : List (List UInt8) := [nameL s.k] ++ ((opL s).take j).flatMap fun z => wd N z.toNat
theorem wacc_zero (N : Nat → No) (s : No) : wacc N s 0 = [nameL s.k] := by simp [wacc]
theorem wacc_succ (N : Nat → No) (s : No) {j : Nat} (h : j < (opL s).length) : wacc N s (j + 1) = wacc N s j ++ wd N ((opL s).getD j 0).toNat := by
  rw [wacc, wacc, List.take_succ_eq_append_getElem h, List.flatMap_append, List.getD_eq_getElem?_getD, List.getElem?_eq_getElem h]
  simp
theorem wacc_all {N : Nat → No} {k : Nat} (h : nodeB (N k) (k : Int) = true) (h3 : 3 ≤ (N k).k) : wacc N (N k) (opL (N k)).length = wd N k := by
  rcases nodeB_parts h with ⟨h1, -⟩ | ⟨h1, -⟩ | ⟨h1, h2, a0, a1, b0, b1⟩ | ⟨h1, a0, a1, b0, b1, c0, c1⟩
  · omega
  · omega
  · rw [wacc, opL_two h1 h2, wd_two h1 h2 (by omega) (by omega)]
    simp
  · rw [wacc, opL_pick h1, wd_pick h1 (by omega) (by omega) (by omega)]
    simp
theorem wacc_len (N : Nat → No) (s : No) : ∀ {i j : Nat}, i ≤ j → (wacc N s i).length ≤ (wacc N s j).length := by
  intro i j h
  rw [wacc, wacc, List.length_append, List.length_append]
  have : (opL s).take j = (opL s).take i ++ ((opL s).take j).drop i := by
    conv => lhs; rw [← List.take_append_drop i ((opL s).take j)]
    rw [List.take_take, Nat.min_eq_left h]
  rw [this, List.flatMap_append, List.length_append]
  omega

end Go.Proofs.YtanpmbiblibgfaaDoor
