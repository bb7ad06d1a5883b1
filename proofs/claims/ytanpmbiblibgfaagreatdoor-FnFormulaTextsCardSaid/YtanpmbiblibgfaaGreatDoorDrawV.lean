/- The formulas and the variables that a draw gives. Conditions: bytes can be read. -/
import Derived.Test.YtanpmbiblibgfaaGreatDoorDrawF
import Derived.Test.YtanpmbiblibgfaaGreatDoorFrS
import Derived.Maps.AppendAt
namespace Go.Proofs.YtanpmbiblibgfaaGreatDoor
open Go.RowKit

set_option linter.unusedVariables false
set_option maxRecDepth 4000 in
set_option maxHeartbeats 1600000 in
theorem sGiven8 (w : World) (B g : Nat) (A : Option Addr) (n c : Nat) (hc : Cur w B g A n c) :
    Calls Tryz.prog 12 #[.pointer (some ⟨g, 0, none⟩)] w fun e w' => ∃ (v : Value) (xs : List Fr), e = .returned v ∧ xs.length = 8 ∧ (∀ i, i < 8 → fracOkL (xs.getD i Fr.zero) = true) ∧ w'.ownsRow w.heap.size 33 2 v 8 (xs.flatMap Fr.cells) ∧ Dr w B g A n c w' := by
  obtain ⟨i0, hi, hz0, hz1, hz2⟩ := info_parts fr_inf
  have hBw := hc.lt.2.2
  go_enter Tryz.func12, Tryz.ntmps12
  go_wp2_with fail
  go_loopw [3, 4] (fun v i wr => ∃ (k : Nat) (xs : List Fr), k ≤ 8 ∧ i = .int .i64 k ∧ Hid (xs.length = k ∧ ∀ i, i < xs.length → fracOkL (xs.getD i Fr.zero) = true) ∧ wr.ownsRow w.heap.size 33 2 v k (xs.flatMap Fr.cells) ∧ Dr w B g A n c wr) (fun _ i _ => 8 - (intOf i).toNat)
  case atStart => exact ⟨0, [], by omega, rfl, Lib.hid ⟨rfl, fun i hi => absurd hi (Nat.not_lt_zero i)⟩, own_empty _ _ _ _ (Nat.le_refl _), (Dr.start hc).alloc _⟩
  case round =>
    obtain ⟨k, xs, hk, rfl, hok, hown, dr⟩ := hrel
    by_cases hlt : k < 8
    · have hlt2 : (k : Int) < 8 := by omega
      go_wp2_with fail
      refine (sBelow _ B g A n c 60 (by omega) dr.1).mono ?_
      rintro e w2 ⟨y1, rfl, ⟨ly1, vy1, -⟩, hc2, hg2⟩
      replace hown := own_drawn hown dr.1 hg2 (by decide)
      replace dr := dr.draw hc2 hg2
      have uy1 := vy1 (by omega)
      clear hc2 hg2 vy1
      go_wp2_with fail
      refine (sBelow _ B g A n c 4 (by omega) dr.1).mono ?_
      rintro e w3 ⟨y2, rfl, ⟨ly2, vy2, -⟩, hc3, hg3⟩
      replace hown := own_drawn hown dr.1 hg3 (by decide)
      replace dr := dr.draw hc3 hg3
      have uy2 := vy2 (by omega)
      clear hc3 hg3 vy2
      obtain ⟨p, q, eR, okR, -, -, -, -⟩ := redL_parts (n := y1 - 10) (d := 1 + y2) (by omega) (by omega) (by omega) (by omega)
      have hN : fracNewL (y1 - 10) (1 + y2) = some (p, q) := by rw [fracNewL, if_pos (by simp [inB]; omega)]; exact eR
      have CC := fun (v : World) => sFracNew (y1 - 10) (1 + y2) v
      rw [hN] at CC
      simp only [vOpt, oN_some, oD_some, oB_some] at CC
      have e3 : IntKind.i64.wrap (y1 - 10) = y1 - 10 := IntWalk.i64_in _ ⟨by omega, by omega⟩
      have e4 : IntKind.i64.wrap (1 + y2) = 1 + y2 := IntWalk.i64_in _ ⟨by omega, by omega⟩
      clear hN eR
      have HOK := Lib.hid okR
      clear okR
      go_wp2_with fail
      refine (CC _).mono ?_
      rintro e w4 ⟨rfl, hb4⟩
      replace dr := dr.below hb4
      replace hown := hown.kept (grown_of_below hb4 none) (Classical.em _)
      clear CC hb4
      go_wp2_with (at_builtin; refine wpList_append_own_at _ rfl _ _ 25 rfl w.heap.size 33 i0 (.agg #[.int .i64 0, .int .i64 0]) 2 16 Tryz.underlying25 hi hz0 hz1 hz2 rfl (by decide) _ _ _ rfl ((hown.alloc (.cells #[.int .i64 p, .int .i64 q] 33)).alloc _) ⟨w4.heap.size + 1, 0, none⟩ 1 1 [.int .i64 p, .int .i64 q] rfl rfl ?c1 ?c2 ?c3 ?c4 ?c5 ?_)
      case c1 => have h := no_cells_new (w4.alloc (.cells #[.int .i64 p, .int .i64 q] 33)) [.int .i64 p, .int .i64 q] 33; simpa using h
      case c2 => first | rfl | (intro u hu; simp at hu; rcases hu with rfl | rfl <;> rfl)
      case c3 => unfold maxLen; omega
      case c4 => omega
      case c5 => simp; have := dr.2.size; omega
      intro v' w5 hown5 hg5 _ hat5
      have hgt := dr.1.lt.1
      have hgw := hc.lt.1
      replace dr := ((dr.alloc (.cells #[.int .i64 p, .int .i64 q] 33)).alloc (.cells #[.int .i64 p, .int .i64 q] 33)).grown hg5 (fun q hq => ⟨(hown.lt q hq).1, by have := (hown.lt q hq).1; omega⟩) hBw
      go_wp2
      go_roundw
      case rel =>
        refine ⟨k + 1, xs ++ [(p, q)], by omega, by go_num, Lib.hid ⟨by rw [List.length_append, hok.out.1]; rfl, ?_⟩, ?_, dr⟩
        · intro i hi
          rw [List.length_append] at hi
          by_cases e : i < xs.length
          · rw [getD_old' xs _ Fr.zero e]; exact hok.out.2 i e
          · rw [getD_new' xs _ Fr.zero (by simp at hi; omega)]; exact HOK.out
        · rw [List.flatMap_append]; exact hown5
      case measure => simp [intOf]; omega
    · obtain rfl : k = 8 := by omega
      go_wp2_with fail
      go_ret
      exact ⟨_, xs, rfl, hok.out.1, fun i hi => hok.out.2 i (by rw [hok.out.1]; exact hi), hown, dr⟩

set_option maxRecDepth 4000 in
set_option maxHeartbeats 1600000 in
theorem sDrawFormula (w : World) (A : Option Addr) (n c : Nat) (hb : Bys w w.heap.size A n) :
    Calls Tryz.prog 5 #[.slice A n c] w fun e w' => ∃ (k : Nat) (D : Option Addr) (cd : Nat) (N : Nat → No) (VA : Option Addr) (vc : Nat) (V : Nat → Fr), e = .returned (.tuple #[.slice D k cd, .slice VA 8 vc]) ∧ 1 ≤ k ∧ k ≤ 9 ∧ formB k N = true ∧ (∀ i, i < 8 → fracOkL (V i) = true) ∧ RdNo w' w'.heap.size D k N ∧ RdFr w' w'.heap.size VA 8 V ∧ Below w.heap.size w w' := by
  go_enter Tryz.func5, Tryz.ntmps5
  go_wp2_with fail
  refine (sNew _ w.heap.size A n c (Nat.le_refl _) hb).mono ?_
  rintro e w1 ⟨g, rfl, hc1, hb1, hg1⟩
  have hs1 := hb1.size
  go_wp2_with fail
  refine (sFormula8 _ w.heap.size g A n c hc1).mono ?_
  rintro e w2 ⟨v, k, xs, rfl, hk1, hk9, hl, hf, own, dr⟩
  have hgl := hc1.lt.1
  have hs2 := dr.2.size
  have own2 := OwNo.list own hl
  obtain ⟨D, cd, rfl⟩ := own2.form
  go_wp2_with fail
  refine (sGiven8 _ w.heap.size g A n c dr.1).mono ?_
  rintro e w3 ⟨v3, ys, rfl, hyl, hyg, ownv, dr3⟩
  have hs3 := dr3.2.size
  have own3 := OwNo.list (own_drawn own dr.1 dr3.2 (by decide)) hl
  have rdN := RdNo.own own3
  have ownF := OwFr.list ownv hyl
  obtain ⟨VA, vc, rfl⟩ := ownF.form
  have rdV := RdFr.own ownF
  have hB : Below w.heap.size w w3 := (hb1.grown dr.2 hs1 (fun q hq => by injection hq; omega)).grown dr3.2 (by omega) (fun q hq => by injection hq; omega)
  clear own ownv own2 own3 ownF
  go_wp2_with fail
  go_ret2
  exact ⟨k, D, cd, fun i => xs.getD i No.zero, VA, vc, fun i => ys.getD i Fr.zero, rfl, hk1, hk9, hf, hyg, rdN, rdV, hB⟩
end Go.Proofs.YtanpmbiblibgfaaGreatDoor
