/- The value of a formula, of the program and of the reference. Conditions: nodes and variables can be read. -/
import Derived.Test.YtanpmbiblibgfaaGreatDoorEvalA
namespace Go.Proofs.YtanpmbiblibgfaaGreatDoor
open Go.RowKit

set_option linter.unusedVariables false
theorem OwnV.inv_no {w w' : World} {n : Nat} {e : Ending} (h : OwnV w none n e w') : ∃ (B : Option Addr) (cc : Nat), e = .returned (.tuple #[.slice B 0 cc, .bool false]) ∧ OwR w' w.heap.size 33 2 (.slice B 0 cc) 0 (frAt fun _ => (0, 0)) ∧ Below w.heap.size w w' := h
theorem OwnV.inv_yes {w w' : World} {n : Nat} {e : Ending} {K : Nat → Fr} (h : OwnV w (some K) n e w') : ∃ (B : Option Addr) (cc : Nat), e = .returned (.tuple #[.slice B n cc, .bool true]) ∧ OwR w' w.heap.size 33 2 (.slice B n cc) n (frAt K) ∧ Below w.heap.size w w' := h
theorem evAll_len {n m : Nat} {N : Nat → No} {V K : Nat → Fr} (h : evAll n m N V = some K) : 1 ≤ n ∧ n ≤ 30 := by
  rw [evAll] at h
  split at h
  · rename_i hh
    simp only [Bool.and_eq_true] at hh
    exact formB_len hh.1
  · cases h


set_option maxRecDepth 4000 in
set_option maxHeartbeats 1600000 in
theorem sEval (w : World) (A VA : Option Addr) (n c m vc : Nat) (N : Nat → No) (V : Nat → Fr) (hN : RdNo w w.heap.size A n N) (hV : RdFr w w.heap.size VA m V) (hn : n ≤ 1099511627776) :
    Calls Tryz.prog 9 #[.slice A n c, .slice VA m vc] w fun e w' => e = .returned (vOpt (evOne n m N V)) ∧ Below w.heap.size w w' := by
  have hbx : Below w.heap.size w (w.alloc (.cells #[.int .i64 0, .int .i64 0] 33)) := (by (repeat (first | (with_reducible exact Below.refl _ _) | (with_reducible assumption) | (with_reducible refine Below.drew ?_) | (with_reducible refine below_drewN ?_ _) | ((with_reducible refine Below.setCell ?_ ?_ _); rotate_left; focus (first | (simp; done) | omega | (simp; omega))) | ((with_reducible refine Below.alloc ?_ ?_ _); rotate_left; focus (first | exact Nat.le_refl _ | omega | (simp; done) | (simp; omega))))))
  have EA := fun (v : World) (h1 : RdNo v v.heap.size A n N) (h2 : RdFr v v.heap.size VA m V) => sEvalAll v A VA n c m vc N V h1 h2 hn
  have hx1 := (hN.below hbx).more hbx.size
  have hx2 := (hV.below hbx).more hbx.size
  rw [evOne]
  cases hr : evAll n m N V with
  | none =>
    simp only [hr] at EA
    clear hr
    go_enter Tryz.func9, Tryz.ntmps9
    go_wp2_with fail
    refine (EA _ hx1 hx2).mono ?_
    intro e w1 hh
    obtain ⟨B, cc, rfl, -, hb1⟩ := hh.inv_no
    have hs1 := hb1.size
    simp at hs1
    have c0 : w1.cell? ⟨w.heap.size, 0, none⟩ = some (.int .i64 0) := by rw [(keepc hb1).1 _ _ (by simp)]; simp [go_sem]
    have c1 : w1.cell? ⟨w.heap.size, 1, none⟩ = some (.int .i64 0) := by rw [(keepc hb1).1 _ _ (by simp)]; simp [go_sem]
    have f0 : w1.frozen? ⟨w.heap.size, 0, none⟩ = false := by rw [(keepc hb1).2 _ _ (by simp)]; simp [go_sem]
    have f1 : w1.frozen? ⟨w.heap.size, 1, none⟩ = false := by rw [(keepc hb1).2 _ _ (by simp)]; simp [go_sem]
    have hB1 := hbx.trans (hb1.mono hbx.size)
    clear hb1 hbx hh EA hx1 hx2
    go_wp2_with fail
    refine bodyPost_ret (v := vOpt none) (by simp [results, Tryz.results9, go_sem, oN_none, oD_none, oB_none, c0, c1]) rfl ⟨rfl, (by (repeat (first | (with_reducible exact Below.refl _ _) | (with_reducible assumption) | (with_reducible refine Below.drew ?_) | (with_reducible refine below_drewN ?_ _) | ((with_reducible refine Below.setCell ?_ ?_ _); rotate_left; focus (first | (simp; done) | omega | (simp; omega))) | ((with_reducible refine Below.alloc ?_ ?_ _); rotate_left; focus (first | exact Nat.le_refl _ | omega | (simp; done) | (simp; omega))))))⟩
  | some K =>
    have hln := evAll_len hr
    obtain ⟨hl1, hl2⟩ := hln
    simp only [hr] at EA
    obtain ⟨p, hp⟩ : ∃ p, n = p + 1 := ⟨n - 1, by omega⟩
    subst hp
    clear hr
    go_enter Tryz.func9, Tryz.ntmps9
    go_wp2_with fail
    refine (EA _ hx1 hx2).mono ?_
    intro e w1 hh
    obtain ⟨B, cc, rfl, own, hb1⟩ := hh.inv_yes
    have hs1 := hb1.size
    simp at hs1
    have rd := RdFr.own own
    obtain ⟨b, off, rfl, hbB, d0, d1⟩ := rd.2 p (by omega)
    have hlo : w.heap.size + 1 ≤ b ∧ b < w1.heap.size := by have := own.lt b (by simp [Value.ownBlock]); simpa using this
    have hne : ¬ b = w.heap.size := by omega
    have c0 : w1.cell? ⟨w.heap.size, 0, none⟩ = some (.int .i64 0) := by rw [(keepc hb1).1 _ _ (by simp)]; simp [go_sem]
    have c1 : w1.cell? ⟨w.heap.size, 1, none⟩ = some (.int .i64 0) := by rw [(keepc hb1).1 _ _ (by simp)]; simp [go_sem]
    have f0 : w1.frozen? ⟨w.heap.size, 0, none⟩ = false := by rw [(keepc hb1).2 _ _ (by simp)]; simp [go_sem]
    have f1 : w1.frozen? ⟨w.heap.size, 1, none⟩ = false := by rw [(keepc hb1).2 _ _ (by simp)]; simp [go_sem]
    obtain ⟨⟨kn, kd⟩, hk⟩ : ∃ v, v = K p := ⟨_, rfl⟩
    rw [← hk] at d0 d1
    dsimp only at d0 d1
    have hB1 := hbx.trans (hb1.mono hbx.size)
    have HK := Lib.hid hk
    have e1 : IntKind.i64.wrap ((p : Int) + 1 - 1) = p := by rw [show (p : Int) + 1 - 1 = p by omega]; exact IntWalk.i64_in _ ⟨by omega, by omega⟩
    clear hb1 hbx hh EA hx1 hx2 own rd hk
    go_wp2_with fail
    refine bodyPost_ret (v := vOpt (some (kn, kd))) (by simp [results, Tryz.results9, go_sem, oN_some, oD_some, oB_some, c0, c1]) rfl ⟨by rw [HK.out]; rfl, (by (repeat (first | (with_reducible exact Below.refl _ _) | (with_reducible assumption) | (with_reducible refine Below.drew ?_) | (with_reducible refine below_drewN ?_ _) | ((with_reducible refine Below.setCell ?_ ?_ _); rotate_left; focus (first | (simp; done) | omega | (simp; omega))) | ((with_reducible refine Below.alloc ?_ ?_ _); rotate_left; focus (first | exact Nat.le_refl _ | omega | (simp; done) | (simp; omega))))))⟩
end Go.Proofs.YtanpmbiblibgfaaGreatDoor
