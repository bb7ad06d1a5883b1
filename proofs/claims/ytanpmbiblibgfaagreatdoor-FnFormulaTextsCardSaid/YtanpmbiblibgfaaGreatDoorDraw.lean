/- The draws of numbers from bytes: each number lies within its bounds; the cursor stays whole. Conditions: the cursor is whole. -/
import Derived.Test.YtanpmbiblibgfaaGreatDoorGb
namespace Go.Proofs.YtanpmbiblibgfaaGreatDoor
open Go.RowKit

theorem drawn_move {w : World} {B g n c : Nat} {A : Option Addr} {i h : Int} {P : Int → Prop} {x : Int} (hw : Whole w g 57 #[.slice A n c, .int .i64 i, .int .i64 h]) (hB : B ≤ g) (hB2 : B ≤ w.heap.size) (hb : Bys w B A n) (hP : P x) (m : Nat) (i' h' : Int) (h0 : 0 ≤ i') (h1 : i' ≤ n) :
    Drawn w B g A n c P (.returned (.int .i64 x)) (((w.setCell ⟨g, 2, none⟩ (.int .i64 h')).drewN m).setCell ⟨g, 1, none⟩ (.int .i64 i')) := by
  have hG := grown_setCell (grown_drewN (grown_setCell (grown_refl w (some g)) (p := ⟨g, 2, none⟩) rfl (.int .i64 h')) m) (p := ⟨g, 1, none⟩) rfl (.int .i64 i')
  exact ⟨_, rfl, hP, ⟨i', h', ((hw.put 2 _).drewN _).put 1 _, h0, h1, hB, Nat.le_trans hB2 hG.size, hb.grown hG hB2 (fun k e => by injection e; omega)⟩, hG⟩
theorem drawn_stay {w : World} {B g n c : Nat} {A : Option Addr} {i h : Int} {P : Int → Prop} {x : Int} (hw : Whole w g 57 #[.slice A n c, .int .i64 i, .int .i64 h]) (hB : B ≤ g) (hB2 : B ≤ w.heap.size) (hb : Bys w B A n) (hP : P x) (m : Nat) (h' : Int) (h0 : 0 ≤ i) (h1 : i ≤ n) :
    Drawn w B g A n c P (.returned (.int .i64 x)) ((w.setCell ⟨g, 2, none⟩ (.int .i64 h')).drewN m) := by
  have hG := grown_drewN (grown_setCell (grown_refl w (some g)) (p := ⟨g, 2, none⟩) rfl (.int .i64 h')) m
  exact ⟨_, rfl, hP, ⟨i, h', (hw.put 2 _).drewN _, h0, h1, hB, Nat.le_trans hB2 hG.size, hb.grown hG hB2 (fun k e => by injection e; omega)⟩, hG⟩

set_option maxHeartbeats 800000 in
theorem sByte (w : World) (B g : Nat) (A : Option Addr) (n c : Nat) (hc : Cur w B g A n c) :
    Calls Tryz.prog 39 #[.pointer (some ⟨g, 0, none⟩)] w (Drawn w B g A n c fun x => 0 ≤ x ∧ x ≤ 255) := by
  obtain ⟨i, h, hw, h0, h1, hB, hB2, hb⟩ := hc
  have c0 := hw.cell 0
  have c1 := hw.cell 1
  have c2 := hw.cell 2
  have f1 := hw.free 1
  have f2 := hw.free 2
  simp at c0 c1 c2
  have hn := hb.1
  by_cases hlt : i < n
  · obtain ⟨k, rfl⟩ := Int.eq_ofNat_of_zero_le h0
    obtain ⟨b, off, z, rfl, hbB, hcell, z0, z1⟩ := hb.2 k (by omega)
    have hbg : ¬ b = g := by omega
    go_enter Tryz.func39, Tryz.ntmps39
    go_wp2_with fail
    go_quiet (fail)
    go_wp2_with fail
    go_quiet (fail)
    go_wp2_with fail
    go_quiet (fail)
    go_wp2_with fail
    go_ret
    exact drawn_move hw hB hB2 hb (and255 _) _ _ _ (by omega) (by omega)
  · have hi : i = n := by omega
    subst hi
    go_enter Tryz.func39, Tryz.ntmps39
    go_wp2_with fail
    go_quiet (fail)
    go_wp2_with fail
    go_quiet (fail)
    go_wp2_with fail
    go_ret
    simp only [World.drewN_drewN]
    exact drawn_stay hw hB hB2 hb (and255 _) _ _ (by omega) (by omega)

/-- A bound on what a draw below n gives. -/
def inBelow (n x : Int) : Prop := 0 ≤ x ∧ (0 < n → x < n) ∧ (n ≤ 0 → x = 0)

set_option maxHeartbeats 800000 in
theorem sBelow (w : World) (B g : Nat) (A : Option Addr) (n c : Nat) (m : Int) (hm : m ≤ 2147483647) (hc : Cur w B g A n c) :
    Calls Tryz.prog 20 #[.pointer (some ⟨g, 0, none⟩), .int .i64 m] w (Drawn w B g A n c (inBelow m)) := by
  by_cases h0 : m ≤ 0
  · go_enter Tryz.func20, Tryz.ntmps20
    go_wp2_with fail
    go_ret
    exact ⟨_, rfl, ⟨by omega, by omega, by omega⟩, hc, grown_refl _ _⟩
  · by_cases h1 : m ≤ 256
    · go_enter Tryz.func20, Tryz.ntmps20
      go_wp2_with fail
      refine (sByte _ B g A n c hc).mono ?_
      rintro e w1 ⟨x, rfl, ⟨hx0, hx1⟩, hc1, hg1⟩
      have hx2 := Int.emod_nonneg x (show m ≠ 0 by omega)
      have hx3 := Int.emod_lt_of_pos x (show 0 < m by omega)
      have hm0 : (m == 0) = false := by simp; omega
      go_wp2_with fail
      go_ret
      exact ⟨_, rfl, ⟨hx2, fun _ => hx3, by omega⟩, hc1, hg1⟩
    · go_enter Tryz.func20, Tryz.ntmps20
      go_wp2_with fail
      refine (sByte _ B g A n c hc).mono ?_
      rintro e w1 ⟨x, rfl, ⟨hx0, hx1⟩, hc1, hg1⟩
      go_wp2_with fail
      refine (sByte _ B g A n c hc1).mono ?_
      rintro e w2 ⟨y, rfl, ⟨hy0, hy1⟩, hc2, hg2⟩
      go_wp2_with fail
      refine (sByte _ B g A n c hc2).mono ?_
      rintro e w3 ⟨z, rfl, ⟨hz0, hz1⟩, hc3, hg3⟩
      go_wp2_with fail
      refine (sByte _ B g A n c hc3).mono ?_
      rintro e w4 ⟨u, rfl, ⟨hu0, hu1⟩, hc4, hg4⟩
      have hx2 := Int.emod_nonneg (x * 16777216 + y * 65536 + z * 256 + u) (show m ≠ 0 by omega)
      have hx3 := Int.emod_lt_of_pos (x * 16777216 + y * 65536 + z * 256 + u) (show 0 < m by omega)
      have hm0 : (m == 0) = false := by simp; omega
      go_wp2_with fail
      go_ret
      exact ⟨_, rfl, ⟨hx2, fun _ => hx3, by omega⟩, hc4, grown_trans (grown_trans (grown_trans hg1 hg2) hg3) hg4⟩

/-- What a new cursor is. -/
def Made (w : World) (B : Nat) (A : Option Addr) (n c : Nat) (e : Ending) (w' : World) : Prop :=
  ∃ g : Nat, e = .returned (.pointer (some ⟨g, 0, none⟩)) ∧ Cur w' B g A n c ∧ Below w.heap.size w w' ∧ w.heap.size ≤ g

set_option maxHeartbeats 800000 in
theorem sNew (w : World) (B : Nat) (A : Option Addr) (n c : Nat) (hB : B ≤ w.heap.size) (hb : Bys w B A n) :
    Calls Tryz.prog 10 #[.slice A n c] w (Made w B A n c) := by
  have hn := hb.1
  go_enter Tryz.func10, Tryz.ntmps10
  go_wp2_with fail
  go_loop [3, 4] (fun s i => ∃ (k : Nat) (h : Int), k ≤ n ∧ i = .int .i64 k ∧ s = .int .i64 h) (fun _ i => n - (intOf i).toNat)
  case atStart => exact ⟨0, _, Nat.zero_le _, rfl, rfl⟩
  case round =>
    obtain ⟨k, h, hk, rfl, rfl⟩ := hrel
    by_cases hlt : k < n
    · by_cases h4 : (k : Int) < 4000
      · obtain ⟨b, off, z, rfl, hbB, hcell, z0, z1⟩ := hb.2 k hlt
        go_wp2_with fail
        go_round
        case rel => exact ⟨k + 1, _, by omega, by go_num, rfl⟩
        case measure => simp [intOf]; omega
      · go_wp2_with fail
        go_ret
        exact ⟨w.heap.size, rfl, ⟨0, h, Whole.new _ _ _, by omega, by omega, hB, by simp; omega, hb.below ((Below.refl _ _).alloc hB _)⟩, (Below.refl _ _).alloc (Nat.le_refl _) _, Nat.le_refl _⟩
    · go_wp2_with fail
      go_ret
      exact ⟨w.heap.size, rfl, ⟨0, h, Whole.new _ _ _, by omega, by omega, hB, by simp; omega, hb.below ((Below.refl _ _).alloc hB _)⟩, (Below.refl _ _).alloc (Nat.le_refl _) _, Nat.le_refl _⟩
end Go.Proofs.YtanpmbiblibgfaaGreatDoor
