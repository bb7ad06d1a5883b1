/- Stores copied and compared. Conditions: the facts can be read. -/
import Derived.Test.YtondmakaednpdaaFa
namespace Go.Proofs.Ytondmakaednpdaa
open Go.RowKit

set_option maxHeartbeats 400000 in
theorem szStore_any (w : World) (A : Option Addr) (n c : Nat) (hn : n ≤ 9223372036854775807) :
    Calls Try.prog 16 #[.agg #[.slice A n c], .int .i64 1048576] w fun e w' => e = .returned (.int .i64 (if (1048576 : Int) < n then -1 else 1048576 - n)) ∧ Below w.heap.size w w' := by
  by_cases h : (1048576 : Int) < n
  · have h2 := szFacts (w.alloc (.cells #[.slice A n c] 39)) A n c hn
    rw [if_pos h] at h2 ⊢
    go_enter Try.func16, Try.ntmps16
    go_wp2_with fail
    refine h2.mono ?_
    rintro e w' ⟨rfl, rfl⟩
    go_wp2_with fail
    go_ret
    exact ⟨rfl, (by (repeat (first | (with_reducible exact Below.refl _ _) | (with_reducible assumption) | (with_reducible refine Below.drew ?_) | (with_reducible refine below_drewN ?_ _) | ((with_reducible refine Below.setCell ?_ ?_ _); rotate_left; focus (first | (simp; done) | omega | (simp; omega))) | ((with_reducible refine Below.alloc ?_ ?_ _); rotate_left; focus (first | exact Nat.le_refl _ | omega | (simp; done) | (simp; omega))))))⟩
  · have h2 := szFacts (w.alloc (.cells #[.slice A n c] 39)) A n c hn
    rw [if_neg h] at h2 ⊢
    have h3 : ¬ (1048576 : Int) - n < 0 := by omega
    go_enter Try.func16, Try.ntmps16
    go_wp2_with fail
    refine h2.mono ?_
    rintro e w' ⟨rfl, rfl⟩
    go_wp2_with fail
    go_ret
    exact ⟨rfl, (by (repeat (first | (with_reducible exact Below.refl _ _) | (with_reducible assumption) | (with_reducible refine Below.drew ?_) | (with_reducible refine below_drewN ?_ _) | ((with_reducible refine Below.setCell ?_ ?_ _); rotate_left; focus (first | (simp; done) | omega | (simp; omega))) | ((with_reducible refine Below.alloc ?_ ?_ _); rotate_left; focus (first | exact Nat.le_refl _ | omega | (simp; done) | (simp; omega))))))⟩
set_option maxHeartbeats 800000 in
theorem toStore_any (w : World) (A : Option Addr) (n c : Nat) (L : Nat → Fa) (h : RdFa w w.heap.size A n L) (hn : n ≤ 1048576) :
    Calls Try.prog 18 #[.agg #[.slice A n c]] w fun e w' => ∃ g : Nat, e = .returned (.agg #[.slice (some ⟨g, 0, none⟩) n n]) ∧ w'.rowIs g 71 (n * 5) (faAt L) ∧ w.heap.size ≤ g ∧ Below w.heap.size w w' := by
  go_enter Try.func18, Try.ntmps18
  go_wp2_with fail
  refine (toFacts _ A n c L ((h.below (by (repeat (first | (with_reducible exact Below.refl _ _) | (with_reducible assumption) | (with_reducible refine Below.drew ?_) | (with_reducible refine below_drewN ?_ _) | ((with_reducible refine Below.setCell ?_ ?_ _); rotate_left; focus (first | (simp; done) | omega | (simp; omega))) | ((with_reducible refine Below.alloc ?_ ?_ _); rotate_left; focus (first | exact Nat.le_refl _ | omega | (simp; done) | (simp; omega))))))).more (by simp; omega)) hn).mono ?_
  rintro e w1 ⟨g, rfl, row, low, hb1⟩
  obtain ⟨hc1, hf1⟩ := keepc hb1
  have hlow : w.heap.size + 1 + 1 + 1 ≤ g := by simpa using low
  have c20 : w1.cell? ⟨w.heap.size + 1 + 1, 0, none⟩ = some (.slice none 0 0) := by rw [hc1 _ _ (by simp; try omega)]; simp [go_sem]
  have f20 : w1.frozen? ⟨w.heap.size + 1 + 1, 0, none⟩ = false := by rw [hf1 _ _ (by simp; try omega)]; simp [go_sem]
  have c10 : w1.cell? ⟨w.heap.size + 1, 0, none⟩ = some (.slice none 0 0) := by rw [hc1 _ _ (by simp; try omega)]; simp [go_sem]
  have f10 : w1.frozen? ⟨w.heap.size + 1, 0, none⟩ = false := by rw [hf1 _ _ (by simp; try omega)]; simp [go_sem]
  have hB1 : Below w.heap.size w w1 := by refine Below.trans ?_ (hb1.mono (by simp; try omega)); (repeat (first | (with_reducible exact Below.refl _ _) | (with_reducible assumption) | (with_reducible refine Below.drew ?_) | (with_reducible refine below_drewN ?_ _) | ((with_reducible refine Below.setCell ?_ ?_ _); rotate_left; focus (first | (simp; done) | omega | (simp; omega))) | ((with_reducible refine Below.alloc ?_ ?_ _); rotate_left; focus (first | exact Nat.le_refl _ | omega | (simp; done) | (simp; omega)))))
  clear hc1 hf1 hb1
  go_wp2_with fail
  refine bodyPost_ret (v := .agg #[.slice (some ⟨g, 0, none⟩) n n]) (by simp [results, Try.results18, go_sem, c10]) rfl ⟨g, rfl, ?_, by omega, (by (repeat (first | (with_reducible exact Below.refl _ _) | (with_reducible assumption) | (with_reducible refine Below.drew ?_) | (with_reducible refine below_drewN ?_ _) | ((with_reducible refine Below.setCell ?_ ?_ _); rotate_left; focus (first | (simp; done) | omega | (simp; omega))) | ((with_reducible refine Below.alloc ?_ ?_ _); rotate_left; focus (first | exact Nat.le_refl _ | omega | (simp; done) | (simp; omega))))))⟩
  exact (row.setOther (by simp; omega) _).setOther (by simp; omega) _
set_option maxHeartbeats 800000 in
theorem eqStore_any (w : World) (A A' : Option Addr) (n c c' : Nat) (L : Nat → Fa) (h : RdFa w w.heap.size A n L) (h' : RdFa w w.heap.size A' n L) :
    Calls Try.prog 19 #[.agg #[.slice A n c], .agg #[.slice A' n c']] w fun e w' => e = .returned (.bool true) ∧ Below w.heap.size w w' := by
  go_enter Try.func19, Try.ntmps19
  go_wp2_with fail
  refine (eqFacts _ A A' n n c c' L L ((h.below (by (repeat (first | (with_reducible exact Below.refl _ _) | (with_reducible assumption) | (with_reducible refine Below.drew ?_) | (with_reducible refine below_drewN ?_ _) | ((with_reducible refine Below.setCell ?_ ?_ _); rotate_left; focus (first | (simp; done) | omega | (simp; omega))) | ((with_reducible refine Below.alloc ?_ ?_ _); rotate_left; focus (first | exact Nat.le_refl _ | omega | (simp; done) | (simp; omega))))))).more (by simp; omega)) ((h'.below (by (repeat (first | (with_reducible exact Below.refl _ _) | (with_reducible assumption) | (with_reducible refine Below.drew ?_) | (with_reducible refine below_drewN ?_ _) | ((with_reducible refine Below.setCell ?_ ?_ _); rotate_left; focus (first | (simp; done) | omega | (simp; omega))) | ((with_reducible refine Below.alloc ?_ ?_ _); rotate_left; focus (first | exact Nat.le_refl _ | omega | (simp; done) | (simp; omega))))))).more (by simp; omega)) ⟨rfl, fun _ _ => rfl⟩).mono ?_
  rintro e w1 ⟨rfl, hb1⟩
  go_wp2_with fail
  go_ret
  refine ⟨rfl, Below.trans ?_ (hb1.mono (by simp; try omega))⟩
  (repeat (first | (with_reducible exact Below.refl _ _) | (with_reducible assumption) | (with_reducible refine Below.drew ?_) | (with_reducible refine below_drewN ?_ _) | ((with_reducible refine Below.setCell ?_ ?_ _); rotate_left; focus (first | (simp; done) | omega | (simp; omega))) | ((with_reducible refine Below.alloc ?_ ?_ _); rotate_left; focus (first | exact Nat.le_refl _ | omega | (simp; done) | (simp; omega)))))
end Go.Proofs.Ytondmakaednpdaa
