/- The text of a formula, by the reference. Conditions: the nodes can be read. -/
import Derived.Test.YtanpmbiblibgfaaDoorFmtF
import Derived.Test.YtanpmbiblibgfaaDoorWds
import Derived.Test.YtanpmbiblibgfaaDoorKlass
import Derived.Deep.Cut
namespace Go.Proofs.YtanpmbiblibgfaaDoor
open Go.RowKit Go.Lib
set_option linter.unusedVariables false
set_option linter.unusedSimpArgs false
set_option maxHeartbeats 1600000 in
theorem sl09Name (k : Int) (h3 : 3 ≤ k) (h9 : k ≤ 9) (w : World) :
    Calls Tryd.prog 17 #[.int .i64 k] w fun e w' => e = .returned (strV (nameL k)) ∧ Below w.heap.size w w' := by
  rcases (show k = 3 ∨ k = 4 ∨ k = 5 ∨ k = 6 ∨ k = 7 ∨ k = 8 ∨ k = 9 by omega) with rfl | rfl | rfl | rfl | rfl | rfl | rfl
  all_goals
    go_enter Tryd.func17, Tryd.ntmps17
    go_wp2
    go_ret
    exact ⟨rfl, (by (repeat (first | (with_reducible exact Below.refl _ _) | (with_reducible assumption) | (with_reducible refine Below.drew ?_) | (with_reducible refine below_drewN ?_ _) | ((with_reducible refine Below.setCell ?_ ?_ _); rotate_left; focus (first | (simp; done) | omega | (simp; omega))) | ((with_reducible refine Below.alloc ?_ ?_ _); rotate_left; focus (first | exact Nat.le_refl _ | omega | (simp; done) | (simp; omega))))))⟩

end Go.Proofs.YtanpmbiblibgfaaDoor
