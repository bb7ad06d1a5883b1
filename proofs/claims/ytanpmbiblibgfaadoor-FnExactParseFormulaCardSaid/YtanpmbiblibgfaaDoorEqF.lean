/- A fraction copied, and compared with itself. No conditions. -/
import Derived.Test.YtanpmbiblibgfaaDoorFracL
import Derived.Deep.RegionHeld3
namespace Go.Proofs.YtanpmbiblibgfaaDoor
open Go.RowKit

set_option maxHeartbeats 400000 in
theorem eqFrac_same (n d : Int) (w : World) :
    Calls Tryd.prog 26 #[.agg #[.int .i64 n, .int .i64 d], .agg #[.int .i64 n, .int .i64 d]] w fun e w' => e = .returned (.bool true) ∧ Below w.heap.size w w' := by
  go_enter Tryd.func26, Tryd.ntmps26
  go_wp2
  go_ret
  exact ⟨rfl, (by (repeat (first | (with_reducible exact Below.refl _ _) | (with_reducible assumption) | (with_reducible refine Below.drew ?_) | (with_reducible refine below_drewN ?_ _) | ((with_reducible refine Below.setCell ?_ ?_ _); rotate_left; focus (first | (simp; done) | omega | (simp; omega))) | ((with_reducible refine Below.alloc ?_ ?_ _); rotate_left; focus (first | exact Nat.le_refl _ | omega | (simp; done) | (simp; omega))))))⟩
end Go.Proofs.YtanpmbiblibgfaaDoor
