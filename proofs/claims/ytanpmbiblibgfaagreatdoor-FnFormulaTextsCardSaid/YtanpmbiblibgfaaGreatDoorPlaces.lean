/- DrawPlaces: twelve numbers below 10000. Conditions: the bytes can be read. -/
import Derived.Test.YtanpmbiblibgfaaGreatDoorDraw
namespace Go.Proofs.YtanpmbiblibgfaaGreatDoor
open Go.RowKit

theorem int_info : (Tryz.prog.info? 3).map (fun i => (i.zero, i.size, i.bytes)) = some (some (.int .i64 0), 1, 8) := by kernel_rfl

theorem own_drawn {w w' : World} {B g n c base e size m : Nat} {A : Option Addr} {v : Value} {xs : List Value} (h : w.ownsRow base e size v m xs) (hc : Cur w B g A n c) (hg : w.grownBy w' (some g)) (hne : e ≠ 57) : w'.ownsRow base e size v m xs := by
  obtain ⟨_, _, hw, _⟩ := hc
  exact h.kept hg (.inr (own_apart h hw hne))
theorem cur_append {w w' : World} {B g n c base e size m : Nat} {A : Option Addr} {v : Value} {xs : List Value} (hc : Cur w B g A n c) (h : w.ownsRow base e size v m xs) (hg : w.grownBy w' v.ownBlock) (hne : e ≠ 57) (hB : B ≤ base) : Cur w' B g A n c := by
  have h1 := h.lt
  refine hc.grown hg ?_ (fun k hk => Nat.le_trans hB (h1 k hk).1)
  obtain ⟨_, _, hw, _⟩ := hc
  exact fun e => own_apart h hw hne e.symm
theorem Cur.alloc {w : World} {B g n c : Nat} {A : Option Addr} (hc : Cur w B g A n c) (o : Obj) : Cur (w.alloc o) B g A n c :=
  hc.grown (row := none) ⟨rfl, rfl, rfl, by simp, fun k hk _ => Below.heap_alloc _ _ _ hk⟩ (by simp) (by simp)
theorem own_block_base {w : World} {base e size m : Nat} {v : Value} {xs : List Value} (h : w.ownsRow base e size v m xs) : ∀ k, v.ownBlock = some k → base ≤ k := fun k hk => (h.lt k hk).1

set_option maxHeartbeats 400000 in
theorem lBig (w : World) (A : Option Addr) (n c : Nat) (_hn : n ≤ 9223372036854775807) :
    Calls Tryz.prog 4 #[.slice A n c] w fun e w' => e = .returned (.bool (decide ((1048576 : Int) < n))) ∧ w = w' := by
  go_enter Tryz.func4, Tryz.ntmps4
  go_wp2
  go_ret
  exact ⟨rfl, rfl⟩
end Go.Proofs.YtanpmbiblibgfaaGreatDoor
