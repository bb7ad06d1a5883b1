/- Numbers read out of a text, by the reference. Conditions: none. -/
import Derived.Test.YtanpmbiblibgfaaGreatDoorTxtL
import Derived.Lib.Walk
import Derived.Laws.Strings3
namespace Go.Proofs.YtanpmbiblibgfaaGreatDoor
open Go.RowKit Go.Lib

theorem dig13_none {l : List UInt8} {k : Nat} {b : UInt8} (hb : l[k]? = some b) (h : ¬ (48 ≤ b.toNat ∧ b.toNat ≤ 57)) : dig13 l = -1 := by
  rw [dig13]
  split
  · cases e : decFrom 0 l with
    | none => rfl
    | some m =>
      obtain ⟨d, hd⟩ := digit_of_decFrom _ _ _ e k b hb
      have := digitVal_eq hd
      omega
  · rfl
end Go.Proofs.YtanpmbiblibgfaaGreatDoor
