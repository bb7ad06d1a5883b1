/- A fraction out of a text, by the reference. No conditions. -/
import Derived.Test.YtanpmbiblibgfaaGreatDoorFmtF
import Derived.Test.YtanpmbiblibgfaaGreatDoorDig
import Derived.Deep.Cut
namespace Go.Proofs.YtanpmbiblibgfaaGreatDoor
open Go.RowKit Go.Lib
set_option linter.unusedVariables false
set_option linter.unusedSimpArgs false
theorem baList (s : ByteArray) : s = ⟨s.data.toList.toArray⟩ := by cases s; simp
theorem baEq {s t : ByteArray} : (s.toList == t.toList) = decide (s.data.toList = t.data.toList) := by
  rw [ByteArray.toList_eq, ByteArray.toList_eq, Bool.eq_iff_iff]
  simp
theorem extractTo (s : ByteArray) (k : Nat) : (s.extract 0 k).data.toList = s.data.toList.take k := by
  have h := ByteArray.extract_mk s.data.toList 0 k
  rw [← baList s] at h
  rw [h]
  simp
theorem extractFrom (s : ByteArray) (k : Nat) : (s.extract k s.size).data.toList = s.data.toList.drop k := by
  have h := ByteArray.extract_mk s.data.toList k s.size
  rw [← baList s] at h
  rw [h]
  have : s.data.toList.length = s.size := Array.length_toList
  simp [List.take_of_length_le, this]
theorem extractAll (s : ByteArray) : s.extract 0 s.size = s := by
  have h := ByteArray.extract_mk s.data.toList 0 s.size
  rw [← baList s] at h
  rw [h]
  have : s.data.toList.length = s.size := Array.length_toList
  rw [List.drop_zero, Nat.sub_zero, List.take_of_length_le (by omega), ← baList s]
theorem numS_bounds (l : List UInt8) : -1 ≤ dig13 l ∧ dig13 l < 10000000000000 := by
  rw [dig13]
  split
  · rename_i hl
    cases e : decFrom 0 l with
    | none => simp
    | some m =>
      have h := decFrom_lt _ _ _ e
      have := Nat.pow_le_pow_right (show 0 < 10 by omega) hl
      dsimp only
      omega
  · simp

/-- Where the first slash stands. -/
def slashK (s : List UInt8) : Nat := (s.takeWhile (fun b => decide (b ≠ 47))).length
theorem slashK_at : ∀ s : List UInt8, slashAt s (slashK s)
  | [] => ⟨Nat.le_refl _, fun b hb => by simp [slashK] at hb, fun h => by simp [slashK] at h⟩
  | b :: r => by
    by_cases e : b = 47
    · subst e
      refine ⟨by simp [slashK], fun b hb => by simp [slashK] at hb, fun _ => by simp [slashK]⟩
    · obtain ⟨h1, h2, h3⟩ := slashK_at r
      have hk : slashK (b :: r) = slashK r + 1 := by simp [slashK, e]
      refine ⟨by rw [hk, List.length_cons]; omega, fun c hc => ?_, fun h => ?_⟩
      · rw [hk, List.take_succ_cons] at hc
        rcases List.mem_cons.1 hc with rfl | hc
        · exact e
        · exact h2 c hc
      · rw [hk, List.length_cons] at h
        rw [hk, List.getElem?_cons_succ]
        exact h3 (by omega)

end Go.Proofs.YtanpmbiblibgfaaGreatDoor
