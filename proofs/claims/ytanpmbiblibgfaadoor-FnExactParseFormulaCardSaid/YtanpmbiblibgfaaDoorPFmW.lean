/- The law of a formula out of a text. Conditions: the variables that the row lists lie as the library lays them. -/
import Derived.Test.YtanpmbiblibgfaaDoorPFm
import Derived.Test.YtanpmbiblibgfaaDoorParW
namespace Go.Proofs.YtanpmbiblibgfaaDoor
open Go.RowKit Go.Lib
set_option linter.unusedVariables false
theorem laidP_pf {W : World} (h : laidMet Tryd.prog Rows.fnExactParseFormulaRow.laid W) : LaidP W :=
  ⟨⟨laidW_of h (by kernel_rfl), sentinelOf (g := 2) (D := Rows.laid_strconv_ErrSyntax) h (by kernel_rfl) ⟨_, _, rfl⟩ (by kernel_rfl) (by kernel_rfl), sentinelOf (g := 3) (D := Rows.laid_strconv_ErrRange) h (by kernel_rfl) ⟨_, _, rfl⟩ (by kernel_rfl) (by kernel_rfl)⟩, by
    have k := h.filter (fun x => x.1 == "strings.asciiSpace")
    rw [show Rows.fnExactParseFormulaRow.laid.filter (fun x => x.1 == "strings.asciiSpace") = [("strings.asciiSpace", Lib.tabData .u8 Lib.asciiSpaceTab)] by kernel_rfl] at k
    exact Lib.tabIs_of_head (g := 0) (t := 63) (e := 5) (n := 256) (by kernel_rfl) (by kernel_rfl) Tryd.underlying63 Tryd.underlying5 (by kernel_rfl) (by kernel_rfl) k⟩
/-- What a reading of a text leaves, its row by its cells. -/
def PfO (w : World) (k : Nat) (b : Bool) (N : Nat → No) (e : Ending) (w' : World) : Prop :=
  ∃ (A : Option Addr) (c : Nat), e = .returned (.tuple #[.slice A k c, .bool b]) ∧ OwR w' w.heap.size 42 6 (.slice A k c) k (noAt N) ∧ Below w.heap.size w w'
theorem pFo_len (l : List UInt8) : ((pFo l).getD []).length ≤ 24 := by
  rw [pFo]
  cases h : sfL l with
  | none => simp
  | some ws =>
    have h24 := (sfL_parts h).1
    cases hp : pfm ws with
    | none => simp [hp]
    | some ns =>
      have := (pfm_good hp).1
      simp only [hp, Option.getD_some]
      omega
theorem PfE.o {w w' : World} {l : List UInt8} {e : Ending} (h : PfE w (pFo l) e w') : PfO w ((pFo l).getD []).length (pFo l).isSome (noL ((pFo l).getD [])) e w' := by
  obtain ⟨A, c, h1, h2, h3⟩ := h
  exact ⟨A, c, h1, OwNo.list h2 rfl, h3⟩

set_option maxRecDepth 8000 in
set_option maxHeartbeats 3200000 in
theorem walkParseFormula (t : ByteArray) (w : World) (_ : t.size ≤ maxLen) (hL : laidMet Tryd.prog Rows.fnExactParseFormulaRow.laid w) :
    Calls Tryd.prog 3 #[.string t] w fun e w' => e = .returned (.bool true) ∧ Below w.heap.size w w' := by
  by_cases hbig : (1048576 : Int) < t.size
  · go_enter Tryd.func3, Tryd.ntmps3
    go_wp2_with fail
    go_ret
    exact ⟨rfl, Below.refl _ _⟩
  have hT := laidP_pf hL
  clear hL
  have CS : ∀ v : World, Calls Tryd.prog 4 #[.string t] v (PfO v ((pFo t.data.toList).getD []).length (pFo t.data.toList).isSome (noL ((pFo t.data.toList).getD []))) := fun v => (sParseFormula t v (by omega)).mono fun _ _ h => h.o
  have CI : ∀ v : World, LaidP v → Calls Tryd.prog 5 #[.string t] v (PfO v ((pFo t.data.toList).getD []).length (pFo t.data.toList).isSome (noL ((pFo t.data.toList).getD []))) := fun v hv => (iParseFormula t v hv).mono fun _ _ h => h.o
  have hk := pFo_len t.data.toList
  obtain ⟨k, hk0⟩ : ∃ k, k = ((pFo t.data.toList).getD []).length := ⟨_, rfl⟩
  obtain ⟨b, hb0⟩ : ∃ b, b = (pFo t.data.toList).isSome := ⟨_, rfl⟩
  obtain ⟨N, hN0⟩ : ∃ N, N = noL ((pFo t.data.toList).getD []) := ⟨_, rfl⟩
  rw [← hk0, ← hb0, ← hN0] at CS CI
  rw [← hk0] at hk
  clear hk0 hb0 hN0
  have hbb : (b != b) = false := by cases b <;> rfl
  go_enter Tryd.func3, Tryd.ntmps3
  go_wp2_with fail
  refine (CS w).mono ?_
  rintro e w1 ⟨A, c, rfl, oS, hb1⟩
  have rd := RdNo.own oS
  have hs1 := hb1.size
  clear CS oS
  go_wp2_with fail
  refine (CI w1 (hT.below hb1)).mono ?_
  rintro e w2 ⟨B, d, rfl, oG, hb2⟩
  have hC2 := hb2
  have rd2 := (rd.below hC2).more hC2.size
  have rg2 := RdNo.own oG
  go_wp2_with fail
  refine (eqNodes w2 B A k k d c N N rg2 rd2 ⟨rfl, fun _ _ => rfl⟩).mono ?_
  rintro e w3 ⟨rfl, hb3⟩
  have oG3 := oG.all hb3
  have hC3 := hC2.trans (hb3.mono hC2.size)
  clear rd2 rg2 oG hb2 hb3 hC2
  go_wp2_with fail
  refine (markNodes w3 w1.heap.size B k d (noAt N) 1 oG3 (by omega) (by omega) (by omega)).mono ?_
  rintro e w4 ⟨rfl, oM, hg4⟩
  have hC4 : Below w1.heap.size w1 w4 := hC3.grown hg4 hC3.size (fun q hq => (oG3.lt q hq).1)
  have hB4 := hb1.trans (hC4.mono hs1)
  have rm := RdNo.own oM
  clear oG3 hg4 hC3
  go_wp2_with fail
  refine (heldNodes w4 B k d 1 rm (by omega) (by omega) (by omega)).mono ?_
  rintro e w' ⟨rfl, hw'⟩
  obtain rfl := hw'
  have hq0 : ¬ (1 : Int) + 6 * (k : Int) < 0 := by omega
  clear rm
  go_wp2_with fail
  refine (CI w4 (hT.below hB4)).mono ?_
  rintro e w5 ⟨E, f, rfl, oH, hb5⟩
  have oM5 := oM.all hb5
  have hC5 := hC4.trans (hb5.mono hC4.size)
  have rd5 := (rd.below hC5).more hC5.size
  have rh := RdNo.own oH
  clear CI oM hC4 hb5 hB4 oH
  go_wp2_with fail
  refine (eqNodes w5 E A k k f c N N rh rd5 ⟨rfl, fun _ _ => rfl⟩).mono ?_
  rintro e w6 ⟨rfl, hb6⟩
  have rm := RdNo.own (oM5.all hb6)
  have hC6 := hC5.trans (hb6.mono hC5.size)
  have hB6 := hb1.trans (hC6.mono hs1)
  clear rd5 rh oM5 hC5 hb6
  go_wp2_with fail
  refine (heldNodes w6 B k d 1 rm (by omega) (by omega) (by omega)).mono ?_
  rintro e w' ⟨rfl, hw'⟩
  obtain rfl := hw'
  clear rm
  go_wp2_with fail
  go_ret
  exact ⟨rfl, hB6⟩
end Go.Proofs.YtanpmbiblibgfaaDoor
