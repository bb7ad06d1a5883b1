/- DesignOk and GrowAccount of the program and of the reference. No conditions. -/
import Derived.Test.YtjiinkbjmamdmaaNum
namespace Go.Proofs.Ytjiinkbjmamdmaa
open Go.RowKit

def designOkL (k r c : Int) : Bool := inB k 1 4 && inB r 1 1000 && (if k = 1 ∨ k = 2 then inB c 1 60 else c == 0)

set_option maxHeartbeats 400000 in
theorem iDesignOk (k r c : Int) (w : World) :
    Calls Try.prog 22 #[.agg #[.int .i64 k, .int .i64 r, .int .i64 c]] w fun e w' => e = .returned (.bool (designOkL k r c)) ∧ Below w.heap.size w w' := by
  obtain ⟨v, hv⟩ : ∃ v, v = designOkL k r c := ⟨_, rfl⟩
  rw [← hv]
  have HV := Lib.hid hv
  clear hv
  go_enter Try.func22, Try.ntmps22
  go_wp2_with (go_at_call 50; refine (within_any _ _ _ _).mono ?_; rintro e w' ⟨rfl, rfl⟩)
  all_goals
    go_ret
    exact ⟨ret_bool (by rw [HV.out]; simp_all [designOkL]), (Below.refl _ _).alloc (Nat.le_refl _) _⟩

set_option maxHeartbeats 400000 in
theorem sDesignOk (k r c : Int) (w : World) :
    Calls Try.prog 20 #[.agg #[.int .i64 k, .int .i64 r, .int .i64 c]] w fun e w' => e = .returned (.bool (designOkL k r c)) ∧ Below w.heap.size w w' := by
  obtain ⟨v, hv⟩ : ∃ v, v = designOkL k r c := ⟨_, rfl⟩
  rw [← hv]
  have HV := Lib.hid hv
  clear hv
  go_enter Try.func20, Try.ntmps20
  go_wp2_with (go_at_call 49; refine (l01In_any _ _ _ _).mono ?_; rintro e w' ⟨rfl, rfl⟩)
  all_goals
    go_ret
    refine ⟨ret_bool ?_, (Below.refl _ _).alloc (Nat.le_refl _) _⟩
    rw [HV.out]
    clear HV
    simp_all [designOkL]
  all_goals
    simp only [inB_iff] at *
    first | (rw [if_pos (by omega)]) | (rw [if_neg (by omega)]) | omega

set_option maxHeartbeats 400000 in
theorem toDesign_any (k r c : Int) (w : World) :
    Calls Try.prog 21 #[.agg #[.int .i64 k, .int .i64 r, .int .i64 c]] w fun e w' => e = .returned (.agg #[.int .i64 k, .int .i64 r, .int .i64 c]) ∧ Below w.heap.size w w' := by
  go_enter Try.func21, Try.ntmps21
  go_wp2
  exact bodyPost_ret (v := .agg #[.int .i64 k, .int .i64 r, .int .i64 c]) (by simp [results, Try.results21, go_sem]) rfl ⟨rfl, ((((((Below.refl _ _).alloc (Nat.le_refl _) _).alloc (by simp) _).alloc (by simp; omega) _)))⟩

set_option maxHeartbeats 400000 in
theorem walkDesignOk (k r c : Int) (w : World) :
    Calls Try.prog 4 #[.agg #[.int .i64 k, .int .i64 r, .int .i64 c]] w fun e w' => e = .returned (.bool true) ∧ Below w.heap.size w w' := by
  go_enter Try.func4, Try.ntmps4
  go_wp2_with fail
  refine (toDesign_any _ _ _ _).mono ?_
  rintro e w1 ⟨rfl, hb1⟩
  obtain ⟨hc1, hf1⟩ := keepc hb1
  have hz1 : w.heap.size < w1.heap.size := by have := hb1.size; simp at this; omega
  go_wp2_with fail
  refine (sDesignOk _ _ _ _).mono ?_
  rintro e w2 ⟨rfl, hb2⟩
  obtain ⟨hc2, hf2⟩ := keepc hb2
  have hz2 : w.heap.size < w2.heap.size := by have := hb2.size; omega
  go_wp2_with fail
  refine (toDesign_any _ _ _ _).mono ?_
  rintro e w3 ⟨rfl, hb3⟩
  have hz3 : w.heap.size < w3.heap.size := by have := hb3.size; omega
  go_wp2_with fail
  refine (iDesignOk _ _ _ _).mono ?_
  rintro e w4 ⟨rfl, hb4⟩
  go_wp2_with fail
  go_ret
  exact ⟨rfl, ((((((Below.refl _ _).alloc (Nat.le_refl _) _).trans (hb1.mono (by simp))).trans (hb2.mono (by omega))).trans (hb3.mono (by omega))).trans (hb4.mono (by omega)))⟩

def growL (k r c b cr e : Int) : Int := if designOkL k r c = true ∧ k = 4 ∧ inB b 0 1000000000 = true ∧ inB cr 0 1000000000 = true ∧ inB e (-10000) 10000 = true then b + b * max e r / 10000 + cr else 0

set_option maxHeartbeats 800000 in
theorem iGrowAccount (k r c b cr e : Int) (w : World) :
    Calls Try.prog 24 #[.agg #[.int .i64 k, .int .i64 r, .int .i64 c], .int .i64 b, .int .i64 cr, .int .i64 e] w fun x w' => x = .returned (.int .i64 (growL k r c b cr e)) ∧ Below w.heap.size w w' := by
  by_cases h : designOkL k r c = true ∧ k = 4 ∧ inB b 0 1000000000 = true ∧ inB cr 0 1000000000 = true ∧ inB e (-10000) 10000 = true
  · have e0 : growL k r c b cr e = b + b * max e r / 10000 + cr := by rw [growL, if_pos h]
    rw [e0]
    clear e0
    obtain ⟨h1, rfl, h3, h4, h5⟩ := h
    have g1 : 1 ≤ r ∧ r ≤ 1000 := by simp [designOkL] at h1; exact inB_iff.1 h1.1.2
    have g3 := inB_iff.1 h3
    have g4 := inB_iff.1 h4
    have g5 := inB_iff.1 h5
    by_cases he : e < r
    · have gb : 0 ≤ b * r ∧ b * r ≤ 1000000000 * 10000 := mul_bd g3.1 g3.2 (by omega) (by omega)
      rw [show max e r = r from by omega]
      go_enter Try.func24, Try.ntmps24
      go_wp2_with (first
        | (go_at_call 50; refine (within_any _ _ _ _).mono ?_; rintro e w' ⟨rfl, rfl⟩)
        | (go_at_call 22; refine (iDesignOk _ _ _ _).mono ?_; rintro e w1 ⟨rfl, hb1⟩; obtain ⟨hc1, hf1⟩ := keepc hb1; have hz1 : w.heap.size < w1.heap.size := (by have := hb1.size; simp at this; omega)))
      go_ret
      exact ⟨rfl, ((Below.refl _ _).alloc (Nat.le_refl _) _).trans (hb1.mono (by simp))⟩
    · have gb : 0 ≤ b * e ∧ b * e ≤ 1000000000 * 10000 := mul_bd g3.1 g3.2 (by omega) (by omega)
      rw [show max e r = e from by omega]
      go_enter Try.func24, Try.ntmps24
      go_wp2_with (first
        | (go_at_call 50; refine (within_any _ _ _ _).mono ?_; rintro e w' ⟨rfl, rfl⟩)
        | (go_at_call 22; refine (iDesignOk _ _ _ _).mono ?_; rintro e w1 ⟨rfl, hb1⟩; obtain ⟨hc1, hf1⟩ := keepc hb1; have hz1 : w.heap.size < w1.heap.size := (by have := hb1.size; simp at this; omega)))
      go_ret
      exact ⟨rfl, ((Below.refl _ _).alloc (Nat.le_refl _) _).trans (hb1.mono (by simp))⟩
  · have e0 : growL k r c b cr e = 0 := by rw [growL, if_neg h]
    rw [e0]
    clear e0
    have H := Lib.hid h
    clear h
    go_enter Try.func24, Try.ntmps24
    go_wp2_with (first
        | (go_at_call 50; refine (within_any _ _ _ _).mono ?_; rintro e w' ⟨rfl, rfl⟩)
        | (go_at_call 22; refine (iDesignOk _ _ _ _).mono ?_; rintro e w1 ⟨rfl, hb1⟩; obtain ⟨hc1, hf1⟩ := keepc hb1; have hz1 : w.heap.size < w1.heap.size := (by have := hb1.size; simp at this; omega)))
    all_goals
      go_ret
    all_goals first
      | (exfalso; have hh := H.out; simp_all; done)
      | (exact ⟨rfl, ((Below.refl _ _).alloc (Nat.le_refl _) _).trans (hb1.mono (by simp))⟩)

set_option maxHeartbeats 800000 in
theorem sGrowAccount (k r c b cr e : Int) (w : World) :
    Calls Try.prog 23 #[.agg #[.int .i64 k, .int .i64 r, .int .i64 c], .int .i64 b, .int .i64 cr, .int .i64 e] w fun x w' => x = .returned (.int .i64 (growL k r c b cr e)) ∧ Below w.heap.size w w' := by
  by_cases h : designOkL k r c = true ∧ k = 4 ∧ inB b 0 1000000000 = true ∧ inB cr 0 1000000000 = true ∧ inB e (-10000) 10000 = true
  · have e0 : growL k r c b cr e = b + b * max e r / 10000 + cr := by rw [growL, if_pos h]
    rw [e0]
    clear e0
    obtain ⟨h1, rfl, h3, h4, h5⟩ := h
    have g1 : 1 ≤ r ∧ r ≤ 1000 := by simp [designOkL] at h1; exact inB_iff.1 h1.1.2
    have g3 := inB_iff.1 h3
    have g4 := inB_iff.1 h4
    have g5 := inB_iff.1 h5
    by_cases he : e < r
    · have gb : 0 ≤ b * r ∧ b * r ≤ 1000000000 * 10000 := mul_bd g3.1 g3.2 (by omega) (by omega)
      rw [show max e r = r from by omega]
      go_enter Try.func23, Try.ntmps23
      go_wp2_with (first
        | (go_at_call 49; refine (l01In_any _ _ _ _).mono ?_; rintro e w' ⟨rfl, rfl⟩)
        | (go_at_call 20; refine (sDesignOk _ _ _ _).mono ?_; rintro e w1 ⟨rfl, hb1⟩; obtain ⟨hc1, hf1⟩ := keepc hb1; have hz1 : w.heap.size < w1.heap.size := (by have := hb1.size; simp at this; omega)))
      go_ret
      exact ⟨rfl, ((Below.refl _ _).alloc (Nat.le_refl _) _).trans (hb1.mono (by simp))⟩
    · have gb : 0 ≤ b * e ∧ b * e ≤ 1000000000 * 10000 := mul_bd g3.1 g3.2 (by omega) (by omega)
      rw [show max e r = e from by omega]
      go_enter Try.func23, Try.ntmps23
      go_wp2_with (first
        | (go_at_call 49; refine (l01In_any _ _ _ _).mono ?_; rintro e w' ⟨rfl, rfl⟩)
        | (go_at_call 20; refine (sDesignOk _ _ _ _).mono ?_; rintro e w1 ⟨rfl, hb1⟩; obtain ⟨hc1, hf1⟩ := keepc hb1; have hz1 : w.heap.size < w1.heap.size := (by have := hb1.size; simp at this; omega)))
      go_ret
      exact ⟨rfl, ((Below.refl _ _).alloc (Nat.le_refl _) _).trans (hb1.mono (by simp))⟩
  · have e0 : growL k r c b cr e = 0 := by rw [growL, if_neg h]
    rw [e0]
    clear e0
    have H := Lib.hid h
    clear h
    go_enter Try.func23, Try.ntmps23
    go_wp2_with (first
        | (go_at_call 49; refine (l01In_any _ _ _ _).mono ?_; rintro e w' ⟨rfl, rfl⟩)
        | (go_at_call 20; refine (sDesignOk _ _ _ _).mono ?_; rintro e w1 ⟨rfl, hb1⟩; obtain ⟨hc1, hf1⟩ := keepc hb1; have hz1 : w.heap.size < w1.heap.size := (by have := hb1.size; simp at this; omega)))
    all_goals
      go_ret
    all_goals first
      | (exfalso; have hh := H.out; simp_all; done)
      | (exact ⟨rfl, ((Below.refl _ _).alloc (Nat.le_refl _) _).trans (hb1.mono (by simp))⟩)

set_option maxHeartbeats 400000 in
theorem walkGrowAccount (k r c b cr e : Int) (w : World) :
    Calls Try.prog 5 #[.agg #[.int .i64 k, .int .i64 r, .int .i64 c], .int .i64 b, .int .i64 cr, .int .i64 e] w fun e w' => e = .returned (.bool true) ∧ Below w.heap.size w w' := by
  go_enter Try.func5, Try.ntmps5
  go_wp2_with fail
  refine (toDesign_any _ _ _ _).mono ?_
  rintro e w1 ⟨rfl, hb1⟩
  obtain ⟨hc1, hf1⟩ := keepc hb1
  have hz1 : w.heap.size < w1.heap.size := by have := hb1.size; simp at this; omega
  go_wp2_with fail
  refine (sGrowAccount _ _ _ _ _ _ _).mono ?_
  rintro e w2 ⟨rfl, hb2⟩
  obtain ⟨hc2, hf2⟩ := keepc hb2
  have hz2 : w.heap.size < w2.heap.size := by have := hb2.size; omega
  go_wp2_with fail
  refine (toDesign_any _ _ _ _).mono ?_
  rintro e w3 ⟨rfl, hb3⟩
  have hz3 : w.heap.size < w3.heap.size := by have := hb3.size; omega
  go_wp2_with fail
  refine (iGrowAccount _ _ _ _ _ _ _).mono ?_
  rintro e w4 ⟨rfl, hb4⟩
  go_wp2_with fail
  go_ret
  exact ⟨rfl, ((((((Below.refl _ _).alloc (Nat.le_refl _) _).trans (hb1.mono (by simp))).trans (hb2.mono (by omega))).trans (hb3.mono (by omega))).trans (hb4.mono (by omega)))⟩
end Go.Proofs.Ytjiinkbjmamdmaa
