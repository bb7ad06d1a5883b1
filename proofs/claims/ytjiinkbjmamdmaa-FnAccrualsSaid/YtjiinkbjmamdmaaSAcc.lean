/- Accrued of the program and of the reference. No conditions. -/
import Derived.Test.YtjiinkbjmamdmaaPension
import Derived.Deep.RegionHeld3
namespace Go.Proofs.Ytjiinkbjmamdmaa
open Go.RowKit

def accInL (k r c s n d : Int) : Bool := ((((designOkL k r c && decide (k ≤ 2)) && inB s 0 72000) && fracOkL (n, d)) && !decide (n < 0))
def accYes (r c s n d : Int) : Option Fr :=
  if oB (mulL (n, d) (oN (fracNewL r 10000), oD (fracNewL r 10000))) = true then
    mulL (oN (mulL (n, d) (oN (fracNewL r 10000), oD (fracNewL r 10000))), oD (mulL (n, d) (oN (fracNewL r 10000), oD (fracNewL r 10000)))) (oN (fracNewL (min s (1200 * c)) 1200), oD (fracNewL (min s (1200 * c)) 1200)) else none
def accL (k r c s n d : Int) : Option Fr := if accInL k r c s n d = true then accYes r c s n d else none
theorem designOk_k {k r c : Int} (h : designOkL k r c = true) : 1 ≤ k ∧ k ≤ 4 ∧ 1 ≤ r ∧ r ≤ 1000 ∧ (k = 1 ∨ k = 2 → 1 ≤ c ∧ c ≤ 60) := by
  simp only [designOkL, Bool.and_eq_true] at h
  obtain ⟨⟨h1, h2⟩, h3⟩ := h
  rw [inB_iff] at h1 h2
  refine ⟨h1.1, h1.2, h2.1, h2.2, fun hk => ?_⟩
  rw [if_pos hk] at h3
  exact inB_iff.1 h3

set_option maxHeartbeats 4000000 in
theorem sAccrued (k r c s n d : Int) (w : World) :
    Calls Try.prog 46 #[.agg #[.int .i64 k, .int .i64 r, .int .i64 c], .int .i64 s, .agg #[.int .i64 n, .int .i64 d]] w fun e w' => e = .returned (vOpt (accL k r c s n d)) ∧ Below w.heap.size w w' := by
  obtain ⟨v, hv⟩ : ∃ v, v = accL k r c s n d := ⟨_, rfl⟩
  rw [← hv]
  unfold accL at hv
  cases t1 : designOkL k r c
  · have e0 : v = none := by rw [hv, if_neg (by simp [accInL, t1])]
    rw [e0]
    clear e0 hv v
    go_enter Try.func46, Try.ntmps46
    go_wp2_with fail
    refine (sDesignOk _ _ _ _).mono ?_
    rintro e w1 ⟨rfl, hb1⟩
    obtain ⟨hc1, hf1⟩ := keepc hb1
    have hs1 : w.heap.size ≤ w1.heap.size := (by have := hb1.size; first | omega | (simp at this; omega))
    have hz1a : w.heap.size < w1.heap.size := (by have := hb1.size; first | omega | (simp at this; omega))
    have hz1b : w.heap.size + 1 < w1.heap.size := (by have := hb1.size; first | omega | (simp at this; omega))
    have hz1c : w.heap.size + 1 + 1 < w1.heap.size := (by have := hb1.size; first | omega | (simp at this; omega))
    have hB1 : Below w.heap.size w w1 := (by refine Below.trans ?_ (hb1.mono (by first | omega | (simp; done) | (simp; omega))); (repeat (first | (with_reducible exact Below.refl _ _) | (with_reducible assumption) | (with_reducible refine Below.drew ?_) | (with_reducible refine below_drewN ?_ _) | ((with_reducible refine Below.setCell ?_ ?_ _); rotate_left; focus (first | (simp; done) | omega | (simp; omega))) | ((with_reducible refine Below.alloc ?_ ?_ _); rotate_left; focus (first | exact Nat.le_refl _ | omega | (simp; done) | (simp; omega))))))
    go_wp2_with fail
    refine bodyPost_ret (v := vOpt none) ?_ rfl ⟨rfl, ?_⟩
    · simp [results, Try.results46, go_sem, oN_none, oD_none, oB_none, *]
    · (repeat (first | (with_reducible exact Below.refl _ _) | (with_reducible assumption) | (with_reducible refine Below.drew ?_) | (with_reducible refine below_drewN ?_ _) | ((with_reducible refine Below.setCell ?_ ?_ _); rotate_left; focus (first | (simp; done) | omega | (simp; omega))) | ((with_reducible refine Below.alloc ?_ ?_ _); rotate_left; focus (first | exact Nat.le_refl _ | omega | (simp; done) | (simp; omega)))))
  · have hdk := designOk_k t1
    by_cases hk2 : k ≤ 2
    · have e1 : decide (2 < k) = false := by simpa using hk2
      cases t3 : inB s 0 72000
      · have e0 : v = none := by rw [hv, if_neg (by simp [accInL, t1, hk2, t3])]
        rw [e0]
        clear e0 hv v
        go_enter Try.func46, Try.ntmps46
        go_wp2_with fail
        refine (sDesignOk _ _ _ _).mono ?_
        rintro e w1 ⟨rfl, hb1⟩
        obtain ⟨hc1, hf1⟩ := keepc hb1
        have hs1 : w.heap.size ≤ w1.heap.size := (by have := hb1.size; first | omega | (simp at this; omega))
        have hz1a : w.heap.size < w1.heap.size := (by have := hb1.size; first | omega | (simp at this; omega))
        have hz1b : w.heap.size + 1 < w1.heap.size := (by have := hb1.size; first | omega | (simp at this; omega))
        have hz1c : w.heap.size + 1 + 1 < w1.heap.size := (by have := hb1.size; first | omega | (simp at this; omega))
        have hB1 : Below w.heap.size w w1 := (by refine Below.trans ?_ (hb1.mono (by first | omega | (simp; done) | (simp; omega))); (repeat (first | (with_reducible exact Below.refl _ _) | (with_reducible assumption) | (with_reducible refine Below.drew ?_) | (with_reducible refine below_drewN ?_ _) | ((with_reducible refine Below.setCell ?_ ?_ _); rotate_left; focus (first | (simp; done) | omega | (simp; omega))) | ((with_reducible refine Below.alloc ?_ ?_ _); rotate_left; focus (first | exact Nat.le_refl _ | omega | (simp; done) | (simp; omega))))))
        go_wp2_with fail
        refine (l01In_any _ _ _ _).mono ?_
        rintro e w' ⟨rfl, rfl⟩
        go_wp2_with fail
        refine bodyPost_ret (v := vOpt none) ?_ rfl ⟨rfl, ?_⟩
        · simp [results, Try.results46, go_sem, oN_none, oD_none, oB_none, *]
        · (repeat (first | (with_reducible exact Below.refl _ _) | (with_reducible assumption) | (with_reducible refine Below.drew ?_) | (with_reducible refine below_drewN ?_ _) | ((with_reducible refine Below.setCell ?_ ?_ _); rotate_left; focus (first | (simp; done) | omega | (simp; omega))) | ((with_reducible refine Below.alloc ?_ ?_ _); rotate_left; focus (first | exact Nat.le_refl _ | omega | (simp; done) | (simp; omega)))))
      · cases t4 : fracOkL (n, d)
        · have e0 : v = none := by rw [hv, if_neg (by simp [accInL, t1, hk2, t3, t4])]
          rw [e0]
          clear e0 hv v
          go_enter Try.func46, Try.ntmps46
          go_wp2_with fail
          refine (sDesignOk _ _ _ _).mono ?_
          rintro e w1 ⟨rfl, hb1⟩
          obtain ⟨hc1, hf1⟩ := keepc hb1
          have hs1 : w.heap.size ≤ w1.heap.size := (by have := hb1.size; first | omega | (simp at this; omega))
          have hz1a : w.heap.size < w1.heap.size := (by have := hb1.size; first | omega | (simp at this; omega))
          have hz1b : w.heap.size + 1 < w1.heap.size := (by have := hb1.size; first | omega | (simp at this; omega))
          have hz1c : w.heap.size + 1 + 1 < w1.heap.size := (by have := hb1.size; first | omega | (simp at this; omega))
          have hB1 : Below w.heap.size w w1 := (by refine Below.trans ?_ (hb1.mono (by first | omega | (simp; done) | (simp; omega))); (repeat (first | (with_reducible exact Below.refl _ _) | (with_reducible assumption) | (with_reducible refine Below.drew ?_) | (with_reducible refine below_drewN ?_ _) | ((with_reducible refine Below.setCell ?_ ?_ _); rotate_left; focus (first | (simp; done) | omega | (simp; omega))) | ((with_reducible refine Below.alloc ?_ ?_ _); rotate_left; focus (first | exact Nat.le_refl _ | omega | (simp; done) | (simp; omega))))))
          go_wp2_with fail
          refine (l01In_any _ _ _ _).mono ?_
          rintro e w' ⟨rfl, rfl⟩
          go_wp2_with fail
          refine (sFracOk _ _ _).mono ?_
          rintro e w2 ⟨rfl, hb2⟩
          obtain ⟨hc2, hf2⟩ := keepc hb2
          have hs2 : w.heap.size ≤ w2.heap.size := (by have := hb2.size; first | omega | (simp at this; omega))
          have hz2a : w.heap.size < w2.heap.size := (by have := hb2.size; first | omega | (simp at this; omega))
          have hz2b : w.heap.size + 1 < w2.heap.size := (by have := hb2.size; first | omega | (simp at this; omega))
          have hz2c : w.heap.size + 1 + 1 < w2.heap.size := (by have := hb2.size; first | omega | (simp at this; omega))
          have hB2 : Below w.heap.size w w2 := (by refine Below.trans ?_ (hb2.mono (by first | omega | (simp; done) | (simp; omega))); (repeat (first | (with_reducible exact Below.refl _ _) | (with_reducible assumption) | (with_reducible refine Below.drew ?_) | (with_reducible refine below_drewN ?_ _) | ((with_reducible refine Below.setCell ?_ ?_ _); rotate_left; focus (first | (simp; done) | omega | (simp; omega))) | ((with_reducible refine Below.alloc ?_ ?_ _); rotate_left; focus (first | exact Nat.le_refl _ | omega | (simp; done) | (simp; omega))))))
          go_wp2_with fail
          refine bodyPost_ret (v := vOpt none) ?_ rfl ⟨rfl, ?_⟩
          · simp [results, Try.results46, go_sem, oN_none, oD_none, oB_none, *]
          · (repeat (first | (with_reducible exact Below.refl _ _) | (with_reducible assumption) | (with_reducible refine Below.drew ?_) | (with_reducible refine below_drewN ?_ _) | ((with_reducible refine Below.setCell ?_ ?_ _); rotate_left; focus (first | (simp; done) | omega | (simp; omega))) | ((with_reducible refine Below.alloc ?_ ?_ _); rotate_left; focus (first | exact Nat.le_refl _ | omega | (simp; done) | (simp; omega)))))
        · cases t5 : decide (n < 0)
          · have hv2 : v = accYes r c s n d := by rw [hv, if_pos (by simp [accInL, t1, hk2, t3, t4, t5])]
            clear hv
            obtain ⟨y, hy⟩ : ∃ y, y = min s (1200 * c) := ⟨_, rfl⟩
            unfold accYes at hv2
            rw [← hy] at hv2
            obtain ⟨ra, hra⟩ : ∃ ra, ra = fracNewL r 10000 := ⟨_, rfl⟩
            rw [← hra] at hv2
            obtain ⟨ye, hye⟩ : ∃ ye, ye = fracNewL y 1200 := ⟨_, rfl⟩
            rw [← hye] at hv2
            obtain ⟨x, hx⟩ : ∃ x, x = mulL (n, d) (oN ra, oD ra) := ⟨_, rfl⟩
            rw [← hx] at hv2
            obtain ⟨z, hz⟩ : ∃ z, z = mulL (oN x, oD x) (oN ye, oD ye) := ⟨_, rfl⟩
            rw [← hz] at hv2
            have HRA := Lib.hid hra
            have HYE := Lib.hid hye
            have HX := Lib.hid hx
            have HZ := Lib.hid hz
            have HV := Lib.hid hv2
            have hc := hdk.2.2.2.2 (by omega)
            obtain ⟨hc1, hc2⟩ := hc
            have hs0 := inB_iff.1 t3
            obtain ⟨hs1, hs2⟩ := hs0
            clear hra hye hx hz hv2 hdk
            by_cases hm : 1200 * c < s
            · have HY := Lib.hid (show (c * 1200 : Int) = y by omega)
              clear hy
              cases hob : oB x
              · have HE := Lib.hid (show v = none by rw [HV.out, hob]; rfl)
                go_enter Try.func46, Try.ntmps46
                go_wp2_with fail
                refine (sDesignOk _ _ _ _).mono ?_
                rintro e w1 ⟨rfl, hb1⟩
                obtain ⟨hc1, hf1⟩ := keepc hb1
                have hs1 : w.heap.size ≤ w1.heap.size := (by have := hb1.size; first | omega | (simp at this; omega))
                have hz1a : w.heap.size < w1.heap.size := (by have := hb1.size; first | omega | (simp at this; omega))
                have hz1b : w.heap.size + 1 < w1.heap.size := (by have := hb1.size; first | omega | (simp at this; omega))
                have hz1c : w.heap.size + 1 + 1 < w1.heap.size := (by have := hb1.size; first | omega | (simp at this; omega))
                have hB1 : Below w.heap.size w w1 := (by refine Below.trans ?_ (hb1.mono (by first | omega | (simp; done) | (simp; omega))); (repeat (first | (with_reducible exact Below.refl _ _) | (with_reducible assumption) | (with_reducible refine Below.drew ?_) | (with_reducible refine below_drewN ?_ _) | ((with_reducible refine Below.setCell ?_ ?_ _); rotate_left; focus (first | (simp; done) | omega | (simp; omega))) | ((with_reducible refine Below.alloc ?_ ?_ _); rotate_left; focus (first | exact Nat.le_refl _ | omega | (simp; done) | (simp; omega))))))
                go_wp2_with fail
                refine (l01In_any _ _ _ _).mono ?_
                rintro e w' ⟨rfl, rfl⟩
                go_wp2_with fail
                refine (sFracOk _ _ _).mono ?_
                rintro e w2 ⟨rfl, hb2⟩
                obtain ⟨hc2, hf2⟩ := keepc hb2
                have hs2 : w.heap.size ≤ w2.heap.size := (by have := hb2.size; first | omega | (simp at this; omega))
                have hz2a : w.heap.size < w2.heap.size := (by have := hb2.size; first | omega | (simp at this; omega))
                have hz2b : w.heap.size + 1 < w2.heap.size := (by have := hb2.size; first | omega | (simp at this; omega))
                have hz2c : w.heap.size + 1 + 1 < w2.heap.size := (by have := hb2.size; first | omega | (simp at this; omega))
                have hB2 : Below w.heap.size w w2 := (by refine Below.trans ?_ (hb2.mono (by first | omega | (simp; done) | (simp; omega))); (repeat (first | (with_reducible exact Below.refl _ _) | (with_reducible assumption) | (with_reducible refine Below.drew ?_) | (with_reducible refine below_drewN ?_ _) | ((with_reducible refine Below.setCell ?_ ?_ _); rotate_left; focus (first | (simp; done) | omega | (simp; omega))) | ((with_reducible refine Below.alloc ?_ ?_ _); rotate_left; focus (first | exact Nat.le_refl _ | omega | (simp; done) | (simp; omega))))))
                go_wp2_with fail
                refine (sFracNew r 10000 _).mono ?_
                rw [← HRA.out]
                rintro e w3 ⟨rfl, hb3⟩
                obtain ⟨hc3, hf3⟩ := keepc hb3
                have hs3 : w.heap.size ≤ w3.heap.size := (by have := hb3.size; first | omega | (simp at this; omega))
                have hz3a : w.heap.size < w3.heap.size := (by have := hb3.size; first | omega | (simp at this; omega))
                have hz3b : w.heap.size + 1 < w3.heap.size := (by have := hb3.size; first | omega | (simp at this; omega))
                have hz3c : w.heap.size + 1 + 1 < w3.heap.size := (by have := hb3.size; first | omega | (simp at this; omega))
                have hB3 : Below w.heap.size w w3 := (by refine Below.trans ?_ (hb3.mono (by first | omega | (simp; done) | (simp; omega))); (repeat (first | (with_reducible exact Below.refl _ _) | (with_reducible assumption) | (with_reducible refine Below.drew ?_) | (with_reducible refine below_drewN ?_ _) | ((with_reducible refine Below.setCell ?_ ?_ _); rotate_left; focus (first | (simp; done) | omega | (simp; omega))) | ((with_reducible refine Below.alloc ?_ ?_ _); rotate_left; focus (first | exact Nat.le_refl _ | omega | (simp; done) | (simp; omega))))))
                go_wp2_with fail
                refine (sFracNew _ 1200 _).mono ?_
                rw [HY.out]
                rw [← HYE.out]
                rintro e w4 ⟨rfl, hb4⟩
                obtain ⟨hc4, hf4⟩ := keepc hb4
                have hs4 : w.heap.size ≤ w4.heap.size := (by have := hb4.size; first | omega | (simp at this; omega))
                have hz4a : w.heap.size < w4.heap.size := (by have := hb4.size; first | omega | (simp at this; omega))
                have hz4b : w.heap.size + 1 < w4.heap.size := (by have := hb4.size; first | omega | (simp at this; omega))
                have hz4c : w.heap.size + 1 + 1 < w4.heap.size := (by have := hb4.size; first | omega | (simp at this; omega))
                have hz4d : w3.heap.size < w4.heap.size := (by have := hb4.size; first | omega | (simp at this; omega))
                have hB4 : Below w.heap.size w w4 := (by refine Below.trans ?_ (hb4.mono (by first | omega | (simp; done) | (simp; omega))); (repeat (first | (with_reducible exact Below.refl _ _) | (with_reducible assumption) | (with_reducible refine Below.drew ?_) | (with_reducible refine below_drewN ?_ _) | ((with_reducible refine Below.setCell ?_ ?_ _); rotate_left; focus (first | (simp; done) | omega | (simp; omega))) | ((with_reducible refine Below.alloc ?_ ?_ _); rotate_left; focus (first | exact Nat.le_refl _ | omega | (simp; done) | (simp; omega))))))
                go_wp2_with fail
                refine (sFracMul _ _ _ _ _).mono ?_
                rw [← HX.out]
                rintro e w5 ⟨rfl, hb5⟩
                obtain ⟨hc5, hf5⟩ := keepc hb5
                have hs5 : w.heap.size ≤ w5.heap.size := (by have := hb5.size; first | omega | (simp at this; omega))
                have hz5a : w.heap.size < w5.heap.size := (by have := hb5.size; first | omega | (simp at this; omega))
                have hz5b : w.heap.size + 1 < w5.heap.size := (by have := hb5.size; first | omega | (simp at this; omega))
                have hz5c : w.heap.size + 1 + 1 < w5.heap.size := (by have := hb5.size; first | omega | (simp at this; omega))
                have hz5d : w3.heap.size < w5.heap.size := (by have := hb5.size; first | omega | (simp at this; omega))
                have hz5e : w4.heap.size < w5.heap.size := (by have := hb5.size; first | omega | (simp at this; omega))
                have hB5 : Below w.heap.size w w5 := (by refine Below.trans ?_ (hb5.mono (by first | omega | (simp; done) | (simp; omega))); (repeat (first | (with_reducible exact Below.refl _ _) | (with_reducible assumption) | (with_reducible refine Below.drew ?_) | (with_reducible refine below_drewN ?_ _) | ((with_reducible refine Below.setCell ?_ ?_ _); rotate_left; focus (first | (simp; done) | omega | (simp; omega))) | ((with_reducible refine Below.alloc ?_ ?_ _); rotate_left; focus (first | exact Nat.le_refl _ | omega | (simp; done) | (simp; omega))))))
                have c0 : w5.cell? ⟨w.heap.size + 1 + 1, 0, none⟩ = some (.int .i64 0) := by rw [hc5 _ _ (by first | omega | (simp; done) | (simp; omega))] <;> simp [go_sem, *]
                have f0 : w5.frozen? ⟨w.heap.size + 1 + 1, 0, none⟩ = false := by rw [hf5 _ _ (by first | omega | (simp; done) | (simp; omega))] <;> simp [go_sem, *]
                have c1 : w5.cell? ⟨w.heap.size + 1 + 1, 1, none⟩ = some (.int .i64 0) := by rw [hc5 _ _ (by first | omega | (simp; done) | (simp; omega))] <;> simp [go_sem, *]
                have f1 : w5.frozen? ⟨w.heap.size + 1 + 1, 1, none⟩ = false := by rw [hf5 _ _ (by first | omega | (simp; done) | (simp; omega))] <;> simp [go_sem, *]
                go_wp2_with fail
                refine bodyPost_ret (v := vOpt v) ?_ rfl ⟨rfl, ?_⟩
                · rw [HE.out]
                  simp [results, Try.results46, go_sem, oN_none, oD_none, oB_none, c0, c1, hz5c]
                · (repeat (first | (with_reducible exact Below.refl _ _) | (with_reducible assumption) | (with_reducible refine Below.drew ?_) | (with_reducible refine below_drewN ?_ _) | ((with_reducible refine Below.setCell ?_ ?_ _); rotate_left; focus (first | (simp; done) | omega | (simp; omega))) | ((with_reducible refine Below.alloc ?_ ?_ _); rotate_left; focus (first | exact Nat.le_refl _ | omega | (simp; done) | (simp; omega)))))
              · have HE := Lib.hid (show v = z by rw [HV.out, hob]; rfl)
                go_enter Try.func46, Try.ntmps46
                go_wp2_with fail
                refine (sDesignOk _ _ _ _).mono ?_
                rintro e w1 ⟨rfl, hb1⟩
                obtain ⟨hc1, hf1⟩ := keepc hb1
                have hs1 : w.heap.size ≤ w1.heap.size := (by have := hb1.size; first | omega | (simp at this; omega))
                have hz1a : w.heap.size < w1.heap.size := (by have := hb1.size; first | omega | (simp at this; omega))
                have hz1b : w.heap.size + 1 < w1.heap.size := (by have := hb1.size; first | omega | (simp at this; omega))
                have hz1c : w.heap.size + 1 + 1 < w1.heap.size := (by have := hb1.size; first | omega | (simp at this; omega))
                have hB1 : Below w.heap.size w w1 := (by refine Below.trans ?_ (hb1.mono (by first | omega | (simp; done) | (simp; omega))); (repeat (first | (with_reducible exact Below.refl _ _) | (with_reducible assumption) | (with_reducible refine Below.drew ?_) | (with_reducible refine below_drewN ?_ _) | ((with_reducible refine Below.setCell ?_ ?_ _); rotate_left; focus (first | (simp; done) | omega | (simp; omega))) | ((with_reducible refine Below.alloc ?_ ?_ _); rotate_left; focus (first | exact Nat.le_refl _ | omega | (simp; done) | (simp; omega))))))
                go_wp2_with fail
                refine (l01In_any _ _ _ _).mono ?_
                rintro e w' ⟨rfl, rfl⟩
                go_wp2_with fail
                refine (sFracOk _ _ _).mono ?_
                rintro e w2 ⟨rfl, hb2⟩
                obtain ⟨hc2, hf2⟩ := keepc hb2
                have hs2 : w.heap.size ≤ w2.heap.size := (by have := hb2.size; first | omega | (simp at this; omega))
                have hz2a : w.heap.size < w2.heap.size := (by have := hb2.size; first | omega | (simp at this; omega))
                have hz2b : w.heap.size + 1 < w2.heap.size := (by have := hb2.size; first | omega | (simp at this; omega))
                have hz2c : w.heap.size + 1 + 1 < w2.heap.size := (by have := hb2.size; first | omega | (simp at this; omega))
                have hB2 : Below w.heap.size w w2 := (by refine Below.trans ?_ (hb2.mono (by first | omega | (simp; done) | (simp; omega))); (repeat (first | (with_reducible exact Below.refl _ _) | (with_reducible assumption) | (with_reducible refine Below.drew ?_) | (with_reducible refine below_drewN ?_ _) | ((with_reducible refine Below.setCell ?_ ?_ _); rotate_left; focus (first | (simp; done) | omega | (simp; omega))) | ((with_reducible refine Below.alloc ?_ ?_ _); rotate_left; focus (first | exact Nat.le_refl _ | omega | (simp; done) | (simp; omega))))))
                go_wp2_with fail
                refine (sFracNew r 10000 _).mono ?_
                rw [← HRA.out]
                rintro e w3 ⟨rfl, hb3⟩
                obtain ⟨hc3, hf3⟩ := keepc hb3
                have hs3 : w.heap.size ≤ w3.heap.size := (by have := hb3.size; first | omega | (simp at this; omega))
                have hz3a : w.heap.size < w3.heap.size := (by have := hb3.size; first | omega | (simp at this; omega))
                have hz3b : w.heap.size + 1 < w3.heap.size := (by have := hb3.size; first | omega | (simp at this; omega))
                have hz3c : w.heap.size + 1 + 1 < w3.heap.size := (by have := hb3.size; first | omega | (simp at this; omega))
                have hB3 : Below w.heap.size w w3 := (by refine Below.trans ?_ (hb3.mono (by first | omega | (simp; done) | (simp; omega))); (repeat (first | (with_reducible exact Below.refl _ _) | (with_reducible assumption) | (with_reducible refine Below.drew ?_) | (with_reducible refine below_drewN ?_ _) | ((with_reducible refine Below.setCell ?_ ?_ _); rotate_left; focus (first | (simp; done) | omega | (simp; omega))) | ((with_reducible refine Below.alloc ?_ ?_ _); rotate_left; focus (first | exact Nat.le_refl _ | omega | (simp; done) | (simp; omega))))))
                go_wp2_with fail
                refine (sFracNew _ 1200 _).mono ?_
                rw [HY.out]
                rw [← HYE.out]
                rintro e w4 ⟨rfl, hb4⟩
                obtain ⟨hc4, hf4⟩ := keepc hb4
                have hs4 : w.heap.size ≤ w4.heap.size := (by have := hb4.size; first | omega | (simp at this; omega))
                have hz4a : w.heap.size < w4.heap.size := (by have := hb4.size; first | omega | (simp at this; omega))
                have hz4b : w.heap.size + 1 < w4.heap.size := (by have := hb4.size; first | omega | (simp at this; omega))
                have hz4c : w.heap.size + 1 + 1 < w4.heap.size := (by have := hb4.size; first | omega | (simp at this; omega))
                have hz4d : w3.heap.size < w4.heap.size := (by have := hb4.size; first | omega | (simp at this; omega))
                have hB4 : Below w.heap.size w w4 := (by refine Below.trans ?_ (hb4.mono (by first | omega | (simp; done) | (simp; omega))); (repeat (first | (with_reducible exact Below.refl _ _) | (with_reducible assumption) | (with_reducible refine Below.drew ?_) | (with_reducible refine below_drewN ?_ _) | ((with_reducible refine Below.setCell ?_ ?_ _); rotate_left; focus (first | (simp; done) | omega | (simp; omega))) | ((with_reducible refine Below.alloc ?_ ?_ _); rotate_left; focus (first | exact Nat.le_refl _ | omega | (simp; done) | (simp; omega))))))
                go_wp2_with fail
                refine (sFracMul _ _ _ _ _).mono ?_
                rw [← HX.out]
                rintro e w5 ⟨rfl, hb5⟩
                obtain ⟨hc5, hf5⟩ := keepc hb5
                have hs5 : w.heap.size ≤ w5.heap.size := (by have := hb5.size; first | omega | (simp at this; omega))
                have hz5a : w.heap.size < w5.heap.size := (by have := hb5.size; first | omega | (simp at this; omega))
                have hz5b : w.heap.size + 1 < w5.heap.size := (by have := hb5.size; first | omega | (simp at this; omega))
                have hz5c : w.heap.size + 1 + 1 < w5.heap.size := (by have := hb5.size; first | omega | (simp at this; omega))
                have hz5d : w3.heap.size < w5.heap.size := (by have := hb5.size; first | omega | (simp at this; omega))
                have hz5e : w4.heap.size < w5.heap.size := (by have := hb5.size; first | omega | (simp at this; omega))
                have hB5 : Below w.heap.size w w5 := (by refine Below.trans ?_ (hb5.mono (by first | omega | (simp; done) | (simp; omega))); (repeat (first | (with_reducible exact Below.refl _ _) | (with_reducible assumption) | (with_reducible refine Below.drew ?_) | (with_reducible refine below_drewN ?_ _) | ((with_reducible refine Below.setCell ?_ ?_ _); rotate_left; focus (first | (simp; done) | omega | (simp; omega))) | ((with_reducible refine Below.alloc ?_ ?_ _); rotate_left; focus (first | exact Nat.le_refl _ | omega | (simp; done) | (simp; omega))))))
                go_wp2_with fail
                refine (sFracMul _ _ _ _ _).mono ?_
                rw [← HZ.out]
                rintro e w6 ⟨rfl, hb6⟩
                obtain ⟨hc6, hf6⟩ := keepc hb6
                have hs6 : w.heap.size ≤ w6.heap.size := (by have := hb6.size; first | omega | (simp at this; omega))
                have hz6a : w.heap.size < w6.heap.size := (by have := hb6.size; first | omega | (simp at this; omega))
                have hz6b : w.heap.size + 1 < w6.heap.size := (by have := hb6.size; first | omega | (simp at this; omega))
                have hz6c : w.heap.size + 1 + 1 < w6.heap.size := (by have := hb6.size; first | omega | (simp at this; omega))
                have hB6 : Below w.heap.size w w6 := (by refine Below.trans ?_ (hb6.mono (by first | omega | (simp; done) | (simp; omega))); (repeat (first | (with_reducible exact Below.refl _ _) | (with_reducible assumption) | (with_reducible refine Below.drew ?_) | (with_reducible refine below_drewN ?_ _) | ((with_reducible refine Below.setCell ?_ ?_ _); rotate_left; focus (first | (simp; done) | omega | (simp; omega))) | ((with_reducible refine Below.alloc ?_ ?_ _); rotate_left; focus (first | exact Nat.le_refl _ | omega | (simp; done) | (simp; omega))))))
                have c0 : w6.cell? ⟨w.heap.size + 1 + 1, 0, none⟩ = some (.int .i64 0) := by rw [hc6 _ _ (by first | omega | (simp; done) | (simp; omega))] <;> simp [go_sem, *]
                have f0 : w6.frozen? ⟨w.heap.size + 1 + 1, 0, none⟩ = false := by rw [hf6 _ _ (by first | omega | (simp; done) | (simp; omega))] <;> simp [go_sem, *]
                have c1 : w6.cell? ⟨w.heap.size + 1 + 1, 1, none⟩ = some (.int .i64 0) := by rw [hc6 _ _ (by first | omega | (simp; done) | (simp; omega))] <;> simp [go_sem, *]
                have f1 : w6.frozen? ⟨w.heap.size + 1 + 1, 1, none⟩ = false := by rw [hf6 _ _ (by first | omega | (simp; done) | (simp; omega))] <;> simp [go_sem, *]
                go_wp2_with fail
                refine bodyPost_ret (v := vOpt v) ?_ rfl ⟨rfl, ?_⟩
                · rw [HE.out]
                  simp [results, Try.results46, go_sem, c0, c1]
                · (repeat (first | (with_reducible exact Below.refl _ _) | (with_reducible assumption) | (with_reducible refine Below.drew ?_) | (with_reducible refine below_drewN ?_ _) | ((with_reducible refine Below.setCell ?_ ?_ _); rotate_left; focus (first | (simp; done) | omega | (simp; omega))) | ((with_reducible refine Below.alloc ?_ ?_ _); rotate_left; focus (first | exact Nat.le_refl _ | omega | (simp; done) | (simp; omega)))))
            · have HY := Lib.hid (show s = y by omega)
              clear hy
              cases hob : oB x
              · have HE := Lib.hid (show v = none by rw [HV.out, hob]; rfl)
                go_enter Try.func46, Try.ntmps46
                go_wp2_with fail
                refine (sDesignOk _ _ _ _).mono ?_
                rintro e w1 ⟨rfl, hb1⟩
                obtain ⟨hc1, hf1⟩ := keepc hb1
                have hs1 : w.heap.size ≤ w1.heap.size := (by have := hb1.size; first | omega | (simp at this; omega))
                have hz1a : w.heap.size < w1.heap.size := (by have := hb1.size; first | omega | (simp at this; omega))
                have hz1b : w.heap.size + 1 < w1.heap.size := (by have := hb1.size; first | omega | (simp at this; omega))
                have hz1c : w.heap.size + 1 + 1 < w1.heap.size := (by have := hb1.size; first | omega | (simp at this; omega))
                have hB1 : Below w.heap.size w w1 := (by refine Below.trans ?_ (hb1.mono (by first | omega | (simp; done) | (simp; omega))); (repeat (first | (with_reducible exact Below.refl _ _) | (with_reducible assumption) | (with_reducible refine Below.drew ?_) | (with_reducible refine below_drewN ?_ _) | ((with_reducible refine Below.setCell ?_ ?_ _); rotate_left; focus (first | (simp; done) | omega | (simp; omega))) | ((with_reducible refine Below.alloc ?_ ?_ _); rotate_left; focus (first | exact Nat.le_refl _ | omega | (simp; done) | (simp; omega))))))
                go_wp2_with fail
                refine (l01In_any _ _ _ _).mono ?_
                rintro e w' ⟨rfl, rfl⟩
                go_wp2_with fail
                refine (sFracOk _ _ _).mono ?_
                rintro e w2 ⟨rfl, hb2⟩
                obtain ⟨hc2, hf2⟩ := keepc hb2
                have hs2 : w.heap.size ≤ w2.heap.size := (by have := hb2.size; first | omega | (simp at this; omega))
                have hz2a : w.heap.size < w2.heap.size := (by have := hb2.size; first | omega | (simp at this; omega))
                have hz2b : w.heap.size + 1 < w2.heap.size := (by have := hb2.size; first | omega | (simp at this; omega))
                have hz2c : w.heap.size + 1 + 1 < w2.heap.size := (by have := hb2.size; first | omega | (simp at this; omega))
                have hB2 : Below w.heap.size w w2 := (by refine Below.trans ?_ (hb2.mono (by first | omega | (simp; done) | (simp; omega))); (repeat (first | (with_reducible exact Below.refl _ _) | (with_reducible assumption) | (with_reducible refine Below.drew ?_) | (with_reducible refine below_drewN ?_ _) | ((with_reducible refine Below.setCell ?_ ?_ _); rotate_left; focus (first | (simp; done) | omega | (simp; omega))) | ((with_reducible refine Below.alloc ?_ ?_ _); rotate_left; focus (first | exact Nat.le_refl _ | omega | (simp; done) | (simp; omega))))))
                go_wp2_with fail
                refine (sFracNew r 10000 _).mono ?_
                rw [← HRA.out]
                rintro e w3 ⟨rfl, hb3⟩
                obtain ⟨hc3, hf3⟩ := keepc hb3
                have hs3 : w.heap.size ≤ w3.heap.size := (by have := hb3.size; first | omega | (simp at this; omega))
                have hz3a : w.heap.size < w3.heap.size := (by have := hb3.size; first | omega | (simp at this; omega))
                have hz3b : w.heap.size + 1 < w3.heap.size := (by have := hb3.size; first | omega | (simp at this; omega))
                have hz3c : w.heap.size + 1 + 1 < w3.heap.size := (by have := hb3.size; first | omega | (simp at this; omega))
                have hB3 : Below w.heap.size w w3 := (by refine Below.trans ?_ (hb3.mono (by first | omega | (simp; done) | (simp; omega))); (repeat (first | (with_reducible exact Below.refl _ _) | (with_reducible assumption) | (with_reducible refine Below.drew ?_) | (with_reducible refine below_drewN ?_ _) | ((with_reducible refine Below.setCell ?_ ?_ _); rotate_left; focus (first | (simp; done) | omega | (simp; omega))) | ((with_reducible refine Below.alloc ?_ ?_ _); rotate_left; focus (first | exact Nat.le_refl _ | omega | (simp; done) | (simp; omega))))))
                go_wp2_with fail
                refine (sFracNew _ 1200 _).mono ?_
                rw [HY.out]
                rw [← HYE.out]
                rintro e w4 ⟨rfl, hb4⟩
                obtain ⟨hc4, hf4⟩ := keepc hb4
                have hs4 : w.heap.size ≤ w4.heap.size := (by have := hb4.size; first | omega | (simp at this; omega))
                have hz4a : w.heap.size < w4.heap.size := (by have := hb4.size; first | omega | (simp at this; omega))
                have hz4b : w.heap.size + 1 < w4.heap.size := (by have := hb4.size; first | omega | (simp at this; omega))
                have hz4c : w.heap.size + 1 + 1 < w4.heap.size := (by have := hb4.size; first | omega | (simp at this; omega))
                have hz4d : w3.heap.size < w4.heap.size := (by have := hb4.size; first | omega | (simp at this; omega))
                have hB4 : Below w.heap.size w w4 := (by refine Below.trans ?_ (hb4.mono (by first | omega | (simp; done) | (simp; omega))); (repeat (first | (with_reducible exact Below.refl _ _) | (with_reducible assumption) | (with_reducible refine Below.drew ?_) | (with_reducible refine below_drewN ?_ _) | ((with_reducible refine Below.setCell ?_ ?_ _); rotate_left; focus (first | (simp; done) | omega | (simp; omega))) | ((with_reducible refine Below.alloc ?_ ?_ _); rotate_left; focus (first | exact Nat.le_refl _ | omega | (simp; done) | (simp; omega))))))
                go_wp2_with fail
                refine (sFracMul _ _ _ _ _).mono ?_
                rw [← HX.out]
                rintro e w5 ⟨rfl, hb5⟩
                obtain ⟨hc5, hf5⟩ := keepc hb5
                have hs5 : w.heap.size ≤ w5.heap.size := (by have := hb5.size; first | omega | (simp at this; omega))
                have hz5a : w.heap.size < w5.heap.size := (by have := hb5.size; first | omega | (simp at this; omega))
                have hz5b : w.heap.size + 1 < w5.heap.size := (by have := hb5.size; first | omega | (simp at this; omega))
                have hz5c : w.heap.size + 1 + 1 < w5.heap.size := (by have := hb5.size; first | omega | (simp at this; omega))
                have hz5d : w3.heap.size < w5.heap.size := (by have := hb5.size; first | omega | (simp at this; omega))
                have hz5e : w4.heap.size < w5.heap.size := (by have := hb5.size; first | omega | (simp at this; omega))
                have hB5 : Below w.heap.size w w5 := (by refine Below.trans ?_ (hb5.mono (by first | omega | (simp; done) | (simp; omega))); (repeat (first | (with_reducible exact Below.refl _ _) | (with_reducible assumption) | (with_reducible refine Below.drew ?_) | (with_reducible refine below_drewN ?_ _) | ((with_reducible refine Below.setCell ?_ ?_ _); rotate_left; focus (first | (simp; done) | omega | (simp; omega))) | ((with_reducible refine Below.alloc ?_ ?_ _); rotate_left; focus (first | exact Nat.le_refl _ | omega | (simp; done) | (simp; omega))))))
                have c0 : w5.cell? ⟨w.heap.size + 1 + 1, 0, none⟩ = some (.int .i64 0) := by rw [hc5 _ _ (by first | omega | (simp; done) | (simp; omega))] <;> simp [go_sem, *]
                have f0 : w5.frozen? ⟨w.heap.size + 1 + 1, 0, none⟩ = false := by rw [hf5 _ _ (by first | omega | (simp; done) | (simp; omega))] <;> simp [go_sem, *]
                have c1 : w5.cell? ⟨w.heap.size + 1 + 1, 1, none⟩ = some (.int .i64 0) := by rw [hc5 _ _ (by first | omega | (simp; done) | (simp; omega))] <;> simp [go_sem, *]
                have f1 : w5.frozen? ⟨w.heap.size + 1 + 1, 1, none⟩ = false := by rw [hf5 _ _ (by first | omega | (simp; done) | (simp; omega))] <;> simp [go_sem, *]
                go_wp2_with fail
                refine bodyPost_ret (v := vOpt v) ?_ rfl ⟨rfl, ?_⟩
                · rw [HE.out]
                  simp [results, Try.results46, go_sem, oN_none, oD_none, oB_none, c0, c1, hz5c]
                · (repeat (first | (with_reducible exact Below.refl _ _) | (with_reducible assumption) | (with_reducible refine Below.drew ?_) | (with_reducible refine below_drewN ?_ _) | ((with_reducible refine Below.setCell ?_ ?_ _); rotate_left; focus (first | (simp; done) | omega | (simp; omega))) | ((with_reducible refine Below.alloc ?_ ?_ _); rotate_left; focus (first | exact Nat.le_refl _ | omega | (simp; done) | (simp; omega)))))
              · have HE := Lib.hid (show v = z by rw [HV.out, hob]; rfl)
                go_enter Try.func46, Try.ntmps46
                go_wp2_with fail
                refine (sDesignOk _ _ _ _).mono ?_
                rintro e w1 ⟨rfl, hb1⟩
                obtain ⟨hc1, hf1⟩ := keepc hb1
                have hs1 : w.heap.size ≤ w1.heap.size := (by have := hb1.size; first | omega | (simp at this; omega))
                have hz1a : w.heap.size < w1.heap.size := (by have := hb1.size; first | omega | (simp at this; omega))
                have hz1b : w.heap.size + 1 < w1.heap.size := (by have := hb1.size; first | omega | (simp at this; omega))
                have hz1c : w.heap.size + 1 + 1 < w1.heap.size := (by have := hb1.size; first | omega | (simp at this; omega))
                have hB1 : Below w.heap.size w w1 := (by refine Below.trans ?_ (hb1.mono (by first | omega | (simp; done) | (simp; omega))); (repeat (first | (with_reducible exact Below.refl _ _) | (with_reducible assumption) | (with_reducible refine Below.drew ?_) | (with_reducible refine below_drewN ?_ _) | ((with_reducible refine Below.setCell ?_ ?_ _); rotate_left; focus (first | (simp; done) | omega | (simp; omega))) | ((with_reducible refine Below.alloc ?_ ?_ _); rotate_left; focus (first | exact Nat.le_refl _ | omega | (simp; done) | (simp; omega))))))
                go_wp2_with fail
                refine (l01In_any _ _ _ _).mono ?_
                rintro e w' ⟨rfl, rfl⟩
                go_wp2_with fail
                refine (sFracOk _ _ _).mono ?_
                rintro e w2 ⟨rfl, hb2⟩
                obtain ⟨hc2, hf2⟩ := keepc hb2
                have hs2 : w.heap.size ≤ w2.heap.size := (by have := hb2.size; first | omega | (simp at this; omega))
                have hz2a : w.heap.size < w2.heap.size := (by have := hb2.size; first | omega | (simp at this; omega))
                have hz2b : w.heap.size + 1 < w2.heap.size := (by have := hb2.size; first | omega | (simp at this; omega))
                have hz2c : w.heap.size + 1 + 1 < w2.heap.size := (by have := hb2.size; first | omega | (simp at this; omega))
                have hB2 : Below w.heap.size w w2 := (by refine Below.trans ?_ (hb2.mono (by first | omega | (simp; done) | (simp; omega))); (repeat (first | (with_reducible exact Below.refl _ _) | (with_reducible assumption) | (with_reducible refine Below.drew ?_) | (with_reducible refine below_drewN ?_ _) | ((with_reducible refine Below.setCell ?_ ?_ _); rotate_left; focus (first | (simp; done) | omega | (simp; omega))) | ((with_reducible refine Below.alloc ?_ ?_ _); rotate_left; focus (first | exact Nat.le_refl _ | omega | (simp; done) | (simp; omega))))))
                go_wp2_with fail
                refine (sFracNew r 10000 _).mono ?_
                rw [← HRA.out]
                rintro e w3 ⟨rfl, hb3⟩
                obtain ⟨hc3, hf3⟩ := keepc hb3
                have hs3 : w.heap.size ≤ w3.heap.size := (by have := hb3.size; first | omega | (simp at this; omega))
                have hz3a : w.heap.size < w3.heap.size := (by have := hb3.size; first | omega | (simp at this; omega))
                have hz3b : w.heap.size + 1 < w3.heap.size := (by have := hb3.size; first | omega | (simp at this; omega))
                have hz3c : w.heap.size + 1 + 1 < w3.heap.size := (by have := hb3.size; first | omega | (simp at this; omega))
                have hB3 : Below w.heap.size w w3 := (by refine Below.trans ?_ (hb3.mono (by first | omega | (simp; done) | (simp; omega))); (repeat (first | (with_reducible exact Below.refl _ _) | (with_reducible assumption) | (with_reducible refine Below.drew ?_) | (with_reducible refine below_drewN ?_ _) | ((with_reducible refine Below.setCell ?_ ?_ _); rotate_left; focus (first | (simp; done) | omega | (simp; omega))) | ((with_reducible refine Below.alloc ?_ ?_ _); rotate_left; focus (first | exact Nat.le_refl _ | omega | (simp; done) | (simp; omega))))))
                go_wp2_with fail
                refine (sFracNew _ 1200 _).mono ?_
                rw [HY.out]
                rw [← HYE.out]
                rintro e w4 ⟨rfl, hb4⟩
                obtain ⟨hc4, hf4⟩ := keepc hb4
                have hs4 : w.heap.size ≤ w4.heap.size := (by have := hb4.size; first | omega | (simp at this; omega))
                have hz4a : w.heap.size < w4.heap.size := (by have := hb4.size; first | omega | (simp at this; omega))
                have hz4b : w.heap.size + 1 < w4.heap.size := (by have := hb4.size; first | omega | (simp at this; omega))
                have hz4c : w.heap.size + 1 + 1 < w4.heap.size := (by have := hb4.size; first | omega | (simp at this; omega))
                have hz4d : w3.heap.size < w4.heap.size := (by have := hb4.size; first | omega | (simp at this; omega))
                have hB4 : Below w.heap.size w w4 := (by refine Below.trans ?_ (hb4.mono (by first | omega | (simp; done) | (simp; omega))); (repeat (first | (with_reducible exact Below.refl _ _) | (with_reducible assumption) | (with_reducible refine Below.drew ?_) | (with_reducible refine below_drewN ?_ _) | ((with_reducible refine Below.setCell ?_ ?_ _); rotate_left; focus (first | (simp; done) | omega | (simp; omega))) | ((with_reducible refine Below.alloc ?_ ?_ _); rotate_left; focus (first | exact Nat.le_refl _ | omega | (simp; done) | (simp; omega))))))
                go_wp2_with fail
                refine (sFracMul _ _ _ _ _).mono ?_
                rw [← HX.out]
                rintro e w5 ⟨rfl, hb5⟩
                obtain ⟨hc5, hf5⟩ := keepc hb5
                have hs5 : w.heap.size ≤ w5.heap.size := (by have := hb5.size; first | omega | (simp at this; omega))
                have hz5a : w.heap.size < w5.heap.size := (by have := hb5.size; first | omega | (simp at this; omega))
                have hz5b : w.heap.size + 1 < w5.heap.size := (by have := hb5.size; first | omega | (simp at this; omega))
                have hz5c : w.heap.size + 1 + 1 < w5.heap.size := (by have := hb5.size; first | omega | (simp at this; omega))
                have hz5d : w3.heap.size < w5.heap.size := (by have := hb5.size; first | omega | (simp at this; omega))
                have hz5e : w4.heap.size < w5.heap.size := (by have := hb5.size; first | omega | (simp at this; omega))
                have hB5 : Below w.heap.size w w5 := (by refine Below.trans ?_ (hb5.mono (by first | omega | (simp; done) | (simp; omega))); (repeat (first | (with_reducible exact Below.refl _ _) | (with_reducible assumption) | (with_reducible refine Below.drew ?_) | (with_reducible refine below_drewN ?_ _) | ((with_reducible refine Below.setCell ?_ ?_ _); rotate_left; focus (first | (simp; done) | omega | (simp; omega))) | ((with_reducible refine Below.alloc ?_ ?_ _); rotate_left; focus (first | exact Nat.le_refl _ | omega | (simp; done) | (simp; omega))))))
                go_wp2_with fail
                refine (sFracMul _ _ _ _ _).mono ?_
                rw [← HZ.out]
                rintro e w6 ⟨rfl, hb6⟩
                obtain ⟨hc6, hf6⟩ := keepc hb6
                have hs6 : w.heap.size ≤ w6.heap.size := (by have := hb6.size; first | omega | (simp at this; omega))
                have hz6a : w.heap.size < w6.heap.size := (by have := hb6.size; first | omega | (simp at this; omega))
                have hz6b : w.heap.size + 1 < w6.heap.size := (by have := hb6.size; first | omega | (simp at this; omega))
                have hz6c : w.heap.size + 1 + 1 < w6.heap.size := (by have := hb6.size; first | omega | (simp at this; omega))
                have hB6 : Below w.heap.size w w6 := (by refine Below.trans ?_ (hb6.mono (by first | omega | (simp; done) | (simp; omega))); (repeat (first | (with_reducible exact Below.refl _ _) | (with_reducible assumption) | (with_reducible refine Below.drew ?_) | (with_reducible refine below_drewN ?_ _) | ((with_reducible refine Below.setCell ?_ ?_ _); rotate_left; focus (first | (simp; done) | omega | (simp; omega))) | ((with_reducible refine Below.alloc ?_ ?_ _); rotate_left; focus (first | exact Nat.le_refl _ | omega | (simp; done) | (simp; omega))))))
                have c0 : w6.cell? ⟨w.heap.size + 1 + 1, 0, none⟩ = some (.int .i64 0) := by rw [hc6 _ _ (by first | omega | (simp; done) | (simp; omega))] <;> simp [go_sem, *]
                have f0 : w6.frozen? ⟨w.heap.size + 1 + 1, 0, none⟩ = false := by rw [hf6 _ _ (by first | omega | (simp; done) | (simp; omega))] <;> simp [go_sem, *]
                have c1 : w6.cell? ⟨w.heap.size + 1 + 1, 1, none⟩ = some (.int .i64 0) := by rw [hc6 _ _ (by first | omega | (simp; done) | (simp; omega))] <;> simp [go_sem, *]
                have f1 : w6.frozen? ⟨w.heap.size + 1 + 1, 1, none⟩ = false := by rw [hf6 _ _ (by first | omega | (simp; done) | (simp; omega))] <;> simp [go_sem, *]
                go_wp2_with fail
                refine bodyPost_ret (v := vOpt v) ?_ rfl ⟨rfl, ?_⟩
                · rw [HE.out]
                  simp [results, Try.results46, go_sem, c0, c1]
                · (repeat (first | (with_reducible exact Below.refl _ _) | (with_reducible assumption) | (with_reducible refine Below.drew ?_) | (with_reducible refine below_drewN ?_ _) | ((with_reducible refine Below.setCell ?_ ?_ _); rotate_left; focus (first | (simp; done) | omega | (simp; omega))) | ((with_reducible refine Below.alloc ?_ ?_ _); rotate_left; focus (first | exact Nat.le_refl _ | omega | (simp; done) | (simp; omega)))))
          · have e0 : v = none := by rw [hv, if_neg (by simp [accInL, t1, hk2, t3, t4, t5])]
            rw [e0]
            clear e0 hv v
            go_enter Try.func46, Try.ntmps46
            go_wp2_with fail
            refine (sDesignOk _ _ _ _).mono ?_
            rintro e w1 ⟨rfl, hb1⟩
            obtain ⟨hc1, hf1⟩ := keepc hb1
            have hs1 : w.heap.size ≤ w1.heap.size := (by have := hb1.size; first | omega | (simp at this; omega))
            have hz1a : w.heap.size < w1.heap.size := (by have := hb1.size; first | omega | (simp at this; omega))
            have hz1b : w.heap.size + 1 < w1.heap.size := (by have := hb1.size; first | omega | (simp at this; omega))
            have hz1c : w.heap.size + 1 + 1 < w1.heap.size := (by have := hb1.size; first | omega | (simp at this; omega))
            have hB1 : Below w.heap.size w w1 := (by refine Below.trans ?_ (hb1.mono (by first | omega | (simp; done) | (simp; omega))); (repeat (first | (with_reducible exact Below.refl _ _) | (with_reducible assumption) | (with_reducible refine Below.drew ?_) | (with_reducible refine below_drewN ?_ _) | ((with_reducible refine Below.setCell ?_ ?_ _); rotate_left; focus (first | (simp; done) | omega | (simp; omega))) | ((with_reducible refine Below.alloc ?_ ?_ _); rotate_left; focus (first | exact Nat.le_refl _ | omega | (simp; done) | (simp; omega))))))
            go_wp2_with fail
            refine (l01In_any _ _ _ _).mono ?_
            rintro e w' ⟨rfl, rfl⟩
            go_wp2_with fail
            refine (sFracOk _ _ _).mono ?_
            rintro e w2 ⟨rfl, hb2⟩
            obtain ⟨hc2, hf2⟩ := keepc hb2
            have hs2 : w.heap.size ≤ w2.heap.size := (by have := hb2.size; first | omega | (simp at this; omega))
            have hz2a : w.heap.size < w2.heap.size := (by have := hb2.size; first | omega | (simp at this; omega))
            have hz2b : w.heap.size + 1 < w2.heap.size := (by have := hb2.size; first | omega | (simp at this; omega))
            have hz2c : w.heap.size + 1 + 1 < w2.heap.size := (by have := hb2.size; first | omega | (simp at this; omega))
            have hB2 : Below w.heap.size w w2 := (by refine Below.trans ?_ (hb2.mono (by first | omega | (simp; done) | (simp; omega))); (repeat (first | (with_reducible exact Below.refl _ _) | (with_reducible assumption) | (with_reducible refine Below.drew ?_) | (with_reducible refine below_drewN ?_ _) | ((with_reducible refine Below.setCell ?_ ?_ _); rotate_left; focus (first | (simp; done) | omega | (simp; omega))) | ((with_reducible refine Below.alloc ?_ ?_ _); rotate_left; focus (first | exact Nat.le_refl _ | omega | (simp; done) | (simp; omega))))))
            go_wp2_with fail
            refine bodyPost_ret (v := vOpt none) ?_ rfl ⟨rfl, ?_⟩
            · simp [results, Try.results46, go_sem, oN_none, oD_none, oB_none, *]
            · (repeat (first | (with_reducible exact Below.refl _ _) | (with_reducible assumption) | (with_reducible refine Below.drew ?_) | (with_reducible refine below_drewN ?_ _) | ((with_reducible refine Below.setCell ?_ ?_ _); rotate_left; focus (first | (simp; done) | omega | (simp; omega))) | ((with_reducible refine Below.alloc ?_ ?_ _); rotate_left; focus (first | exact Nat.le_refl _ | omega | (simp; done) | (simp; omega)))))
    · have e1 : decide (2 < k) = true := by simpa using hk2
      have e0 : v = none := by rw [hv, if_neg (by simp [accInL, t1, hk2])]
      rw [e0]
      clear e0 hv v
      go_enter Try.func46, Try.ntmps46
      go_wp2_with fail
      refine (sDesignOk _ _ _ _).mono ?_
      rintro e w1 ⟨rfl, hb1⟩
      obtain ⟨hc1, hf1⟩ := keepc hb1
      have hs1 : w.heap.size ≤ w1.heap.size := (by have := hb1.size; first | omega | (simp at this; omega))
      have hz1a : w.heap.size < w1.heap.size := (by have := hb1.size; first | omega | (simp at this; omega))
      have hz1b : w.heap.size + 1 < w1.heap.size := (by have := hb1.size; first | omega | (simp at this; omega))
      have hz1c : w.heap.size + 1 + 1 < w1.heap.size := (by have := hb1.size; first | omega | (simp at this; omega))
      have hB1 : Below w.heap.size w w1 := (by refine Below.trans ?_ (hb1.mono (by first | omega | (simp; done) | (simp; omega))); (repeat (first | (with_reducible exact Below.refl _ _) | (with_reducible assumption) | (with_reducible refine Below.drew ?_) | (with_reducible refine below_drewN ?_ _) | ((with_reducible refine Below.setCell ?_ ?_ _); rotate_left; focus (first | (simp; done) | omega | (simp; omega))) | ((with_reducible refine Below.alloc ?_ ?_ _); rotate_left; focus (first | exact Nat.le_refl _ | omega | (simp; done) | (simp; omega))))))
      go_wp2_with fail
      refine bodyPost_ret (v := vOpt none) ?_ rfl ⟨rfl, ?_⟩
      · simp [results, Try.results46, go_sem, oN_none, oD_none, oB_none, *]
      · (repeat (first | (with_reducible exact Below.refl _ _) | (with_reducible assumption) | (with_reducible refine Below.drew ?_) | (with_reducible refine below_drewN ?_ _) | ((with_reducible refine Below.setCell ?_ ?_ _); rotate_left; focus (first | (simp; done) | omega | (simp; omega))) | ((with_reducible refine Below.alloc ?_ ?_ _); rotate_left; focus (first | exact Nat.le_refl _ | omega | (simp; done) | (simp; omega)))))
end Go.Proofs.Ytjiinkbjmamdmaa
