/- Accrued of the program and of the reference. No conditions. -/
import Derived.Test.YtjiinkbjmamdmaaSAcc
import Derived.Deep.RegionHeld3
import Derived.Deep.DeepCutAuto
namespace Go.Proofs.Ytjiinkbjmamdmaa
open Go.RowKit

set_option maxHeartbeats 4000000 in
theorem iAccrued (k r c s n d : Int) (w : World) :
    Calls Try.prog 44 #[.agg #[.int .i64 k, .int .i64 r, .int .i64 c], .int .i64 s, .agg #[.int .i64 n, .int .i64 d]] w fun e w' => e = .returned (vOpt (accL k r c s n d)) ∧ Below w.heap.size w w' := by
  obtain ⟨v, hv⟩ : ∃ v, v = accL k r c s n d := ⟨_, rfl⟩
  rw [← hv]
  unfold accL at hv
  cases t1 : designOkL k r c
  · have e0 : v = none := by rw [hv, if_neg (by simp [accInL, t1])]
    rw [e0]
    clear e0 hv v
    go_enter Try.func44, Try.ntmps44
    go_wp2_with fail
    refine (iDesignOk _ _ _ _).mono ?_
    rintro e w1 ⟨rfl, hb1⟩
    obtain ⟨hc1, hf1⟩ := keepc hb1
    have hs1 : w.heap.size ≤ w1.heap.size := (by have := hb1.size; first | omega | (simp at this; omega))
    have hz1a : w.heap.size < w1.heap.size := (by have := hb1.size; first | omega | (simp at this; omega))
    have hz1b : w.heap.size + 1 < w1.heap.size := (by have := hb1.size; first | omega | (simp at this; omega))
    have hz1c : w.heap.size + 1 + 1 < w1.heap.size := (by have := hb1.size; first | omega | (simp at this; omega))
    have hB1 : Below w.heap.size w w1 := (by refine Below.trans ?_ (hb1.mono (by first | omega | (simp; done) | (simp; omega))); (repeat (first | (with_reducible exact Below.refl _ _) | (with_reducible assumption) | (with_reducible refine Below.drew ?_) | (with_reducible refine below_drewN ?_ _) | ((with_reducible refine Below.setCell ?_ ?_ _); rotate_left; focus (first | (simp; done) | omega | (simp; omega))) | ((with_reducible refine Below.alloc ?_ ?_ _); rotate_left; focus (first | exact Nat.le_refl _ | omega | (simp; done) | (simp; omega))))))
    go_wp2_with fail
    refine bodyPost_ret (v := vOpt none) ?_ rfl ⟨rfl, ?_⟩
    · simp [results, Try.results44, go_sem, oN_none, oD_none, oB_none, *]
    · (repeat (first | (with_reducible exact Below.refl _ _) | (with_reducible assumption) | (with_reducible refine Below.drew ?_) | (with_reducible refine below_drewN ?_ _) | ((with_reducible refine Below.setCell ?_ ?_ _); rotate_left; focus (first | (simp; done) | omega | (simp; omega))) | ((with_reducible refine Below.alloc ?_ ?_ _); rotate_left; focus (first | exact Nat.le_refl _ | omega | (simp; done) | (simp; omega)))))
  · have hdk := designOk_k t1
    by_cases hk2 : k ≤ 2
    · have hk3 : k = 1 ∨ k = 2 := by omega
      rcases hk3 with rfl | rfl
      · cases t3 : inB s 0 72000
        · have e0 : v = none := by rw [hv, if_neg (by simp [accInL, t1, t3])]
          rw [e0]
          clear e0 hv v
          go_enter Try.func44, Try.ntmps44
          go_wp2_with fail
          refine (iDesignOk _ _ _ _).mono ?_
          rintro e w1 ⟨rfl, hb1⟩
          obtain ⟨hc1, hf1⟩ := keepc hb1
          have hs1 : w.heap.size ≤ w1.heap.size := (by have := hb1.size; first | omega | (simp at this; omega))
          have hz1a : w.heap.size < w1.heap.size := (by have := hb1.size; first | omega | (simp at this; omega))
          have hz1b : w.heap.size + 1 < w1.heap.size := (by have := hb1.size; first | omega | (simp at this; omega))
          have hz1c : w.heap.size + 1 + 1 < w1.heap.size := (by have := hb1.size; first | omega | (simp at this; omega))
          have hB1 : Below w.heap.size w w1 := (by refine Below.trans ?_ (hb1.mono (by first | omega | (simp; done) | (simp; omega))); (repeat (first | (with_reducible exact Below.refl _ _) | (with_reducible assumption) | (with_reducible refine Below.drew ?_) | (with_reducible refine below_drewN ?_ _) | ((with_reducible refine Below.setCell ?_ ?_ _); rotate_left; focus (first | (simp; done) | omega | (simp; omega))) | ((with_reducible refine Below.alloc ?_ ?_ _); rotate_left; focus (first | exact Nat.le_refl _ | omega | (simp; done) | (simp; omega))))))
          go_wp2_with fail
          refine (within_any _ _ _ _).mono ?_
          rintro e w' ⟨rfl, rfl⟩
          go_wp2_with fail
          refine bodyPost_ret (v := vOpt none) ?_ rfl ⟨rfl, ?_⟩
          · simp [results, Try.results44, go_sem, oN_none, oD_none, oB_none, *]
          · (repeat (first | (with_reducible exact Below.refl _ _) | (with_reducible assumption) | (with_reducible refine Below.drew ?_) | (with_reducible refine below_drewN ?_ _) | ((with_reducible refine Below.setCell ?_ ?_ _); rotate_left; focus (first | (simp; done) | omega | (simp; omega))) | ((with_reducible refine Below.alloc ?_ ?_ _); rotate_left; focus (first | exact Nat.le_refl _ | omega | (simp; done) | (simp; omega)))))
        · cases t4 : fracOkL (n, d)
          · have e0 : v = none := by rw [hv, if_neg (by simp [accInL, t1, t3, t4])]
            rw [e0]
            clear e0 hv v
            go_enter Try.func44, Try.ntmps44
            go_wp2_with fail
            refine (iDesignOk _ _ _ _).mono ?_
            rintro e w1 ⟨rfl, hb1⟩
            obtain ⟨hc1, hf1⟩ := keepc hb1
            have hs1 : w.heap.size ≤ w1.heap.size := (by have := hb1.size; first | omega | (simp at this; omega))
            have hz1a : w.heap.size < w1.heap.size := (by have := hb1.size; first | omega | (simp at this; omega))
            have hz1b : w.heap.size + 1 < w1.heap.size := (by have := hb1.size; first | omega | (simp at this; omega))
            have hz1c : w.heap.size + 1 + 1 < w1.heap.size := (by have := hb1.size; first | omega | (simp at this; omega))
            have hB1 : Below w.heap.size w w1 := (by refine Below.trans ?_ (hb1.mono (by first | omega | (simp; done) | (simp; omega))); (repeat (first | (with_reducible exact Below.refl _ _) | (with_reducible assumption) | (with_reducible refine Below.drew ?_) | (with_reducible refine below_drewN ?_ _) | ((with_reducible refine Below.setCell ?_ ?_ _); rotate_left; focus (first | (simp; done) | omega | (simp; omega))) | ((with_reducible refine Below.alloc ?_ ?_ _); rotate_left; focus (first | exact Nat.le_refl _ | omega | (simp; done) | (simp; omega))))))
            go_wp2_with fail
            refine (within_any _ _ _ _).mono ?_
            rintro e w' ⟨rfl, rfl⟩
            go_wp2_with fail
            refine (iFracOk _ _ _).mono ?_
            rintro e w2 ⟨rfl, hb2⟩
            obtain ⟨hc2, hf2⟩ := keepc hb2
            have hs2 : w.heap.size ≤ w2.heap.size := (by have := hb2.size; first | omega | (simp at this; omega))
            have hz2a : w.heap.size < w2.heap.size := (by have := hb2.size; first | omega | (simp at this; omega))
            have hz2b : w.heap.size + 1 < w2.heap.size := (by have := hb2.size; first | omega | (simp at this; omega))
            have hz2c : w.heap.size + 1 + 1 < w2.heap.size := (by have := hb2.size; first | omega | (simp at this; omega))
            have hB2 : Below w.heap.size w w2 := (by refine Below.trans ?_ (hb2.mono (by first | omega | (simp; done) | (simp; omega))); (repeat (first | (with_reducible exact Below.refl _ _) | (with_reducible assumption) | (with_reducible refine Below.drew ?_) | (with_reducible refine below_drewN ?_ _) | ((with_reducible refine Below.setCell ?_ ?_ _); rotate_left; focus (first | (simp; done) | omega | (simp; omega))) | ((with_reducible refine Below.alloc ?_ ?_ _); rotate_left; focus (first | exact Nat.le_refl _ | omega | (simp; done) | (simp; omega))))))
            go_wp2_with fail
            refine bodyPost_ret (v := vOpt none) ?_ rfl ⟨rfl, ?_⟩
            · simp [results, Try.results44, go_sem, oN_none, oD_none, oB_none, *]
            · (repeat (first | (with_reducible exact Below.refl _ _) | (with_reducible assumption) | (with_reducible refine Below.drew ?_) | (with_reducible refine below_drewN ?_ _) | ((with_reducible refine Below.setCell ?_ ?_ _); rotate_left; focus (first | (simp; done) | omega | (simp; omega))) | ((with_reducible refine Below.alloc ?_ ?_ _); rotate_left; focus (first | exact Nat.le_refl _ | omega | (simp; done) | (simp; omega)))))
          · cases t5 : decide (n < 0)
            · have hv2 : v = accYes r c s n d := by rw [hv, if_pos (by simp [accInL, t1, t3, t4, t5])]
              clear hv
              obtain ⟨y, hy⟩ : ∃ y, y = min s (1200 * c) := ⟨_, rfl⟩
              unfold accYes at hv2
              rw [← hy] at hv2
              obtain ⟨ra, hra⟩ : ∃ ra, ra = fracNewL r 10000 := ⟨_, rfl⟩
              rw [← hra] at hv2
              obtain ⟨ye, hye⟩ : ∃ ye, ye = fracNewL y 1200 := ⟨_, rfl⟩
              rw [← hye] at hv2
              obtain ⟨x, hx⟩ : ∃ x, x = mulL (n, d) (oN ra, oD ra) := ⟨_, rfl⟩
              rw [← hx] at hv2
              obtain ⟨z, hz⟩ : ∃ z, z = mulL (oN x, oD x) (oN ye, oD ye) := ⟨_, rfl⟩
              rw [← hz] at hv2
              have HRA := Lib.hid hra
              have HYE := Lib.hid hye
              have HX := Lib.hid hx
              have HZ := Lib.hid hz
              have HV := Lib.hid hv2
              have hc := hdk.2.2.2.2 (by omega)
              obtain ⟨hc1, hc2⟩ := hc
              have hs0 := inB_iff.1 t3
              obtain ⟨hs1, hs2⟩ := hs0
              clear hra hye hx hz hv2 hdk
              by_cases hm : 1200 * c < s
              · have HY := Lib.hid (show (1200 * c : Int) = y by omega)
                clear hy
                cases hob : oB x
                · have HE := Lib.hid (show v = none by rw [HV.out, hob]; rfl)
                  go_enter Try.func44, Try.ntmps44
                  go_wp2_with fail
                  refine (iDesignOk _ _ _ _).mono ?_
                  rintro e w1 ⟨rfl, hb1⟩
                  obtain ⟨hc1, hf1⟩ := keepc hb1
                  have hs1 : w.heap.size ≤ w1.heap.size := (by have := hb1.size; first | omega | (simp at this; omega))
                  have hz1a : w.heap.size < w1.heap.size := (by have := hb1.size; first | omega | (simp at this; omega))
                  have hz1b : w.heap.size + 1 < w1.heap.size := (by have := hb1.size; first | omega | (simp at this; omega))
                  have hz1c : w.heap.size + 1 + 1 < w1.heap.size := (by have := hb1.size; first | omega | (simp at this; omega))
                  have hB1 : Below w.heap.size w w1 := (by refine Below.trans ?_ (hb1.mono (by first | omega | (simp; done) | (simp; omega))); (repeat (first | (with_reducible exact Below.refl _ _) | (with_reducible assumption) | (with_reducible refine Below.drew ?_) | (with_reducible refine below_drewN ?_ _) | ((with_reducible refine Below.setCell ?_ ?_ _); rotate_left; focus (first | (simp; done) | omega | (simp; omega))) | ((with_reducible refine Below.alloc ?_ ?_ _); rotate_left; focus (first | exact Nat.le_refl _ | omega | (simp; done) | (simp; omega))))))
                  go_wp2_with fail
                  refine (within_any _ _ _ _).mono ?_
                  rintro e w' ⟨rfl, rfl⟩
                  go_wp2_with fail
                  refine (iFracOk _ _ _).mono ?_
                  rintro e w2 ⟨rfl, hb2⟩
                  obtain ⟨hc2, hf2⟩ := keepc hb2
                  have hs2 : w.heap.size ≤ w2.heap.size := (by have := hb2.size; first | omega | (simp at this; omega))
                  have hz2a : w.heap.size < w2.heap.size := (by have := hb2.size; first | omega | (simp at this; omega))
                  have hz2b : w.heap.size + 1 < w2.heap.size := (by have := hb2.size; first | omega | (simp at this; omega))
                  have hz2c : w.heap.size + 1 + 1 < w2.heap.size := (by have := hb2.size; first | omega | (simp at this; omega))
                  have hB2 : Below w.heap.size w w2 := (by refine Below.trans ?_ (hb2.mono (by first | omega | (simp; done) | (simp; omega))); (repeat (first | (with_reducible exact Below.refl _ _) | (with_reducible assumption) | (with_reducible refine Below.drew ?_) | (with_reducible refine below_drewN ?_ _) | ((with_reducible refine Below.setCell ?_ ?_ _); rotate_left; focus (first | (simp; done) | omega | (simp; omega))) | ((with_reducible refine Below.alloc ?_ ?_ _); rotate_left; focus (first | exact Nat.le_refl _ | omega | (simp; done) | (simp; omega))))))
                  go_wp2_with fail
                  refine (iFracNew r 10000 _).mono ?_
                  rw [← HRA.out]
                  rintro e w3 ⟨rfl, hb3⟩
                  obtain ⟨hc3, hf3⟩ := keepc hb3
                  have hs3 : w.heap.size ≤ w3.heap.size := (by have := hb3.size; first | omega | (simp at this; omega))
                  have hz3a : w.heap.size < w3.heap.size := (by have := hb3.size; first | omega | (simp at this; omega))
                  have hz3b : w.heap.size + 1 < w3.heap.size := (by have := hb3.size; first | omega | (simp at this; omega))
                  have hz3c : w.heap.size + 1 + 1 < w3.heap.size := (by have := hb3.size; first | omega | (simp at this; omega))
                  have hB3 : Below w.heap.size w w3 := (by refine Below.trans ?_ (hb3.mono (by first | omega | (simp; done) | (simp; omega))); (repeat (first | (with_reducible exact Below.refl _ _) | (with_reducible assumption) | (with_reducible refine Below.drew ?_) | (with_reducible refine below_drewN ?_ _) | ((with_reducible refine Below.setCell ?_ ?_ _); rotate_left; focus (first | (simp; done) | omega | (simp; omega))) | ((with_reducible refine Below.alloc ?_ ?_ _); rotate_left; focus (first | exact Nat.le_refl _ | omega | (simp; done) | (simp; omega))))))
                  go_wp2_with fail
                  refine (iFracNew _ 1200 _).mono ?_
                  rw [HY.out]
                  rw [← HYE.out]
                  rintro e w4 ⟨rfl, hb4⟩
                  obtain ⟨hc4, hf4⟩ := keepc hb4
                  have hs4 : w.heap.size ≤ w4.heap.size := (by have := hb4.size; first | omega | (simp at this; omega))
                  have hz4a : w.heap.size < w4.heap.size := (by have := hb4.size; first | omega | (simp at this; omega))
                  have hz4b : w.heap.size + 1 < w4.heap.size := (by have := hb4.size; first | omega | (simp at this; omega))
                  have hz4c : w.heap.size + 1 + 1 < w4.heap.size := (by have := hb4.size; first | omega | (simp at this; omega))
                  have hz4d : w3.heap.size < w4.heap.size := (by have := hb4.size; first | omega | (simp at this; omega))
                  have hB4 : Below w.heap.size w w4 := (by refine Below.trans ?_ (hb4.mono (by first | omega | (simp; done) | (simp; omega))); (repeat (first | (with_reducible exact Below.refl _ _) | (with_reducible assumption) | (with_reducible refine Below.drew ?_) | (with_reducible refine below_drewN ?_ _) | ((with_reducible refine Below.setCell ?_ ?_ _); rotate_left; focus (first | (simp; done) | omega | (simp; omega))) | ((with_reducible refine Below.alloc ?_ ?_ _); rotate_left; focus (first | exact Nat.le_refl _ | omega | (simp; done) | (simp; omega))))))
                  go_wp2_with fail
                  refine (iFracMul _ _ _ _ _).mono ?_
                  rw [← HX.out]
                  rintro e w5 ⟨rfl, hb5⟩
                  obtain ⟨hc5, hf5⟩ := keepc hb5
                  have hs5 : w.heap.size ≤ w5.heap.size := (by have := hb5.size; first | omega | (simp at this; omega))
                  have hz5a : w.heap.size < w5.heap.size := (by have := hb5.size; first | omega | (simp at this; omega))
                  have hz5b : w.heap.size + 1 < w5.heap.size := (by have := hb5.size; first | omega | (simp at this; omega))
                  have hz5c : w.heap.size + 1 + 1 < w5.heap.size := (by have := hb5.size; first | omega | (simp at this; omega))
                  have hz5d : w3.heap.size < w5.heap.size := (by have := hb5.size; first | omega | (simp at this; omega))
                  have hz5e : w4.heap.size < w5.heap.size := (by have := hb5.size; first | omega | (simp at this; omega))
                  have hB5 : Below w.heap.size w w5 := (by refine Below.trans ?_ (hb5.mono (by first | omega | (simp; done) | (simp; omega))); (repeat (first | (with_reducible exact Below.refl _ _) | (with_reducible assumption) | (with_reducible refine Below.drew ?_) | (with_reducible refine below_drewN ?_ _) | ((with_reducible refine Below.setCell ?_ ?_ _); rotate_left; focus (first | (simp; done) | omega | (simp; omega))) | ((with_reducible refine Below.alloc ?_ ?_ _); rotate_left; focus (first | exact Nat.le_refl _ | omega | (simp; done) | (simp; omega))))))
                  have c0 : w5.cell? ⟨w.heap.size + 1 + 1, 0, none⟩ = some (.int .i64 0) := by rw [hc5 _ _ (by first | omega | (simp; done) | (simp; omega))] <;> simp [go_sem, *]
                  have f0 : w5.frozen? ⟨w.heap.size + 1 + 1, 0, none⟩ = false := by rw [hf5 _ _ (by first | omega | (simp; done) | (simp; omega))] <;> simp [go_sem, *]
                  have c1 : w5.cell? ⟨w.heap.size + 1 + 1, 1, none⟩ = some (.int .i64 0) := by rw [hc5 _ _ (by first | omega | (simp; done) | (simp; omega))] <;> simp [go_sem, *]
                  have f1 : w5.frozen? ⟨w.heap.size + 1 + 1, 1, none⟩ = false := by rw [hf5 _ _ (by first | omega | (simp; done) | (simp; omega))] <;> simp [go_sem, *]
                  go_wp2_with fail
                  refine bodyPost_ret (v := vOpt v) ?_ rfl ⟨rfl, ?_⟩
                  · rw [HE.out]
                    simp [results, Try.results44, go_sem, oN_none, oD_none, oB_none, c0, c1, hz5c]
                  · (repeat (first | (with_reducible exact Below.refl _ _) | (with_reducible assumption) | (with_reducible refine Below.drew ?_) | (with_reducible refine below_drewN ?_ _) | ((with_reducible refine Below.setCell ?_ ?_ _); rotate_left; focus (first | (simp; done) | omega | (simp; omega))) | ((with_reducible refine Below.alloc ?_ ?_ _); rotate_left; focus (first | exact Nat.le_refl _ | omega | (simp; done) | (simp; omega)))))
                · have HE := Lib.hid (show v = z by rw [HV.out, hob]; rfl)
                  go_enter Try.func44, Try.ntmps44
                  go_wp2_with fail
                  refine (iDesignOk _ _ _ _).mono ?_
                  rintro e w1 ⟨rfl, hb1⟩
                  obtain ⟨hc1, hf1⟩ := keepc hb1
                  have hs1 : w.heap.size ≤ w1.heap.size := (by have := hb1.size; first | omega | (simp at this; omega))
                  have hz1a : w.heap.size < w1.heap.size := (by have := hb1.size; first | omega | (simp at this; omega))
                  have hz1b : w.heap.size + 1 < w1.heap.size := (by have := hb1.size; first | omega | (simp at this; omega))
                  have hz1c : w.heap.size + 1 + 1 < w1.heap.size := (by have := hb1.size; first | omega | (simp at this; omega))
                  have hB1 : Below w.heap.size w w1 := (by refine Below.trans ?_ (hb1.mono (by first | omega | (simp; done) | (simp; omega))); (repeat (first | (with_reducible exact Below.refl _ _) | (with_reducible assumption) | (with_reducible refine Below.drew ?_) | (with_reducible refine below_drewN ?_ _) | ((with_reducible refine Below.setCell ?_ ?_ _); rotate_left; focus (first | (simp; done) | omega | (simp; omega))) | ((with_reducible refine Below.alloc ?_ ?_ _); rotate_left; focus (first | exact Nat.le_refl _ | omega | (simp; done) | (simp; omega))))))
                  go_wp2_with fail
                  refine (within_any _ _ _ _).mono ?_
                  rintro e w' ⟨rfl, rfl⟩
                  go_wp2_with fail
                  refine (iFracOk _ _ _).mono ?_
                  rintro e w2 ⟨rfl, hb2⟩
                  obtain ⟨hc2, hf2⟩ := keepc hb2
                  have hs2 : w.heap.size ≤ w2.heap.size := (by have := hb2.size; first | omega | (simp at this; omega))
                  have hz2a : w.heap.size < w2.heap.size := (by have := hb2.size; first | omega | (simp at this; omega))
                  have hz2b : w.heap.size + 1 < w2.heap.size := (by have := hb2.size; first | omega | (simp at this; omega))
                  have hz2c : w.heap.size + 1 + 1 < w2.heap.size := (by have := hb2.size; first | omega | (simp at this; omega))
                  have hB2 : Below w.heap.size w w2 := (by refine Below.trans ?_ (hb2.mono (by first | omega | (simp; done) | (simp; omega))); (repeat (first | (with_reducible exact Below.refl _ _) | (with_reducible assumption) | (with_reducible refine Below.drew ?_) | (with_reducible refine below_drewN ?_ _) | ((with_reducible refine Below.setCell ?_ ?_ _); rotate_left; focus (first | (simp; done) | omega | (simp; omega))) | ((with_reducible refine Below.alloc ?_ ?_ _); rotate_left; focus (first | exact Nat.le_refl _ | omega | (simp; done) | (simp; omega))))))
                  go_wp2_with fail
                  refine (iFracNew r 10000 _).mono ?_
                  rw [← HRA.out]
                  rintro e w3 ⟨rfl, hb3⟩
                  obtain ⟨hc3, hf3⟩ := keepc hb3
                  have hs3 : w.heap.size ≤ w3.heap.size := (by have := hb3.size; first | omega | (simp at this; omega))
                  have hz3a : w.heap.size < w3.heap.size := (by have := hb3.size; first | omega | (simp at this; omega))
                  have hz3b : w.heap.size + 1 < w3.heap.size := (by have := hb3.size; first | omega | (simp at this; omega))
                  have hz3c : w.heap.size + 1 + 1 < w3.heap.size := (by have := hb3.size; first | omega | (simp at this; omega))
                  have hB3 : Below w.heap.size w w3 := (by refine Below.trans ?_ (hb3.mono (by first | omega | (simp; done) | (simp; omega))); (repeat (first | (with_reducible exact Below.refl _ _) | (with_reducible assumption) | (with_reducible refine Below.drew ?_) | (with_reducible refine below_drewN ?_ _) | ((with_reducible refine Below.setCell ?_ ?_ _); rotate_left; focus (first | (simp; done) | omega | (simp; omega))) | ((with_reducible refine Below.alloc ?_ ?_ _); rotate_left; focus (first | exact Nat.le_refl _ | omega | (simp; done) | (simp; omega))))))
                  go_wp2_with fail
                  refine (iFracNew _ 1200 _).mono ?_
                  rw [HY.out]
                  rw [← HYE.out]
                  rintro e w4 ⟨rfl, hb4⟩
                  obtain ⟨hc4, hf4⟩ := keepc hb4
                  have hs4 : w.heap.size ≤ w4.heap.size := (by have := hb4.size; first | omega | (simp at this; omega))
                  have hz4a : w.heap.size < w4.heap.size := (by have := hb4.size; first | omega | (simp at this; omega))
                  have hz4b : w.heap.size + 1 < w4.heap.size := (by have := hb4.size; first | omega | (simp at this; omega))
                  have hz4c : w.heap.size + 1 + 1 < w4.heap.size := (by have := hb4.size; first | omega | (simp at this; omega))
                  have hz4d : w3.heap.size < w4.heap.size := (by have := hb4.size; first | omega | (simp at this; omega))
                  have hB4 : Below w.heap.size w w4 := (by refine Below.trans ?_ (hb4.mono (by first | omega | (simp; done) | (simp; omega))); (repeat (first | (with_reducible exact Below.refl _ _) | (with_reducible assumption) | (with_reducible refine Below.drew ?_) | (with_reducible refine below_drewN ?_ _) | ((with_reducible refine Below.setCell ?_ ?_ _); rotate_left; focus (first | (simp; done) | omega | (simp; omega))) | ((with_reducible refine Below.alloc ?_ ?_ _); rotate_left; focus (first | exact Nat.le_refl _ | omega | (simp; done) | (simp; omega))))))
                  go_wp2_with fail
                  refine (iFracMul _ _ _ _ _).mono ?_
                  rw [← HX.out]
                  rintro e w5 ⟨rfl, hb5⟩
                  obtain ⟨hc5, hf5⟩ := keepc hb5
                  have hs5 : w.heap.size ≤ w5.heap.size := (by have := hb5.size; first | omega | (simp at this; omega))
                  have hz5a : w.heap.size < w5.heap.size := (by have := hb5.size; first | omega | (simp at this; omega))
                  have hz5b : w.heap.size + 1 < w5.heap.size := (by have := hb5.size; first | omega | (simp at this; omega))
                  have hz5c : w.heap.size + 1 + 1 < w5.heap.size := (by have := hb5.size; first | omega | (simp at this; omega))
                  have hz5d : w3.heap.size < w5.heap.size := (by have := hb5.size; first | omega | (simp at this; omega))
                  have hz5e : w4.heap.size < w5.heap.size := (by have := hb5.size; first | omega | (simp at this; omega))
                  have hB5 : Below w.heap.size w w5 := (by refine Below.trans ?_ (hb5.mono (by first | omega | (simp; done) | (simp; omega))); (repeat (first | (with_reducible exact Below.refl _ _) | (with_reducible assumption) | (with_reducible refine Below.drew ?_) | (with_reducible refine below_drewN ?_ _) | ((with_reducible refine Below.setCell ?_ ?_ _); rotate_left; focus (first | (simp; done) | omega | (simp; omega))) | ((with_reducible refine Below.alloc ?_ ?_ _); rotate_left; focus (first | exact Nat.le_refl _ | omega | (simp; done) | (simp; omega))))))
                  go_wp2_with fail
                  refine (iFracMul _ _ _ _ _).mono ?_
                  rw [← HZ.out]
                  rintro e w6 ⟨rfl, hb6⟩
                  obtain ⟨hc6, hf6⟩ := keepc hb6
                  have hs6 : w.heap.size ≤ w6.heap.size := (by have := hb6.size; first | omega | (simp at this; omega))
                  have hz6a : w.heap.size < w6.heap.size := (by have := hb6.size; first | omega | (simp at this; omega))
                  have hz6b : w.heap.size + 1 < w6.heap.size := (by have := hb6.size; first | omega | (simp at this; omega))
                  have hz6c : w.heap.size + 1 + 1 < w6.heap.size := (by have := hb6.size; first | omega | (simp at this; omega))
                  have hB6 : Below w.heap.size w w6 := (by refine Below.trans ?_ (hb6.mono (by first | omega | (simp; done) | (simp; omega))); (repeat (first | (with_reducible exact Below.refl _ _) | (with_reducible assumption) | (with_reducible refine Below.drew ?_) | (with_reducible refine below_drewN ?_ _) | ((with_reducible refine Below.setCell ?_ ?_ _); rotate_left; focus (first | (simp; done) | omega | (simp; omega))) | ((with_reducible refine Below.alloc ?_ ?_ _); rotate_left; focus (first | exact Nat.le_refl _ | omega | (simp; done) | (simp; omega))))))
                  have c0 : w6.cell? ⟨w.heap.size + 1 + 1, 0, none⟩ = some (.int .i64 0) := by rw [hc6 _ _ (by first | omega | (simp; done) | (simp; omega))] <;> simp [go_sem, *]
                  have f0 : w6.frozen? ⟨w.heap.size + 1 + 1, 0, none⟩ = false := by rw [hf6 _ _ (by first | omega | (simp; done) | (simp; omega))] <;> simp [go_sem, *]
                  have c1 : w6.cell? ⟨w.heap.size + 1 + 1, 1, none⟩ = some (.int .i64 0) := by rw [hc6 _ _ (by first | omega | (simp; done) | (simp; omega))] <;> simp [go_sem, *]
                  have f1 : w6.frozen? ⟨w.heap.size + 1 + 1, 1, none⟩ = false := by rw [hf6 _ _ (by first | omega | (simp; done) | (simp; omega))] <;> simp [go_sem, *]
                  go_wp2_with fail
                  refine bodyPost_ret (v := vOpt v) ?_ rfl ⟨rfl, ?_⟩
                  · rw [HE.out]
                    simp [results, Try.results44, go_sem, c0, c1]
                  · (repeat (first | (with_reducible exact Below.refl _ _) | (with_reducible assumption) | (with_reducible refine Below.drew ?_) | (with_reducible refine below_drewN ?_ _) | ((with_reducible refine Below.setCell ?_ ?_ _); rotate_left; focus (first | (simp; done) | omega | (simp; omega))) | ((with_reducible refine Below.alloc ?_ ?_ _); rotate_left; focus (first | exact Nat.le_refl _ | omega | (simp; done) | (simp; omega)))))
              · have HY := Lib.hid (show s = y by omega)
                clear hy
                cases hob : oB x
                · have HE := Lib.hid (show v = none by rw [HV.out, hob]; rfl)
                  go_enter Try.func44, Try.ntmps44
                  go_wp2_with fail
                  refine (iDesignOk _ _ _ _).mono ?_
                  rintro e w1 ⟨rfl, hb1⟩
                  obtain ⟨hc1, hf1⟩ := keepc hb1
                  have hs1 : w.heap.size ≤ w1.heap.size := (by have := hb1.size; first | omega | (simp at this; omega))
                  have hz1a : w.heap.size < w1.heap.size := (by have := hb1.size; first | omega | (simp at this; omega))
                  have hz1b : w.heap.size + 1 < w1.heap.size := (by have := hb1.size; first | omega | (simp at this; omega))
                  have hz1c : w.heap.size + 1 + 1 < w1.heap.size := (by have := hb1.size; first | omega | (simp at this; omega))
                  have hB1 : Below w.heap.size w w1 := (by refine Below.trans ?_ (hb1.mono (by first | omega | (simp; done) | (simp; omega))); (repeat (first | (with_reducible exact Below.refl _ _) | (with_reducible assumption) | (with_reducible refine Below.drew ?_) | (with_reducible refine below_drewN ?_ _) | ((with_reducible refine Below.setCell ?_ ?_ _); rotate_left; focus (first | (simp; done) | omega | (simp; omega))) | ((with_reducible refine Below.alloc ?_ ?_ _); rotate_left; focus (first | exact Nat.le_refl _ | omega | (simp; done) | (simp; omega))))))
                  go_wp2_with fail
                  refine (within_any _ _ _ _).mono ?_
                  rintro e w' ⟨rfl, rfl⟩
                  go_wp2_with fail
                  refine (iFracOk _ _ _).mono ?_
                  rintro e w2 ⟨rfl, hb2⟩
                  obtain ⟨hc2, hf2⟩ := keepc hb2
                  have hs2 : w.heap.size ≤ w2.heap.size := (by have := hb2.size; first | omega | (simp at this; omega))
                  have hz2a : w.heap.size < w2.heap.size := (by have := hb2.size; first | omega | (simp at this; omega))
                  have hz2b : w.heap.size + 1 < w2.heap.size := (by have := hb2.size; first | omega | (simp at this; omega))
                  have hz2c : w.heap.size + 1 + 1 < w2.heap.size := (by have := hb2.size; first | omega | (simp at this; omega))
                  have hB2 : Below w.heap.size w w2 := (by refine Below.trans ?_ (hb2.mono (by first | omega | (simp; done) | (simp; omega))); (repeat (first | (with_reducible exact Below.refl _ _) | (with_reducible assumption) | (with_reducible refine Below.drew ?_) | (with_reducible refine below_drewN ?_ _) | ((with_reducible refine Below.setCell ?_ ?_ _); rotate_left; focus (first | (simp; done) | omega | (simp; omega))) | ((with_reducible refine Below.alloc ?_ ?_ _); rotate_left; focus (first | exact Nat.le_refl _ | omega | (simp; done) | (simp; omega))))))
                  go_wp2_with fail
                  refine (iFracNew r 10000 _).mono ?_
                  rw [← HRA.out]
                  rintro e w3 ⟨rfl, hb3⟩
                  obtain ⟨hc3, hf3⟩ := keepc hb3
                  have hs3 : w.heap.size ≤ w3.heap.size := (by have := hb3.size; first | omega | (simp at this; omega))
                  have hz3a : w.heap.size < w3.heap.size := (by have := hb3.size; first | omega | (simp at this; omega))
                  have hz3b : w.heap.size + 1 < w3.heap.size := (by have := hb3.size; first | omega | (simp at this; omega))
                  have hz3c : w.heap.size + 1 + 1 < w3.heap.size := (by have := hb3.size; first | omega | (simp at this; omega))
                  have hB3 : Below w.heap.size w w3 := (by refine Below.trans ?_ (hb3.mono (by first | omega | (simp; done) | (simp; omega))); (repeat (first | (with_reducible exact Below.refl _ _) | (with_reducible assumption) | (with_reducible refine Below.drew ?_) | (with_reducible refine below_drewN ?_ _) | ((with_reducible refine Below.setCell ?_ ?_ _); rotate_left; focus (first | (simp; done) | omega | (simp; omega))) | ((with_reducible refine Below.alloc ?_ ?_ _); rotate_left; focus (first | exact Nat.le_refl _ | omega | (simp; done) | (simp; omega))))))
                  go_wp2_with fail
                  refine (iFracNew _ 1200 _).mono ?_
                  rw [HY.out]
                  rw [← HYE.out]
                  rintro e w4 ⟨rfl, hb4⟩
                  obtain ⟨hc4, hf4⟩ := keepc hb4
                  have hs4 : w.heap.size ≤ w4.heap.size := (by have := hb4.size; first | omega | (simp at this; omega))
                  have hz4a : w.heap.size < w4.heap.size := (by have := hb4.size; first | omega | (simp at this; omega))
                  have hz4b : w.heap.size + 1 < w4.heap.size := (by have := hb4.size; first | omega | (simp at this; omega))
                  have hz4c : w.heap.size + 1 + 1 < w4.heap.size := (by have := hb4.size; first | omega | (simp at this; omega))
                  have hz4d : w3.heap.size < w4.heap.size := (by have := hb4.size; first | omega | (simp at this; omega))
                  have hB4 : Below w.heap.size w w4 := (by refine Below.trans ?_ (hb4.mono (by first | omega | (simp; done) | (simp; omega))); (repeat (first | (with_reducible exact Below.refl _ _) | (with_reducible assumption) | (with_reducible refine Below.drew ?_) | (with_reducible refine below_drewN ?_ _) | ((with_reducible refine Below.setCell ?_ ?_ _); rotate_left; focus (first | (simp; done) | omega | (simp; omega))) | ((with_reducible refine Below.alloc ?_ ?_ _); rotate_left; focus (first | exact Nat.le_refl _ | omega | (simp; done) | (simp; omega))))))
                  go_wp2_with fail
                  refine (iFracMul _ _ _ _ _).mono ?_
                  rw [← HX.out]
                  rintro e w5 ⟨rfl, hb5⟩
                  obtain ⟨hc5, hf5⟩ := keepc hb5
                  have hs5 : w.heap.size ≤ w5.heap.size := (by have := hb5.size; first | omega | (simp at this; omega))
                  have hz5a : w.heap.size < w5.heap.size := (by have := hb5.size; first | omega | (simp at this; omega))
                  have hz5b : w.heap.size + 1 < w5.heap.size := (by have := hb5.size; first | omega | (simp at this; omega))
                  have hz5c : w.heap.size + 1 + 1 < w5.heap.size := (by have := hb5.size; first | omega | (simp at this; omega))
                  have hz5d : w3.heap.size < w5.heap.size := (by have := hb5.size; first | omega | (simp at this; omega))
                  have hz5e : w4.heap.size < w5.heap.size := (by have := hb5.size; first | omega | (simp at this; omega))
                  have hB5 : Below w.heap.size w w5 := (by refine Below.trans ?_ (hb5.mono (by first | omega | (simp; done) | (simp; omega))); (repeat (first | (with_reducible exact Below.refl _ _) | (with_reducible assumption) | (with_reducible refine Below.drew ?_) | (with_reducible refine below_drewN ?_ _) | ((with_reducible refine Below.setCell ?_ ?_ _); rotate_left; focus (first | (simp; done) | omega | (simp; omega))) | ((with_reducible refine Below.alloc ?_ ?_ _); rotate_left; focus (first | exact Nat.le_refl _ | omega | (simp; done) | (simp; omega))))))
                  have c0 : w5.cell? ⟨w.heap.size + 1 + 1, 0, none⟩ = some (.int .i64 0) := by rw [hc5 _ _ (by first | omega | (simp; done) | (simp; omega))] <;> simp [go_sem, *]
                  have f0 : w5.frozen? ⟨w.heap.size + 1 + 1, 0, none⟩ = false := by rw [hf5 _ _ (by first | omega | (simp; done) | (simp; omega))] <;> simp [go_sem, *]
                  have c1 : w5.cell? ⟨w.heap.size + 1 + 1, 1, none⟩ = some (.int .i64 0) := by rw [hc5 _ _ (by first | omega | (simp; done) | (simp; omega))] <;> simp [go_sem, *]
                  have f1 : w5.frozen? ⟨w.heap.size + 1 + 1, 1, none⟩ = false := by rw [hf5 _ _ (by first | omega | (simp; done) | (simp; omega))] <;> simp [go_sem, *]
                  go_wp2_with fail
                  refine bodyPost_ret (v := vOpt v) ?_ rfl ⟨rfl, ?_⟩
                  · rw [HE.out]
                    simp [results, Try.results44, go_sem, oN_none, oD_none, oB_none, c0, c1, hz5c]
                  · (repeat (first | (with_reducible exact Below.refl _ _) | (with_reducible assumption) | (with_reducible refine Below.drew ?_) | (with_reducible refine below_drewN ?_ _) | ((with_reducible refine Below.setCell ?_ ?_ _); rotate_left; focus (first | (simp; done) | omega | (simp; omega))) | ((with_reducible refine Below.alloc ?_ ?_ _); rotate_left; focus (first | exact Nat.le_refl _ | omega | (simp; done) | (simp; omega)))))
                · have HE := Lib.hid (show v = z by rw [HV.out, hob]; rfl)
                  go_enter Try.func44, Try.ntmps44
                  go_wp2_with fail
                  refine (iDesignOk _ _ _ _).mono ?_
                  rintro e w1 ⟨rfl, hb1⟩
                  obtain ⟨hc1, hf1⟩ := keepc hb1
                  have hs1 : w.heap.size ≤ w1.heap.size := (by have := hb1.size; first | omega | (simp at this; omega))
                  have hz1a : w.heap.size < w1.heap.size := (by have := hb1.size; first | omega | (simp at this; omega))
                  have hz1b : w.heap.size + 1 < w1.heap.size := (by have := hb1.size; first | omega | (simp at this; omega))
                  have hz1c : w.heap.size + 1 + 1 < w1.heap.size := (by have := hb1.size; first | omega | (simp at this; omega))
                  have hB1 : Below w.heap.size w w1 := (by refine Below.trans ?_ (hb1.mono (by first | omega | (simp; done) | (simp; omega))); (repeat (first | (with_reducible exact Below.refl _ _) | (with_reducible assumption) | (with_reducible refine Below.drew ?_) | (with_reducible refine below_drewN ?_ _) | ((with_reducible refine Below.setCell ?_ ?_ _); rotate_left; focus (first | (simp; done) | omega | (simp; omega))) | ((with_reducible refine Below.alloc ?_ ?_ _); rotate_left; focus (first | exact Nat.le_refl _ | omega | (simp; done) | (simp; omega))))))
                  go_wp2_with fail
                  refine (within_any _ _ _ _).mono ?_
                  rintro e w' ⟨rfl, rfl⟩
                  go_wp2_with fail
                  refine (iFracOk _ _ _).mono ?_
                  rintro e w2 ⟨rfl, hb2⟩
                  obtain ⟨hc2, hf2⟩ := keepc hb2
                  have hs2 : w.heap.size ≤ w2.heap.size := (by have := hb2.size; first | omega | (simp at this; omega))
                  have hz2a : w.heap.size < w2.heap.size := (by have := hb2.size; first | omega | (simp at this; omega))
                  have hz2b : w.heap.size + 1 < w2.heap.size := (by have := hb2.size; first | omega | (simp at this; omega))
                  have hz2c : w.heap.size + 1 + 1 < w2.heap.size := (by have := hb2.size; first | omega | (simp at this; omega))
                  have hB2 : Below w.heap.size w w2 := (by refine Below.trans ?_ (hb2.mono (by first | omega | (simp; done) | (simp; omega))); (repeat (first | (with_reducible exact Below.refl _ _) | (with_reducible assumption) | (with_reducible refine Below.drew ?_) | (with_reducible refine below_drewN ?_ _) | ((with_reducible refine Below.setCell ?_ ?_ _); rotate_left; focus (first | (simp; done) | omega | (simp; omega))) | ((with_reducible refine Below.alloc ?_ ?_ _); rotate_left; focus (first | exact Nat.le_refl _ | omega | (simp; done) | (simp; omega))))))
                  go_wp2_with fail
                  refine (iFracNew r 10000 _).mono ?_
                  rw [← HRA.out]
                  rintro e w3 ⟨rfl, hb3⟩
                  obtain ⟨hc3, hf3⟩ := keepc hb3
                  have hs3 : w.heap.size ≤ w3.heap.size := (by have := hb3.size; first | omega | (simp at this; omega))
                  have hz3a : w.heap.size < w3.heap.size := (by have := hb3.size; first | omega | (simp at this; omega))
                  have hz3b : w.heap.size + 1 < w3.heap.size := (by have := hb3.size; first | omega | (simp at this; omega))
                  have hz3c : w.heap.size + 1 + 1 < w3.heap.size := (by have := hb3.size; first | omega | (simp at this; omega))
                  have hB3 : Below w.heap.size w w3 := (by refine Below.trans ?_ (hb3.mono (by first | omega | (simp; done) | (simp; omega))); (repeat (first | (with_reducible exact Below.refl _ _) | (with_reducible assumption) | (with_reducible refine Below.drew ?_) | (with_reducible refine below_drewN ?_ _) | ((with_reducible refine Below.setCell ?_ ?_ _); rotate_left; focus (first | (simp; done) | omega | (simp; omega))) | ((with_reducible refine Below.alloc ?_ ?_ _); rotate_left; focus (first | exact Nat.le_refl _ | omega | (simp; done) | (simp; omega))))))
                  go_wp2_with fail
                  refine (iFracNew _ 1200 _).mono ?_
                  rw [HY.out]
                  rw [← HYE.out]
                  rintro e w4 ⟨rfl, hb4⟩
                  obtain ⟨hc4, hf4⟩ := keepc hb4
                  have hs4 : w.heap.size ≤ w4.heap.size := (by have := hb4.size; first | omega | (simp at this; omega))
                  have hz4a : w.heap.size < w4.heap.size := (by have := hb4.size; first | omega | (simp at this; omega))
                  have hz4b : w.heap.size + 1 < w4.heap.size := (by have := hb4.size; first | omega | (simp at this; omega))
                  have hz4c : w.heap.size + 1 + 1 < w4.heap.size := (by have := hb4.size; first | omega | (simp at this; omega))
                  have hz4d : w3.heap.size < w4.heap.size := (by have := hb4.size; first | omega | (simp at this; omega))
                  have hB4 : Below w.heap.size w w4 := (by refine Below.trans ?_ (hb4.mono (by first | omega | (simp; done) | (simp; omega))); (repeat (first | (with_reducible exact Below.refl _ _) | (with_reducible assumption) | (with_reducible refine Below.drew ?_) | (with_reducible refine below_drewN ?_ _) | ((with_reducible refine Below.setCell ?_ ?_ _); rotate_left; focus (first | (simp; done) | omega | (simp; omega))) | ((with_reducible refine Below.alloc ?_ ?_ _); rotate_left; focus (first | exact Nat.le_refl _ | omega | (simp; done) | (simp; omega))))))
                  go_wp2_with fail
                  refine (iFracMul _ _ _ _ _).mono ?_
                  rw [← HX.out]
                  rintro e w5 ⟨rfl, hb5⟩
                  obtain ⟨hc5, hf5⟩ := keepc hb5
                  have hs5 : w.heap.size ≤ w5.heap.size := (by have := hb5.size; first | omega | (simp at this; omega))
                  have hz5a : w.heap.size < w5.heap.size := (by have := hb5.size; first | omega | (simp at this; omega))
                  have hz5b : w.heap.size + 1 < w5.heap.size := (by have := hb5.size; first | omega | (simp at this; omega))
                  have hz5c : w.heap.size + 1 + 1 < w5.heap.size := (by have := hb5.size; first | omega | (simp at this; omega))
                  have hz5d : w3.heap.size < w5.heap.size := (by have := hb5.size; first | omega | (simp at this; omega))
                  have hz5e : w4.heap.size < w5.heap.size := (by have := hb5.size; first | omega | (simp at this; omega))
                  have hB5 : Below w.heap.size w w5 := (by refine Below.trans ?_ (hb5.mono (by first | omega | (simp; done) | (simp; omega))); (repeat (first | (with_reducible exact Below.refl _ _) | (with_reducible assumption) | (with_reducible refine Below.drew ?_) | (with_reducible refine below_drewN ?_ _) | ((with_reducible refine Below.setCell ?_ ?_ _); rotate_left; focus (first | (simp; done) | omega | (simp; omega))) | ((with_reducible refine Below.alloc ?_ ?_ _); rotate_left; focus (first | exact Nat.le_refl _ | omega | (simp; done) | (simp; omega))))))
                  go_wp2_with fail
                  refine (iFracMul _ _ _ _ _).mono ?_
                  rw [← HZ.out]
                  rintro e w6 ⟨rfl, hb6⟩
                  obtain ⟨hc6, hf6⟩ := keepc hb6
                  have hs6 : w.heap.size ≤ w6.heap.size := (by have := hb6.size; first | omega | (simp at this; omega))
                  have hz6a : w.heap.size < w6.heap.size := (by have := hb6.size; first | omega | (simp at this; omega))
                  have hz6b : w.heap.size + 1 < w6.heap.size := (by have := hb6.size; first | omega | (simp at this; omega))
                  have hz6c : w.heap.size + 1 + 1 < w6.heap.size := (by have := hb6.size; first | omega | (simp at this; omega))
                  have hB6 : Below w.heap.size w w6 := (by refine Below.trans ?_ (hb6.mono (by first | omega | (simp; done) | (simp; omega))); (repeat (first | (with_reducible exact Below.refl _ _) | (with_reducible assumption) | (with_reducible refine Below.drew ?_) | (with_reducible refine below_drewN ?_ _) | ((with_reducible refine Below.setCell ?_ ?_ _); rotate_left; focus (first | (simp; done) | omega | (simp; omega))) | ((with_reducible refine Below.alloc ?_ ?_ _); rotate_left; focus (first | exact Nat.le_refl _ | omega | (simp; done) | (simp; omega))))))
                  have c0 : w6.cell? ⟨w.heap.size + 1 + 1, 0, none⟩ = some (.int .i64 0) := by rw [hc6 _ _ (by first | omega | (simp; done) | (simp; omega))] <;> simp [go_sem, *]
                  have f0 : w6.frozen? ⟨w.heap.size + 1 + 1, 0, none⟩ = false := by rw [hf6 _ _ (by first | omega | (simp; done) | (simp; omega))] <;> simp [go_sem, *]
                  have c1 : w6.cell? ⟨w.heap.size + 1 + 1, 1, none⟩ = some (.int .i64 0) := by rw [hc6 _ _ (by first | omega | (simp; done) | (simp; omega))] <;> simp [go_sem, *]
                  have f1 : w6.frozen? ⟨w.heap.size + 1 + 1, 1, none⟩ = false := by rw [hf6 _ _ (by first | omega | (simp; done) | (simp; omega))] <;> simp [go_sem, *]
                  go_wp2_with fail
                  refine bodyPost_ret (v := vOpt v) ?_ rfl ⟨rfl, ?_⟩
                  · rw [HE.out]
                    simp [results, Try.results44, go_sem, c0, c1]
                  · (repeat (first | (with_reducible exact Below.refl _ _) | (with_reducible assumption) | (with_reducible refine Below.drew ?_) | (with_reducible refine below_drewN ?_ _) | ((with_reducible refine Below.setCell ?_ ?_ _); rotate_left; focus (first | (simp; done) | omega | (simp; omega))) | ((with_reducible refine Below.alloc ?_ ?_ _); rotate_left; focus (first | exact Nat.le_refl _ | omega | (simp; done) | (simp; omega)))))
            · have e0 : v = none := by rw [hv, if_neg (by simp [accInL, t1, t3, t4, t5])]
              rw [e0]
              clear e0 hv v
              go_enter Try.func44, Try.ntmps44
              go_wp2_with fail
              refine (iDesignOk _ _ _ _).mono ?_
              rintro e w1 ⟨rfl, hb1⟩
              obtain ⟨hc1, hf1⟩ := keepc hb1
              have hs1 : w.heap.size ≤ w1.heap.size := (by have := hb1.size; first | omega | (simp at this; omega))
              have hz1a : w.heap.size < w1.heap.size := (by have := hb1.size; first | omega | (simp at this; omega))
              have hz1b : w.heap.size + 1 < w1.heap.size := (by have := hb1.size; first | omega | (simp at this; omega))
              have hz1c : w.heap.size + 1 + 1 < w1.heap.size := (by have := hb1.size; first | omega | (simp at this; omega))
              have hB1 : Below w.heap.size w w1 := (by refine Below.trans ?_ (hb1.mono (by first | omega | (simp; done) | (simp; omega))); (repeat (first | (with_reducible exact Below.refl _ _) | (with_reducible assumption) | (with_reducible refine Below.drew ?_) | (with_reducible refine below_drewN ?_ _) | ((with_reducible refine Below.setCell ?_ ?_ _); rotate_left; focus (first | (simp; done) | omega | (simp; omega))) | ((with_reducible refine Below.alloc ?_ ?_ _); rotate_left; focus (first | exact Nat.le_refl _ | omega | (simp; done) | (simp; omega))))))
              go_wp2_with fail
              refine (within_any _ _ _ _).mono ?_
              rintro e w' ⟨rfl, rfl⟩
              go_wp2_with fail
              refine (iFracOk _ _ _).mono ?_
              rintro e w2 ⟨rfl, hb2⟩
              obtain ⟨hc2, hf2⟩ := keepc hb2
              have hs2 : w.heap.size ≤ w2.heap.size := (by have := hb2.size; first | omega | (simp at this; omega))
              have hz2a : w.heap.size < w2.heap.size := (by have := hb2.size; first | omega | (simp at this; omega))
              have hz2b : w.heap.size + 1 < w2.heap.size := (by have := hb2.size; first | omega | (simp at this; omega))
              have hz2c : w.heap.size + 1 + 1 < w2.heap.size := (by have := hb2.size; first | omega | (simp at this; omega))
              have hB2 : Below w.heap.size w w2 := (by refine Below.trans ?_ (hb2.mono (by first | omega | (simp; done) | (simp; omega))); (repeat (first | (with_reducible exact Below.refl _ _) | (with_reducible assumption) | (with_reducible refine Below.drew ?_) | (with_reducible refine below_drewN ?_ _) | ((with_reducible refine Below.setCell ?_ ?_ _); rotate_left; focus (first | (simp; done) | omega | (simp; omega))) | ((with_reducible refine Below.alloc ?_ ?_ _); rotate_left; focus (first | exact Nat.le_refl _ | omega | (simp; done) | (simp; omega))))))
              go_wp2_with fail
              refine bodyPost_ret (v := vOpt none) ?_ rfl ⟨rfl, ?_⟩
              · simp [results, Try.results44, go_sem, oN_none, oD_none, oB_none, *]
              · (repeat (first | (with_reducible exact Below.refl _ _) | (with_reducible assumption) | (with_reducible refine Below.drew ?_) | (with_reducible refine below_drewN ?_ _) | ((with_reducible refine Below.setCell ?_ ?_ _); rotate_left; focus (first | (simp; done) | omega | (simp; omega))) | ((with_reducible refine Below.alloc ?_ ?_ _); rotate_left; focus (first | exact Nat.le_refl _ | omega | (simp; done) | (simp; omega)))))
      · cases t3 : inB s 0 72000
        · have e0 : v = none := by rw [hv, if_neg (by simp [accInL, t1, t3])]
          rw [e0]
          clear e0 hv v
          go_enter Try.func44, Try.ntmps44
          go_wp2_with fail
          refine (iDesignOk _ _ _ _).mono ?_
          rintro e w1 ⟨rfl, hb1⟩
          obtain ⟨hc1, hf1⟩ := keepc hb1
          have hs1 : w.heap.size ≤ w1.heap.size := (by have := hb1.size; first | omega | (simp at this; omega))
          have hz1a : w.heap.size < w1.heap.size := (by have := hb1.size; first | omega | (simp at this; omega))
          have hz1b : w.heap.size + 1 < w1.heap.size := (by have := hb1.size; first | omega | (simp at this; omega))
          have hz1c : w.heap.size + 1 + 1 < w1.heap.size := (by have := hb1.size; first | omega | (simp at this; omega))
          have hB1 : Below w.heap.size w w1 := (by refine Below.trans ?_ (hb1.mono (by first | omega | (simp; done) | (simp; omega))); (repeat (first | (with_reducible exact Below.refl _ _) | (with_reducible assumption) | (with_reducible refine Below.drew ?_) | (with_reducible refine below_drewN ?_ _) | ((with_reducible refine Below.setCell ?_ ?_ _); rotate_left; focus (first | (simp; done) | omega | (simp; omega))) | ((with_reducible refine Below.alloc ?_ ?_ _); rotate_left; focus (first | exact Nat.le_refl _ | omega | (simp; done) | (simp; omega))))))
          go_wp2_with fail
          refine (within_any _ _ _ _).mono ?_
          rintro e w' ⟨rfl, rfl⟩
          go_wp2_with fail
          refine bodyPost_ret (v := vOpt none) ?_ rfl ⟨rfl, ?_⟩
          · simp [results, Try.results44, go_sem, oN_none, oD_none, oB_none, *]
          · (repeat (first | (with_reducible exact Below.refl _ _) | (with_reducible assumption) | (with_reducible refine Below.drew ?_) | (with_reducible refine below_drewN ?_ _) | ((with_reducible refine Below.setCell ?_ ?_ _); rotate_left; focus (first | (simp; done) | omega | (simp; omega))) | ((with_reducible refine Below.alloc ?_ ?_ _); rotate_left; focus (first | exact Nat.le_refl _ | omega | (simp; done) | (simp; omega)))))
        · cases t4 : fracOkL (n, d)
          · have e0 : v = none := by rw [hv, if_neg (by simp [accInL, t1, t3, t4])]
            rw [e0]
            clear e0 hv v
            go_enter Try.func44, Try.ntmps44
            go_wp2_with fail
            refine (iDesignOk _ _ _ _).mono ?_
            rintro e w1 ⟨rfl, hb1⟩
            obtain ⟨hc1, hf1⟩ := keepc hb1
            have hs1 : w.heap.size ≤ w1.heap.size := (by have := hb1.size; first | omega | (simp at this; omega))
            have hz1a : w.heap.size < w1.heap.size := (by have := hb1.size; first | omega | (simp at this; omega))
            have hz1b : w.heap.size + 1 < w1.heap.size := (by have := hb1.size; first | omega | (simp at this; omega))
            have hz1c : w.heap.size + 1 + 1 < w1.heap.size := (by have := hb1.size; first | omega | (simp at this; omega))
            have hB1 : Below w.heap.size w w1 := (by refine Below.trans ?_ (hb1.mono (by first | omega | (simp; done) | (simp; omega))); (repeat (first | (with_reducible exact Below.refl _ _) | (with_reducible assumption) | (with_reducible refine Below.drew ?_) | (with_reducible refine below_drewN ?_ _) | ((with_reducible refine Below.setCell ?_ ?_ _); rotate_left; focus (first | (simp; done) | omega | (simp; omega))) | ((with_reducible refine Below.alloc ?_ ?_ _); rotate_left; focus (first | exact Nat.le_refl _ | omega | (simp; done) | (simp; omega))))))
            go_wp2_with fail
            refine (within_any _ _ _ _).mono ?_
            rintro e w' ⟨rfl, rfl⟩
            go_wp2_with fail
            refine (iFracOk _ _ _).mono ?_
            rintro e w2 ⟨rfl, hb2⟩
            obtain ⟨hc2, hf2⟩ := keepc hb2
            have hs2 : w.heap.size ≤ w2.heap.size := (by have := hb2.size; first | omega | (simp at this; omega))
            have hz2a : w.heap.size < w2.heap.size := (by have := hb2.size; first | omega | (simp at this; omega))
            have hz2b : w.heap.size + 1 < w2.heap.size := (by have := hb2.size; first | omega | (simp at this; omega))
            have hz2c : w.heap.size + 1 + 1 < w2.heap.size := (by have := hb2.size; first | omega | (simp at this; omega))
            have hB2 : Below w.heap.size w w2 := (by refine Below.trans ?_ (hb2.mono (by first | omega | (simp; done) | (simp; omega))); (repeat (first | (with_reducible exact Below.refl _ _) | (with_reducible assumption) | (with_reducible refine Below.drew ?_) | (with_reducible refine below_drewN ?_ _) | ((with_reducible refine Below.setCell ?_ ?_ _); rotate_left; focus (first | (simp; done) | omega | (simp; omega))) | ((with_reducible refine Below.alloc ?_ ?_ _); rotate_left; focus (first | exact Nat.le_refl _ | omega | (simp; done) | (simp; omega))))))
            go_wp2_with fail
            refine bodyPost_ret (v := vOpt none) ?_ rfl ⟨rfl, ?_⟩
            · simp [results, Try.results44, go_sem, oN_none, oD_none, oB_none, *]
            · (repeat (first | (with_reducible exact Below.refl _ _) | (with_reducible assumption) | (with_reducible refine Below.drew ?_) | (with_reducible refine below_drewN ?_ _) | ((with_reducible refine Below.setCell ?_ ?_ _); rotate_left; focus (first | (simp; done) | omega | (simp; omega))) | ((with_reducible refine Below.alloc ?_ ?_ _); rotate_left; focus (first | exact Nat.le_refl _ | omega | (simp; done) | (simp; omega)))))
          · cases t5 : decide (n < 0)
            · have hv2 : v = accYes r c s n d := by rw [hv, if_pos (by simp [accInL, t1, t3, t4, t5])]
              clear hv
              obtain ⟨y, hy⟩ : ∃ y, y = min s (1200 * c) := ⟨_, rfl⟩
              unfold accYes at hv2
              rw [← hy] at hv2
              obtain ⟨ra, hra⟩ : ∃ ra, ra = fracNewL r 10000 := ⟨_, rfl⟩
              rw [← hra] at hv2
              obtain ⟨ye, hye⟩ : ∃ ye, ye = fracNewL y 1200 := ⟨_, rfl⟩
              rw [← hye] at hv2
              obtain ⟨x, hx⟩ : ∃ x, x = mulL (n, d) (oN ra, oD ra) := ⟨_, rfl⟩
              rw [← hx] at hv2
              obtain ⟨z, hz⟩ : ∃ z, z = mulL (oN x, oD x) (oN ye, oD ye) := ⟨_, rfl⟩
              rw [← hz] at hv2
              have HRA := Lib.hid hra
              have HYE := Lib.hid hye
              have HX := Lib.hid hx
              have HZ := Lib.hid hz
              have HV := Lib.hid hv2
              have hc := hdk.2.2.2.2 (by omega)
              obtain ⟨hc1, hc2⟩ := hc
              have hs0 := inB_iff.1 t3
              obtain ⟨hs1, hs2⟩ := hs0
              clear hra hye hx hz hv2 hdk
              by_cases hm : 1200 * c < s
              · have HY := Lib.hid (show (1200 * c : Int) = y by omega)
                clear hy
                cases hob : oB x
                · have HE := Lib.hid (show v = none by rw [HV.out, hob]; rfl)
                  go_enter Try.func44, Try.ntmps44
                  go_wp2_with fail
                  refine (iDesignOk _ _ _ _).mono ?_
                  rintro e w1 ⟨rfl, hb1⟩
                  obtain ⟨hc1, hf1⟩ := keepc hb1
                  have hs1 : w.heap.size ≤ w1.heap.size := (by have := hb1.size; first | omega | (simp at this; omega))
                  have hz1a : w.heap.size < w1.heap.size := (by have := hb1.size; first | omega | (simp at this; omega))
                  have hz1b : w.heap.size + 1 < w1.heap.size := (by have := hb1.size; first | omega | (simp at this; omega))
                  have hz1c : w.heap.size + 1 + 1 < w1.heap.size := (by have := hb1.size; first | omega | (simp at this; omega))
                  have hB1 : Below w.heap.size w w1 := (by refine Below.trans ?_ (hb1.mono (by first | omega | (simp; done) | (simp; omega))); (repeat (first | (with_reducible exact Below.refl _ _) | (with_reducible assumption) | (with_reducible refine Below.drew ?_) | (with_reducible refine below_drewN ?_ _) | ((with_reducible refine Below.setCell ?_ ?_ _); rotate_left; focus (first | (simp; done) | omega | (simp; omega))) | ((with_reducible refine Below.alloc ?_ ?_ _); rotate_left; focus (first | exact Nat.le_refl _ | omega | (simp; done) | (simp; omega))))))
                  go_wp2_with fail
                  refine (within_any _ _ _ _).mono ?_
                  rintro e w' ⟨rfl, rfl⟩
                  go_wp2_with fail
                  refine (iFracOk _ _ _).mono ?_
                  rintro e w2 ⟨rfl, hb2⟩
                  obtain ⟨hc2, hf2⟩ := keepc hb2
                  have hs2 : w.heap.size ≤ w2.heap.size := (by have := hb2.size; first | omega | (simp at this; omega))
                  have hz2a : w.heap.size < w2.heap.size := (by have := hb2.size; first | omega | (simp at this; omega))
                  have hz2b : w.heap.size + 1 < w2.heap.size := (by have := hb2.size; first | omega | (simp at this; omega))
                  have hz2c : w.heap.size + 1 + 1 < w2.heap.size := (by have := hb2.size; first | omega | (simp at this; omega))
                  have hB2 : Below w.heap.size w w2 := (by refine Below.trans ?_ (hb2.mono (by first | omega | (simp; done) | (simp; omega))); (repeat (first | (with_reducible exact Below.refl _ _) | (with_reducible assumption) | (with_reducible refine Below.drew ?_) | (with_reducible refine below_drewN ?_ _) | ((with_reducible refine Below.setCell ?_ ?_ _); rotate_left; focus (first | (simp; done) | omega | (simp; omega))) | ((with_reducible refine Below.alloc ?_ ?_ _); rotate_left; focus (first | exact Nat.le_refl _ | omega | (simp; done) | (simp; omega))))))
                  go_wp2_with fail
                  refine (iFracNew r 10000 _).mono ?_
                  rw [← HRA.out]
                  rintro e w3 ⟨rfl, hb3⟩
                  obtain ⟨hc3, hf3⟩ := keepc hb3
                  have hs3 : w.heap.size ≤ w3.heap.size := (by have := hb3.size; first | omega | (simp at this; omega))
                  have hz3a : w.heap.size < w3.heap.size := (by have := hb3.size; first | omega | (simp at this; omega))
                  have hz3b : w.heap.size + 1 < w3.heap.size := (by have := hb3.size; first | omega | (simp at this; omega))
                  have hz3c : w.heap.size + 1 + 1 < w3.heap.size := (by have := hb3.size; first | omega | (simp at this; omega))
                  have hB3 : Below w.heap.size w w3 := (by refine Below.trans ?_ (hb3.mono (by first | omega | (simp; done) | (simp; omega))); (repeat (first | (with_reducible exact Below.refl _ _) | (with_reducible assumption) | (with_reducible refine Below.drew ?_) | (with_reducible refine below_drewN ?_ _) | ((with_reducible refine Below.setCell ?_ ?_ _); rotate_left; focus (first | (simp; done) | omega | (simp; omega))) | ((with_reducible refine Below.alloc ?_ ?_ _); rotate_left; focus (first | exact Nat.le_refl _ | omega | (simp; done) | (simp; omega))))))
                  go_wp2_with fail
                  refine (iFracNew _ 1200 _).mono ?_
                  rw [HY.out]
                  rw [← HYE.out]
                  rintro e w4 ⟨rfl, hb4⟩
                  obtain ⟨hc4, hf4⟩ := keepc hb4
                  have hs4 : w.heap.size ≤ w4.heap.size := (by have := hb4.size; first | omega | (simp at this; omega))
                  have hz4a : w.heap.size < w4.heap.size := (by have := hb4.size; first | omega | (simp at this; omega))
                  have hz4b : w.heap.size + 1 < w4.heap.size := (by have := hb4.size; first | omega | (simp at this; omega))
                  have hz4c : w.heap.size + 1 + 1 < w4.heap.size := (by have := hb4.size; first | omega | (simp at this; omega))
                  have hz4d : w3.heap.size < w4.heap.size := (by have := hb4.size; first | omega | (simp at this; omega))
                  have hB4 : Below w.heap.size w w4 := (by refine Below.trans ?_ (hb4.mono (by first | omega | (simp; done) | (simp; omega))); (repeat (first | (with_reducible exact Below.refl _ _) | (with_reducible assumption) | (with_reducible refine Below.drew ?_) | (with_reducible refine below_drewN ?_ _) | ((with_reducible refine Below.setCell ?_ ?_ _); rotate_left; focus (first | (simp; done) | omega | (simp; omega))) | ((with_reducible refine Below.alloc ?_ ?_ _); rotate_left; focus (first | exact Nat.le_refl _ | omega | (simp; done) | (simp; omega))))))
                  go_wp2_with fail
                  refine (iFracMul _ _ _ _ _).mono ?_
                  rw [← HX.out]
                  rintro e w5 ⟨rfl, hb5⟩
                  obtain ⟨hc5, hf5⟩ := keepc hb5
                  have hs5 : w.heap.size ≤ w5.heap.size := (by have := hb5.size; first | omega | (simp at this; omega))
                  have hz5a : w.heap.size < w5.heap.size := (by have := hb5.size; first | omega | (simp at this; omega))
                  have hz5b : w.heap.size + 1 < w5.heap.size := (by have := hb5.size; first | omega | (simp at this; omega))
                  have hz5c : w.heap.size + 1 + 1 < w5.heap.size := (by have := hb5.size; first | omega | (simp at this; omega))
                  have hz5d : w3.heap.size < w5.heap.size := (by have := hb5.size; first | omega | (simp at this; omega))
                  have hz5e : w4.heap.size < w5.heap.size := (by have := hb5.size; first | omega | (simp at this; omega))
                  have hB5 : Below w.heap.size w w5 := (by refine Below.trans ?_ (hb5.mono (by first | omega | (simp; done) | (simp; omega))); (repeat (first | (with_reducible exact Below.refl _ _) | (with_reducible assumption) | (with_reducible refine Below.drew ?_) | (with_reducible refine below_drewN ?_ _) | ((with_reducible refine Below.setCell ?_ ?_ _); rotate_left; focus (first | (simp; done) | omega | (simp; omega))) | ((with_reducible refine Below.alloc ?_ ?_ _); rotate_left; focus (first | exact Nat.le_refl _ | omega | (simp; done) | (simp; omega))))))
                  have c0 : w5.cell? ⟨w.heap.size + 1 + 1, 0, none⟩ = some (.int .i64 0) := by rw [hc5 _ _ (by first | omega | (simp; done) | (simp; omega))] <;> simp [go_sem, *]
                  have f0 : w5.frozen? ⟨w.heap.size + 1 + 1, 0, none⟩ = false := by rw [hf5 _ _ (by first | omega | (simp; done) | (simp; omega))] <;> simp [go_sem, *]
                  have c1 : w5.cell? ⟨w.heap.size + 1 + 1, 1, none⟩ = some (.int .i64 0) := by rw [hc5 _ _ (by first | omega | (simp; done) | (simp; omega))] <;> simp [go_sem, *]
                  have f1 : w5.frozen? ⟨w.heap.size + 1 + 1, 1, none⟩ = false := by rw [hf5 _ _ (by first | omega | (simp; done) | (simp; omega))] <;> simp [go_sem, *]
                  go_wp2_with fail
                  refine bodyPost_ret (v := vOpt v) ?_ rfl ⟨rfl, ?_⟩
                  · rw [HE.out]
                    simp [results, Try.results44, go_sem, oN_none, oD_none, oB_none, c0, c1, hz5c]
                  · (repeat (first | (with_reducible exact Below.refl _ _) | (with_reducible assumption) | (with_reducible refine Below.drew ?_) | (with_reducible refine below_drewN ?_ _) | ((with_reducible refine Below.setCell ?_ ?_ _); rotate_left; focus (first | (simp; done) | omega | (simp; omega))) | ((with_reducible refine Below.alloc ?_ ?_ _); rotate_left; focus (first | exact Nat.le_refl _ | omega | (simp; done) | (simp; omega)))))
                · have HE := Lib.hid (show v = z by rw [HV.out, hob]; rfl)
                  go_enter Try.func44, Try.ntmps44
                  go_wp2_with fail
                  refine (iDesignOk _ _ _ _).mono ?_
                  rintro e w1 ⟨rfl, hb1⟩
                  obtain ⟨hc1, hf1⟩ := keepc hb1
                  have hs1 : w.heap.size ≤ w1.heap.size := (by have := hb1.size; first | omega | (simp at this; omega))
                  have hz1a : w.heap.size < w1.heap.size := (by have := hb1.size; first | omega | (simp at this; omega))
                  have hz1b : w.heap.size + 1 < w1.heap.size := (by have := hb1.size; first | omega | (simp at this; omega))
                  have hz1c : w.heap.size + 1 + 1 < w1.heap.size := (by have := hb1.size; first | omega | (simp at this; omega))
                  have hB1 : Below w.heap.size w w1 := (by refine Below.trans ?_ (hb1.mono (by first | omega | (simp; done) | (simp; omega))); (repeat (first | (with_reducible exact Below.refl _ _) | (with_reducible assumption) | (with_reducible refine Below.drew ?_) | (with_reducible refine below_drewN ?_ _) | ((with_reducible refine Below.setCell ?_ ?_ _); rotate_left; focus (first | (simp; done) | omega | (simp; omega))) | ((with_reducible refine Below.alloc ?_ ?_ _); rotate_left; focus (first | exact Nat.le_refl _ | omega | (simp; done) | (simp; omega))))))
                  go_wp2_with fail
                  refine (within_any _ _ _ _).mono ?_
                  rintro e w' ⟨rfl, rfl⟩
                  go_wp2_with fail
                  refine (iFracOk _ _ _).mono ?_
                  rintro e w2 ⟨rfl, hb2⟩
                  obtain ⟨hc2, hf2⟩ := keepc hb2
                  have hs2 : w.heap.size ≤ w2.heap.size := (by have := hb2.size; first | omega | (simp at this; omega))
                  have hz2a : w.heap.size < w2.heap.size := (by have := hb2.size; first | omega | (simp at this; omega))
                  have hz2b : w.heap.size + 1 < w2.heap.size := (by have := hb2.size; first | omega | (simp at this; omega))
                  have hz2c : w.heap.size + 1 + 1 < w2.heap.size := (by have := hb2.size; first | omega | (simp at this; omega))
                  have hB2 : Below w.heap.size w w2 := (by refine Below.trans ?_ (hb2.mono (by first | omega | (simp; done) | (simp; omega))); (repeat (first | (with_reducible exact Below.refl _ _) | (with_reducible assumption) | (with_reducible refine Below.drew ?_) | (with_reducible refine below_drewN ?_ _) | ((with_reducible refine Below.setCell ?_ ?_ _); rotate_left; focus (first | (simp; done) | omega | (simp; omega))) | ((with_reducible refine Below.alloc ?_ ?_ _); rotate_left; focus (first | exact Nat.le_refl _ | omega | (simp; done) | (simp; omega))))))
                  go_wp2_with fail
                  refine (iFracNew r 10000 _).mono ?_
                  rw [← HRA.out]
                  rintro e w3 ⟨rfl, hb3⟩
                  obtain ⟨hc3, hf3⟩ := keepc hb3
                  have hs3 : w.heap.size ≤ w3.heap.size := (by have := hb3.size; first | omega | (simp at this; omega))
                  have hz3a : w.heap.size < w3.heap.size := (by have := hb3.size; first | omega | (simp at this; omega))
                  have hz3b : w.heap.size + 1 < w3.heap.size := (by have := hb3.size; first | omega | (simp at this; omega))
                  have hz3c : w.heap.size + 1 + 1 < w3.heap.size := (by have := hb3.size; first | omega | (simp at this; omega))
                  have hB3 : Below w.heap.size w w3 := (by refine Below.trans ?_ (hb3.mono (by first | omega | (simp; done) | (simp; omega))); (repeat (first | (with_reducible exact Below.refl _ _) | (with_reducible assumption) | (with_reducible refine Below.drew ?_) | (with_reducible refine below_drewN ?_ _) | ((with_reducible refine Below.setCell ?_ ?_ _); rotate_left; focus (first | (simp; done) | omega | (simp; omega))) | ((with_reducible refine Below.alloc ?_ ?_ _); rotate_left; focus (first | exact Nat.le_refl _ | omega | (simp; done) | (simp; omega))))))
                  go_wp2_with fail
                  refine (iFracNew _ 1200 _).mono ?_
                  rw [HY.out]
                  rw [← HYE.out]
                  rintro e w4 ⟨rfl, hb4⟩
                  obtain ⟨hc4, hf4⟩ := keepc hb4
                  have hs4 : w.heap.size ≤ w4.heap.size := (by have := hb4.size; first | omega | (simp at this; omega))
                  have hz4a : w.heap.size < w4.heap.size := (by have := hb4.size; first | omega | (simp at this; omega))
                  have hz4b : w.heap.size + 1 < w4.heap.size := (by have := hb4.size; first | omega | (simp at this; omega))
                  have hz4c : w.heap.size + 1 + 1 < w4.heap.size := (by have := hb4.size; first | omega | (simp at this; omega))
                  have hz4d : w3.heap.size < w4.heap.size := (by have := hb4.size; first | omega | (simp at this; omega))
                  have hB4 : Below w.heap.size w w4 := (by refine Below.trans ?_ (hb4.mono (by first | omega | (simp; done) | (simp; omega))); (repeat (first | (with_reducible exact Below.refl _ _) | (with_reducible assumption) | (with_reducible refine Below.drew ?_) | (with_reducible refine below_drewN ?_ _) | ((with_reducible refine Below.setCell ?_ ?_ _); rotate_left; focus (first | (simp; done) | omega | (simp; omega))) | ((with_reducible refine Below.alloc ?_ ?_ _); rotate_left; focus (first | exact Nat.le_refl _ | omega | (simp; done) | (simp; omega))))))
                  go_wp2_with fail
                  refine (iFracMul _ _ _ _ _).mono ?_
                  rw [← HX.out]
                  rintro e w5 ⟨rfl, hb5⟩
                  obtain ⟨hc5, hf5⟩ := keepc hb5
                  have hs5 : w.heap.size ≤ w5.heap.size := (by have := hb5.size; first | omega | (simp at this; omega))
                  have hz5a : w.heap.size < w5.heap.size := (by have := hb5.size; first | omega | (simp at this; omega))
                  have hz5b : w.heap.size + 1 < w5.heap.size := (by have := hb5.size; first | omega | (simp at this; omega))
                  have hz5c : w.heap.size + 1 + 1 < w5.heap.size := (by have := hb5.size; first | omega | (simp at this; omega))
                  have hz5d : w3.heap.size < w5.heap.size := (by have := hb5.size; first | omega | (simp at this; omega))
                  have hz5e : w4.heap.size < w5.heap.size := (by have := hb5.size; first | omega | (simp at this; omega))
                  have hB5 : Below w.heap.size w w5 := (by refine Below.trans ?_ (hb5.mono (by first | omega | (simp; done) | (simp; omega))); (repeat (first | (with_reducible exact Below.refl _ _) | (with_reducible assumption) | (with_reducible refine Below.drew ?_) | (with_reducible refine below_drewN ?_ _) | ((with_reducible refine Below.setCell ?_ ?_ _); rotate_left; focus (first | (simp; done) | omega | (simp; omega))) | ((with_reducible refine Below.alloc ?_ ?_ _); rotate_left; focus (first | exact Nat.le_refl _ | omega | (simp; done) | (simp; omega))))))
                  go_wp2_with fail
                  refine (iFracMul _ _ _ _ _).mono ?_
                  rw [← HZ.out]
                  rintro e w6 ⟨rfl, hb6⟩
                  obtain ⟨hc6, hf6⟩ := keepc hb6
                  have hs6 : w.heap.size ≤ w6.heap.size := (by have := hb6.size; first | omega | (simp at this; omega))
                  have hz6a : w.heap.size < w6.heap.size := (by have := hb6.size; first | omega | (simp at this; omega))
                  have hz6b : w.heap.size + 1 < w6.heap.size := (by have := hb6.size; first | omega | (simp at this; omega))
                  have hz6c : w.heap.size + 1 + 1 < w6.heap.size := (by have := hb6.size; first | omega | (simp at this; omega))
                  have hB6 : Below w.heap.size w w6 := (by refine Below.trans ?_ (hb6.mono (by first | omega | (simp; done) | (simp; omega))); (repeat (first | (with_reducible exact Below.refl _ _) | (with_reducible assumption) | (with_reducible refine Below.drew ?_) | (with_reducible refine below_drewN ?_ _) | ((with_reducible refine Below.setCell ?_ ?_ _); rotate_left; focus (first | (simp; done) | omega | (simp; omega))) | ((with_reducible refine Below.alloc ?_ ?_ _); rotate_left; focus (first | exact Nat.le_refl _ | omega | (simp; done) | (simp; omega))))))
                  have c0 : w6.cell? ⟨w.heap.size + 1 + 1, 0, none⟩ = some (.int .i64 0) := by rw [hc6 _ _ (by first | omega | (simp; done) | (simp; omega))] <;> simp [go_sem, *]
                  have f0 : w6.frozen? ⟨w.heap.size + 1 + 1, 0, none⟩ = false := by rw [hf6 _ _ (by first | omega | (simp; done) | (simp; omega))] <;> simp [go_sem, *]
                  have c1 : w6.cell? ⟨w.heap.size + 1 + 1, 1, none⟩ = some (.int .i64 0) := by rw [hc6 _ _ (by first | omega | (simp; done) | (simp; omega))] <;> simp [go_sem, *]
                  have f1 : w6.frozen? ⟨w.heap.size + 1 + 1, 1, none⟩ = false := by rw [hf6 _ _ (by first | omega | (simp; done) | (simp; omega))] <;> simp [go_sem, *]
                  go_wp2_with fail
                  refine bodyPost_ret (v := vOpt v) ?_ rfl ⟨rfl, ?_⟩
                  · rw [HE.out]
                    simp [results, Try.results44, go_sem, c0, c1]
                  · (repeat (first | (with_reducible exact Below.refl _ _) | (with_reducible assumption) | (with_reducible refine Below.drew ?_) | (with_reducible refine below_drewN ?_ _) | ((with_reducible refine Below.setCell ?_ ?_ _); rotate_left; focus (first | (simp; done) | omega | (simp; omega))) | ((with_reducible refine Below.alloc ?_ ?_ _); rotate_left; focus (first | exact Nat.le_refl _ | omega | (simp; done) | (simp; omega)))))
              · have HY := Lib.hid (show s = y by omega)
                clear hy
                cases hob : oB x
                · have HE := Lib.hid (show v = none by rw [HV.out, hob]; rfl)
                  go_enter Try.func44, Try.ntmps44
                  go_wp2_with fail
                  refine (iDesignOk _ _ _ _).mono ?_
                  rintro e w1 ⟨rfl, hb1⟩
                  obtain ⟨hc1, hf1⟩ := keepc hb1
                  have hs1 : w.heap.size ≤ w1.heap.size := (by have := hb1.size; first | omega | (simp at this; omega))
                  have hz1a : w.heap.size < w1.heap.size := (by have := hb1.size; first | omega | (simp at this; omega))
                  have hz1b : w.heap.size + 1 < w1.heap.size := (by have := hb1.size; first | omega | (simp at this; omega))
                  have hz1c : w.heap.size + 1 + 1 < w1.heap.size := (by have := hb1.size; first | omega | (simp at this; omega))
                  have hB1 : Below w.heap.size w w1 := (by refine Below.trans ?_ (hb1.mono (by first | omega | (simp; done) | (simp; omega))); (repeat (first | (with_reducible exact Below.refl _ _) | (with_reducible assumption) | (with_reducible refine Below.drew ?_) | (with_reducible refine below_drewN ?_ _) | ((with_reducible refine Below.setCell ?_ ?_ _); rotate_left; focus (first | (simp; done) | omega | (simp; omega))) | ((with_reducible refine Below.alloc ?_ ?_ _); rotate_left; focus (first | exact Nat.le_refl _ | omega | (simp; done) | (simp; omega))))))
                  go_wp2_with fail
                  refine (within_any _ _ _ _).mono ?_
                  rintro e w' ⟨rfl, rfl⟩
                  go_wp2_with fail
                  refine (iFracOk _ _ _).mono ?_
                  rintro e w2 ⟨rfl, hb2⟩
                  obtain ⟨hc2, hf2⟩ := keepc hb2
                  have hs2 : w.heap.size ≤ w2.heap.size := (by have := hb2.size; first | omega | (simp at this; omega))
                  have hz2a : w.heap.size < w2.heap.size := (by have := hb2.size; first | omega | (simp at this; omega))
                  have hz2b : w.heap.size + 1 < w2.heap.size := (by have := hb2.size; first | omega | (simp at this; omega))
                  have hz2c : w.heap.size + 1 + 1 < w2.heap.size := (by have := hb2.size; first | omega | (simp at this; omega))
                  have hB2 : Below w.heap.size w w2 := (by refine Below.trans ?_ (hb2.mono (by first | omega | (simp; done) | (simp; omega))); (repeat (first | (with_reducible exact Below.refl _ _) | (with_reducible assumption) | (with_reducible refine Below.drew ?_) | (with_reducible refine below_drewN ?_ _) | ((with_reducible refine Below.setCell ?_ ?_ _); rotate_left; focus (first | (simp; done) | omega | (simp; omega))) | ((with_reducible refine Below.alloc ?_ ?_ _); rotate_left; focus (first | exact Nat.le_refl _ | omega | (simp; done) | (simp; omega))))))
                  go_wp2_with fail
                  refine (iFracNew r 10000 _).mono ?_
                  rw [← HRA.out]
                  rintro e w3 ⟨rfl, hb3⟩
                  obtain ⟨hc3, hf3⟩ := keepc hb3
                  have hs3 : w.heap.size ≤ w3.heap.size := (by have := hb3.size; first | omega | (simp at this; omega))
                  have hz3a : w.heap.size < w3.heap.size := (by have := hb3.size; first | omega | (simp at this; omega))
                  have hz3b : w.heap.size + 1 < w3.heap.size := (by have := hb3.size; first | omega | (simp at this; omega))
                  have hz3c : w.heap.size + 1 + 1 < w3.heap.size := (by have := hb3.size; first | omega | (simp at this; omega))
                  have hB3 : Below w.heap.size w w3 := (by refine Below.trans ?_ (hb3.mono (by first | omega | (simp; done) | (simp; omega))); (repeat (first | (with_reducible exact Below.refl _ _) | (with_reducible assumption) | (with_reducible refine Below.drew ?_) | (with_reducible refine below_drewN ?_ _) | ((with_reducible refine Below.setCell ?_ ?_ _); rotate_left; focus (first | (simp; done) | omega | (simp; omega))) | ((with_reducible refine Below.alloc ?_ ?_ _); rotate_left; focus (first | exact Nat.le_refl _ | omega | (simp; done) | (simp; omega))))))
                  go_wp2_with fail
                  refine (iFracNew _ 1200 _).mono ?_
                  rw [HY.out]
                  rw [← HYE.out]
                  rintro e w4 ⟨rfl, hb4⟩
                  obtain ⟨hc4, hf4⟩ := keepc hb4
                  have hs4 : w.heap.size ≤ w4.heap.size := (by have := hb4.size; first | omega | (simp at this; omega))
                  have hz4a : w.heap.size < w4.heap.size := (by have := hb4.size; first | omega | (simp at this; omega))
                  have hz4b : w.heap.size + 1 < w4.heap.size := (by have := hb4.size; first | omega | (simp at this; omega))
                  have hz4c : w.heap.size + 1 + 1 < w4.heap.size := (by have := hb4.size; first | omega | (simp at this; omega))
                  have hz4d : w3.heap.size < w4.heap.size := (by have := hb4.size; first | omega | (simp at this; omega))
                  have hB4 : Below w.heap.size w w4 := (by refine Below.trans ?_ (hb4.mono (by first | omega | (simp; done) | (simp; omega))); (repeat (first | (with_reducible exact Below.refl _ _) | (with_reducible assumption) | (with_reducible refine Below.drew ?_) | (with_reducible refine below_drewN ?_ _) | ((with_reducible refine Below.setCell ?_ ?_ _); rotate_left; focus (first | (simp; done) | omega | (simp; omega))) | ((with_reducible refine Below.alloc ?_ ?_ _); rotate_left; focus (first | exact Nat.le_refl _ | omega | (simp; done) | (simp; omega))))))
                  go_wp2_with fail
                  refine (iFracMul _ _ _ _ _).mono ?_
                  rw [← HX.out]
                  rintro e w5 ⟨rfl, hb5⟩
                  obtain ⟨hc5, hf5⟩ := keepc hb5
                  have hs5 : w.heap.size ≤ w5.heap.size := (by have := hb5.size; first | omega | (simp at this; omega))
                  have hz5a : w.heap.size < w5.heap.size := (by have := hb5.size; first | omega | (simp at this; omega))
                  have hz5b : w.heap.size + 1 < w5.heap.size := (by have := hb5.size; first | omega | (simp at this; omega))
                  have hz5c : w.heap.size + 1 + 1 < w5.heap.size := (by have := hb5.size; first | omega | (simp at this; omega))
                  have hz5d : w3.heap.size < w5.heap.size := (by have := hb5.size; first | omega | (simp at this; omega))
                  have hz5e : w4.heap.size < w5.heap.size := (by have := hb5.size; first | omega | (simp at this; omega))
                  have hB5 : Below w.heap.size w w5 := (by refine Below.trans ?_ (hb5.mono (by first | omega | (simp; done) | (simp; omega))); (repeat (first | (with_reducible exact Below.refl _ _) | (with_reducible assumption) | (with_reducible refine Below.drew ?_) | (with_reducible refine below_drewN ?_ _) | ((with_reducible refine Below.setCell ?_ ?_ _); rotate_left; focus (first | (simp; done) | omega | (simp; omega))) | ((with_reducible refine Below.alloc ?_ ?_ _); rotate_left; focus (first | exact Nat.le_refl _ | omega | (simp; done) | (simp; omega))))))
                  have c0 : w5.cell? ⟨w.heap.size + 1 + 1, 0, none⟩ = some (.int .i64 0) := by rw [hc5 _ _ (by first | omega | (simp; done) | (simp; omega))] <;> simp [go_sem, *]
                  have f0 : w5.frozen? ⟨w.heap.size + 1 + 1, 0, none⟩ = false := by rw [hf5 _ _ (by first | omega | (simp; done) | (simp; omega))] <;> simp [go_sem, *]
                  have c1 : w5.cell? ⟨w.heap.size + 1 + 1, 1, none⟩ = some (.int .i64 0) := by rw [hc5 _ _ (by first | omega | (simp; done) | (simp; omega))] <;> simp [go_sem, *]
                  have f1 : w5.frozen? ⟨w.heap.size + 1 + 1, 1, none⟩ = false := by rw [hf5 _ _ (by first | omega | (simp; done) | (simp; omega))] <;> simp [go_sem, *]
                  go_wp2_with fail
                  refine bodyPost_ret (v := vOpt v) ?_ rfl ⟨rfl, ?_⟩
                  · rw [HE.out]
                    simp [results, Try.results44, go_sem, oN_none, oD_none, oB_none, c0, c1, hz5c]
                  · (repeat (first | (with_reducible exact Below.refl _ _) | (with_reducible assumption) | (with_reducible refine Below.drew ?_) | (with_reducible refine below_drewN ?_ _) | ((with_reducible refine Below.setCell ?_ ?_ _); rotate_left; focus (first | (simp; done) | omega | (simp; omega))) | ((with_reducible refine Below.alloc ?_ ?_ _); rotate_left; focus (first | exact Nat.le_refl _ | omega | (simp; done) | (simp; omega)))))
                · have HE := Lib.hid (show v = z by rw [HV.out, hob]; rfl)
                  go_enter Try.func44, Try.ntmps44
                  go_wp2_with fail
                  refine (iDesignOk _ _ _ _).mono ?_
                  rintro e w1 ⟨rfl, hb1⟩
                  obtain ⟨hc1, hf1⟩ := keepc hb1
                  have hs1 : w.heap.size ≤ w1.heap.size := (by have := hb1.size; first | omega | (simp at this; omega))
                  have hz1a : w.heap.size < w1.heap.size := (by have := hb1.size; first | omega | (simp at this; omega))
                  have hz1b : w.heap.size + 1 < w1.heap.size := (by have := hb1.size; first | omega | (simp at this; omega))
                  have hz1c : w.heap.size + 1 + 1 < w1.heap.size := (by have := hb1.size; first | omega | (simp at this; omega))
                  have hB1 : Below w.heap.size w w1 := (by refine Below.trans ?_ (hb1.mono (by first | omega | (simp; done) | (simp; omega))); (repeat (first | (with_reducible exact Below.refl _ _) | (with_reducible assumption) | (with_reducible refine Below.drew ?_) | (with_reducible refine below_drewN ?_ _) | ((with_reducible refine Below.setCell ?_ ?_ _); rotate_left; focus (first | (simp; done) | omega | (simp; omega))) | ((with_reducible refine Below.alloc ?_ ?_ _); rotate_left; focus (first | exact Nat.le_refl _ | omega | (simp; done) | (simp; omega))))))
                  go_wp2_with fail
                  refine (within_any _ _ _ _).mono ?_
                  rintro e w' ⟨rfl, rfl⟩
                  go_wp2_with fail
                  refine (iFracOk _ _ _).mono ?_
                  rintro e w2 ⟨rfl, hb2⟩
                  obtain ⟨hc2, hf2⟩ := keepc hb2
                  have hs2 : w.heap.size ≤ w2.heap.size := (by have := hb2.size; first | omega | (simp at this; omega))
                  have hz2a : w.heap.size < w2.heap.size := (by have := hb2.size; first | omega | (simp at this; omega))
                  have hz2b : w.heap.size + 1 < w2.heap.size := (by have := hb2.size; first | omega | (simp at this; omega))
                  have hz2c : w.heap.size + 1 + 1 < w2.heap.size := (by have := hb2.size; first | omega | (simp at this; omega))
                  have hB2 : Below w.heap.size w w2 := (by refine Below.trans ?_ (hb2.mono (by first | omega | (simp; done) | (simp; omega))); (repeat (first | (with_reducible exact Below.refl _ _) | (with_reducible assumption) | (with_reducible refine Below.drew ?_) | (with_reducible refine below_drewN ?_ _) | ((with_reducible refine Below.setCell ?_ ?_ _); rotate_left; focus (first | (simp; done) | omega | (simp; omega))) | ((with_reducible refine Below.alloc ?_ ?_ _); rotate_left; focus (first | exact Nat.le_refl _ | omega | (simp; done) | (simp; omega))))))
                  go_wp2_with fail
                  refine (iFracNew r 10000 _).mono ?_
                  rw [← HRA.out]
                  rintro e w3 ⟨rfl, hb3⟩
                  obtain ⟨hc3, hf3⟩ := keepc hb3
                  have hs3 : w.heap.size ≤ w3.heap.size := (by have := hb3.size; first | omega | (simp at this; omega))
                  have hz3a : w.heap.size < w3.heap.size := (by have := hb3.size; first | omega | (simp at this; omega))
                  have hz3b : w.heap.size + 1 < w3.heap.size := (by have := hb3.size; first | omega | (simp at this; omega))
                  have hz3c : w.heap.size + 1 + 1 < w3.heap.size := (by have := hb3.size; first | omega | (simp at this; omega))
                  have hB3 : Below w.heap.size w w3 := (by refine Below.trans ?_ (hb3.mono (by first | omega | (simp; done) | (simp; omega))); (repeat (first | (with_reducible exact Below.refl _ _) | (with_reducible assumption) | (with_reducible refine Below.drew ?_) | (with_reducible refine below_drewN ?_ _) | ((with_reducible refine Below.setCell ?_ ?_ _); rotate_left; focus (first | (simp; done) | omega | (simp; omega))) | ((with_reducible refine Below.alloc ?_ ?_ _); rotate_left; focus (first | exact Nat.le_refl _ | omega | (simp; done) | (simp; omega))))))
                  go_wp2_with fail
                  refine (iFracNew _ 1200 _).mono ?_
                  rw [HY.out]
                  rw [← HYE.out]
                  rintro e w4 ⟨rfl, hb4⟩
                  obtain ⟨hc4, hf4⟩ := keepc hb4
                  have hs4 : w.heap.size ≤ w4.heap.size := (by have := hb4.size; first | omega | (simp at this; omega))
                  have hz4a : w.heap.size < w4.heap.size := (by have := hb4.size; first | omega | (simp at this; omega))
                  have hz4b : w.heap.size + 1 < w4.heap.size := (by have := hb4.size; first | omega | (simp at this; omega))
                  have hz4c : w.heap.size + 1 + 1 < w4.heap.size := (by have := hb4.size; first | omega | (simp at this; omega))
                  have hz4d : w3.heap.size < w4.heap.size := (by have := hb4.size; first | omega | (simp at this; omega))
                  have hB4 : Below w.heap.size w w4 := (by refine Below.trans ?_ (hb4.mono (by first | omega | (simp; done) | (simp; omega))); (repeat (first | (with_reducible exact Below.refl _ _) | (with_reducible assumption) | (with_reducible refine Below.drew ?_) | (with_reducible refine below_drewN ?_ _) | ((with_reducible refine Below.setCell ?_ ?_ _); rotate_left; focus (first | (simp; done) | omega | (simp; omega))) | ((with_reducible refine Below.alloc ?_ ?_ _); rotate_left; focus (first | exact Nat.le_refl _ | omega | (simp; done) | (simp; omega))))))
                  go_wp2_with fail
                  refine (iFracMul _ _ _ _ _).mono ?_
                  rw [← HX.out]
                  rintro e w5 ⟨rfl, hb5⟩
                  obtain ⟨hc5, hf5⟩ := keepc hb5
                  have hs5 : w.heap.size ≤ w5.heap.size := (by have := hb5.size; first | omega | (simp at this; omega))
                  have hz5a : w.heap.size < w5.heap.size := (by have := hb5.size; first | omega | (simp at this; omega))
                  have hz5b : w.heap.size + 1 < w5.heap.size := (by have := hb5.size; first | omega | (simp at this; omega))
                  have hz5c : w.heap.size + 1 + 1 < w5.heap.size := (by have := hb5.size; first | omega | (simp at this; omega))
                  have hz5d : w3.heap.size < w5.heap.size := (by have := hb5.size; first | omega | (simp at this; omega))
                  have hz5e : w4.heap.size < w5.heap.size := (by have := hb5.size; first | omega | (simp at this; omega))
                  have hB5 : Below w.heap.size w w5 := (by refine Below.trans ?_ (hb5.mono (by first | omega | (simp; done) | (simp; omega))); (repeat (first | (with_reducible exact Below.refl _ _) | (with_reducible assumption) | (with_reducible refine Below.drew ?_) | (with_reducible refine below_drewN ?_ _) | ((with_reducible refine Below.setCell ?_ ?_ _); rotate_left; focus (first | (simp; done) | omega | (simp; omega))) | ((with_reducible refine Below.alloc ?_ ?_ _); rotate_left; focus (first | exact Nat.le_refl _ | omega | (simp; done) | (simp; omega))))))
                  go_wp2_with fail
                  refine (iFracMul _ _ _ _ _).mono ?_
                  rw [← HZ.out]
                  rintro e w6 ⟨rfl, hb6⟩
                  obtain ⟨hc6, hf6⟩ := keepc hb6
                  have hs6 : w.heap.size ≤ w6.heap.size := (by have := hb6.size; first | omega | (simp at this; omega))
                  have hz6a : w.heap.size < w6.heap.size := (by have := hb6.size; first | omega | (simp at this; omega))
                  have hz6b : w.heap.size + 1 < w6.heap.size := (by have := hb6.size; first | omega | (simp at this; omega))
                  have hz6c : w.heap.size + 1 + 1 < w6.heap.size := (by have := hb6.size; first | omega | (simp at this; omega))
                  have hB6 : Below w.heap.size w w6 := (by refine Below.trans ?_ (hb6.mono (by first | omega | (simp; done) | (simp; omega))); (repeat (first | (with_reducible exact Below.refl _ _) | (with_reducible assumption) | (with_reducible refine Below.drew ?_) | (with_reducible refine below_drewN ?_ _) | ((with_reducible refine Below.setCell ?_ ?_ _); rotate_left; focus (first | (simp; done) | omega | (simp; omega))) | ((with_reducible refine Below.alloc ?_ ?_ _); rotate_left; focus (first | exact Nat.le_refl _ | omega | (simp; done) | (simp; omega))))))
                  have c0 : w6.cell? ⟨w.heap.size + 1 + 1, 0, none⟩ = some (.int .i64 0) := by rw [hc6 _ _ (by first | omega | (simp; done) | (simp; omega))] <;> simp [go_sem, *]
                  have f0 : w6.frozen? ⟨w.heap.size + 1 + 1, 0, none⟩ = false := by rw [hf6 _ _ (by first | omega | (simp; done) | (simp; omega))] <;> simp [go_sem, *]
                  have c1 : w6.cell? ⟨w.heap.size + 1 + 1, 1, none⟩ = some (.int .i64 0) := by rw [hc6 _ _ (by first | omega | (simp; done) | (simp; omega))] <;> simp [go_sem, *]
                  have f1 : w6.frozen? ⟨w.heap.size + 1 + 1, 1, none⟩ = false := by rw [hf6 _ _ (by first | omega | (simp; done) | (simp; omega))] <;> simp [go_sem, *]
                  go_wp2_with fail
                  refine bodyPost_ret (v := vOpt v) ?_ rfl ⟨rfl, ?_⟩
                  · rw [HE.out]
                    simp [results, Try.results44, go_sem, c0, c1]
                  · (repeat (first | (with_reducible exact Below.refl _ _) | (with_reducible assumption) | (with_reducible refine Below.drew ?_) | (with_reducible refine below_drewN ?_ _) | ((with_reducible refine Below.setCell ?_ ?_ _); rotate_left; focus (first | (simp; done) | omega | (simp; omega))) | ((with_reducible refine Below.alloc ?_ ?_ _); rotate_left; focus (first | exact Nat.le_refl _ | omega | (simp; done) | (simp; omega)))))
            · have e0 : v = none := by rw [hv, if_neg (by simp [accInL, t1, t3, t4, t5])]
              rw [e0]
              clear e0 hv v
              go_enter Try.func44, Try.ntmps44
              go_wp2_with fail
              refine (iDesignOk _ _ _ _).mono ?_
              rintro e w1 ⟨rfl, hb1⟩
              obtain ⟨hc1, hf1⟩ := keepc hb1
              have hs1 : w.heap.size ≤ w1.heap.size := (by have := hb1.size; first | omega | (simp at this; omega))
              have hz1a : w.heap.size < w1.heap.size := (by have := hb1.size; first | omega | (simp at this; omega))
              have hz1b : w.heap.size + 1 < w1.heap.size := (by have := hb1.size; first | omega | (simp at this; omega))
              have hz1c : w.heap.size + 1 + 1 < w1.heap.size := (by have := hb1.size; first | omega | (simp at this; omega))
              have hB1 : Below w.heap.size w w1 := (by refine Below.trans ?_ (hb1.mono (by first | omega | (simp; done) | (simp; omega))); (repeat (first | (with_reducible exact Below.refl _ _) | (with_reducible assumption) | (with_reducible refine Below.drew ?_) | (with_reducible refine below_drewN ?_ _) | ((with_reducible refine Below.setCell ?_ ?_ _); rotate_left; focus (first | (simp; done) | omega | (simp; omega))) | ((with_reducible refine Below.alloc ?_ ?_ _); rotate_left; focus (first | exact Nat.le_refl _ | omega | (simp; done) | (simp; omega))))))
              go_wp2_with fail
              refine (within_any _ _ _ _).mono ?_
              rintro e w' ⟨rfl, rfl⟩
              go_wp2_with fail
              refine (iFracOk _ _ _).mono ?_
              rintro e w2 ⟨rfl, hb2⟩
              obtain ⟨hc2, hf2⟩ := keepc hb2
              have hs2 : w.heap.size ≤ w2.heap.size := (by have := hb2.size; first | omega | (simp at this; omega))
              have hz2a : w.heap.size < w2.heap.size := (by have := hb2.size; first | omega | (simp at this; omega))
              have hz2b : w.heap.size + 1 < w2.heap.size := (by have := hb2.size; first | omega | (simp at this; omega))
              have hz2c : w.heap.size + 1 + 1 < w2.heap.size := (by have := hb2.size; first | omega | (simp at this; omega))
              have hB2 : Below w.heap.size w w2 := (by refine Below.trans ?_ (hb2.mono (by first | omega | (simp; done) | (simp; omega))); (repeat (first | (with_reducible exact Below.refl _ _) | (with_reducible assumption) | (with_reducible refine Below.drew ?_) | (with_reducible refine below_drewN ?_ _) | ((with_reducible refine Below.setCell ?_ ?_ _); rotate_left; focus (first | (simp; done) | omega | (simp; omega))) | ((with_reducible refine Below.alloc ?_ ?_ _); rotate_left; focus (first | exact Nat.le_refl _ | omega | (simp; done) | (simp; omega))))))
              go_wp2_with fail
              refine bodyPost_ret (v := vOpt none) ?_ rfl ⟨rfl, ?_⟩
              · simp [results, Try.results44, go_sem, oN_none, oD_none, oB_none, *]
              · (repeat (first | (with_reducible exact Below.refl _ _) | (with_reducible assumption) | (with_reducible refine Below.drew ?_) | (with_reducible refine below_drewN ?_ _) | ((with_reducible refine Below.setCell ?_ ?_ _); rotate_left; focus (first | (simp; done) | omega | (simp; omega))) | ((with_reducible refine Below.alloc ?_ ?_ _); rotate_left; focus (first | exact Nat.le_refl _ | omega | (simp; done) | (simp; omega)))))
    · have e1 : (k != 1) = true := by rw [bne_iff_ne]; omega
      have e2 : (k != 2) = true := by rw [bne_iff_ne]; omega
      have e0 : v = none := by rw [hv, if_neg (by simp [accInL, t1, hk2])]
      rw [e0]
      clear e0 hv v
      go_enter Try.func44, Try.ntmps44
      go_wp2_with fail
      refine (iDesignOk _ _ _ _).mono ?_
      rintro e w1 ⟨rfl, hb1⟩
      obtain ⟨hc1, hf1⟩ := keepc hb1
      have hs1 : w.heap.size ≤ w1.heap.size := (by have := hb1.size; first | omega | (simp at this; omega))
      have hz1a : w.heap.size < w1.heap.size := (by have := hb1.size; first | omega | (simp at this; omega))
      have hz1b : w.heap.size + 1 < w1.heap.size := (by have := hb1.size; first | omega | (simp at this; omega))
      have hz1c : w.heap.size + 1 + 1 < w1.heap.size := (by have := hb1.size; first | omega | (simp at this; omega))
      have hB1 : Below w.heap.size w w1 := (by refine Below.trans ?_ (hb1.mono (by first | omega | (simp; done) | (simp; omega))); (repeat (first | (with_reducible exact Below.refl _ _) | (with_reducible assumption) | (with_reducible refine Below.drew ?_) | (with_reducible refine below_drewN ?_ _) | ((with_reducible refine Below.setCell ?_ ?_ _); rotate_left; focus (first | (simp; done) | omega | (simp; omega))) | ((with_reducible refine Below.alloc ?_ ?_ _); rotate_left; focus (first | exact Nat.le_refl _ | omega | (simp; done) | (simp; omega))))))
      go_wp2_with fail
      refine bodyPost_ret (v := vOpt none) ?_ rfl ⟨rfl, ?_⟩
      · simp [results, Try.results44, go_sem, oN_none, oD_none, oB_none, *]
      · (repeat (first | (with_reducible exact Below.refl _ _) | (with_reducible assumption) | (with_reducible refine Below.drew ?_) | (with_reducible refine below_drewN ?_ _) | ((with_reducible refine Below.setCell ?_ ?_ _); rotate_left; focus (first | (simp; done) | omega | (simp; omega))) | ((with_reducible refine Below.alloc ?_ ?_ _); rotate_left; focus (first | exact Nat.le_refl _ | omega | (simp; done) | (simp; omega)))))

set_option maxHeartbeats 2000000 in
theorem walkAccrued (k r c s n d : Int) (w : World) :
    Calls Try.prog 16 #[.agg #[.int .i64 k, .int .i64 r, .int .i64 c], .int .i64 s, .agg #[.int .i64 n, .int .i64 d]] w fun e w' => e = .returned (.bool true) ∧ Below w.heap.size w w' := by
  go_enter Try.func16, Try.ntmps16
  go_upto_region 1 with fail
  go_cut [7, 8] (fun s7 s8 wx => ∃ g : Nat, s7 = .pointer (some ⟨g, 0, none⟩) ∧ s8 = .bool (oB (accL k r c s n d)) ∧ wx.cell? ⟨g, 0, none⟩ = some (.int .i64 (oN (accL k r c s n d))) ∧ wx.cell? ⟨g, 1, none⟩ = some (.int .i64 (oD (accL k r c s n d))) ∧ wx.cell? ⟨w.heap.size, 0, none⟩ = some (.int .i64 k) ∧ wx.cell? ⟨w.heap.size, 1, none⟩ = some (.int .i64 r) ∧ wx.cell? ⟨w.heap.size, 2, none⟩ = some (.int .i64 c) ∧ wx.cell? ⟨w.heap.size + 1, 0, none⟩ = some (.int .i64 n) ∧ wx.cell? ⟨w.heap.size + 1, 1, none⟩ = some (.int .i64 d) ∧ w.heap.size < wx.heap.size ∧ w.heap.size + 1 < wx.heap.size ∧ g < wx.heap.size ∧ Below w.heap.size w wx)
  case first =>
    go_region_held3 (fun w' => w'.cell? ⟨w.heap.size, 0, none⟩ = some (.int .i64 k) ∧ w'.cell? ⟨w.heap.size, 1, none⟩ = some (.int .i64 r) ∧ w'.cell? ⟨w.heap.size, 2, none⟩ = some (.int .i64 c) ∧ w'.cell? ⟨w.heap.size + 1, 0, none⟩ = some (.int .i64 n) ∧ w'.cell? ⟨w.heap.size + 1, 1, none⟩ = some (.int .i64 d) ∧ w.heap.size < w'.heap.size ∧ w.heap.size + 1 < w'.heap.size ∧ ¬ w.heap.size = w'.heap.size ∧ ¬ w.heap.size + 1 = w'.heap.size ∧ Below w.heap.size w w') (first | (with_reducible assumption) | (refine ⟨?_, ?_, ?_, ?_, ?_, ?_, ?_, ?_, ?_, ?_⟩ <;> first | (with_reducible assumption) | omega | (simp [go_sem, *]; done) | (simp [*]; omega) | ((repeat (first | (with_reducible exact Below.refl _ _) | (with_reducible assumption) | (with_reducible refine Below.drew ?_) | (with_reducible refine below_drewN ?_ _) | ((with_reducible refine Below.setCell ?_ ?_ _); rotate_left; focus (first | (simp; done) | omega | (simp; omega))) | ((with_reducible refine Below.alloc ?_ ?_ _); rotate_left; focus (first | exact Nat.le_refl _ | omega | (simp; done) | (simp; omega))))); first | done | (simp [*]; done))))
      (first
        | (go_at_call 21; refine (toDesign_any _ _ _ _).mono ?_; rintro e w1 ⟨rfl, hb1⟩; obtain ⟨hc1, hf1⟩ := keepc hb1; have hs1 := hb1.size; have hS1 : ((fun w' => w'.cell? ⟨w.heap.size, 0, none⟩ = some (.int .i64 k) ∧ w'.cell? ⟨w.heap.size, 1, none⟩ = some (.int .i64 r) ∧ w'.cell? ⟨w.heap.size, 2, none⟩ = some (.int .i64 c) ∧ w'.cell? ⟨w.heap.size + 1, 0, none⟩ = some (.int .i64 n) ∧ w'.cell? ⟨w.heap.size + 1, 1, none⟩ = some (.int .i64 d) ∧ w.heap.size < w'.heap.size ∧ w.heap.size + 1 < w'.heap.size ∧ ¬ w.heap.size = w'.heap.size ∧ ¬ w.heap.size + 1 = w'.heap.size ∧ Below w.heap.size w w')) w1 := (by refine ⟨?_, ?_, ?_, ?_, ?_, ?_, ?_, ?_, ?_, ?_⟩ <;> first | (rw [hc1 _ _ (by first | omega | (simp [*]; omega) | (simp [*]; done))] <;> simp [go_sem, *]; done) | (first | omega | (simp [*] at hs1; omega)) | (refine Below.trans ?_ (hb1.mono (by first | omega | (simp [*]; done) | (simp [*]; omega))); (repeat (first | (with_reducible exact Below.refl _ _) | (with_reducible assumption) | (with_reducible refine Below.drew ?_) | (with_reducible refine below_drewN ?_ _) | ((with_reducible refine Below.setCell ?_ ?_ _); rotate_left; focus (first | (simp; done) | omega | (simp; omega))) | ((with_reducible refine Below.alloc ?_ ?_ _); rotate_left; focus (first | exact Nat.le_refl _ | omega | (simp; done) | (simp; omega))))); first | done | (simp [*]; done))); have hq1 := keepz hb1; (try (have hx1 : w.heap.size + 1 + 1 < w1.heap.size := (by first | omega | (simp [*] at hs1; omega)))); clear hb1 hs1)
        | (go_at_call 47; refine (toFrac_any _ _ _).mono ?_; rintro e w1 ⟨rfl, hb1⟩; obtain ⟨hc1, hf1⟩ := keepc hb1; have hs1 := hb1.size; have hS1 : ((fun w' => w'.cell? ⟨w.heap.size, 0, none⟩ = some (.int .i64 k) ∧ w'.cell? ⟨w.heap.size, 1, none⟩ = some (.int .i64 r) ∧ w'.cell? ⟨w.heap.size, 2, none⟩ = some (.int .i64 c) ∧ w'.cell? ⟨w.heap.size + 1, 0, none⟩ = some (.int .i64 n) ∧ w'.cell? ⟨w.heap.size + 1, 1, none⟩ = some (.int .i64 d) ∧ w.heap.size < w'.heap.size ∧ w.heap.size + 1 < w'.heap.size ∧ ¬ w.heap.size = w'.heap.size ∧ ¬ w.heap.size + 1 = w'.heap.size ∧ Below w.heap.size w w')) w1 := (by refine ⟨?_, ?_, ?_, ?_, ?_, ?_, ?_, ?_, ?_, ?_⟩ <;> first | (rw [hc1 _ _ (by first | omega | (simp [*]; omega) | (simp [*]; done))] <;> simp [go_sem, *]; done) | (first | omega | (simp [*] at hs1; omega)) | (refine Below.trans ?_ (hb1.mono (by first | omega | (simp [*]; done) | (simp [*]; omega))); (repeat (first | (with_reducible exact Below.refl _ _) | (with_reducible assumption) | (with_reducible refine Below.drew ?_) | (with_reducible refine below_drewN ?_ _) | ((with_reducible refine Below.setCell ?_ ?_ _); rotate_left; focus (first | (simp; done) | omega | (simp; omega))) | ((with_reducible refine Below.alloc ?_ ?_ _); rotate_left; focus (first | exact Nat.le_refl _ | omega | (simp; done) | (simp; omega))))); first | done | (simp [*]; done))); have hq1 := keepz hb1; (try (have hx1 : w.heap.size + 1 + 1 < w1.heap.size := (by first | omega | (simp [*] at hs1; omega)))); clear hb1 hs1)
        | (go_at_call 46; refine (sAccrued _ _ _ _ _ _ _).mono ?_; rintro e w1 ⟨rfl, hb1⟩; obtain ⟨hc1, hf1⟩ := keepc hb1; have hs1 := hb1.size; have hS1 : ((fun w' => w'.cell? ⟨w.heap.size, 0, none⟩ = some (.int .i64 k) ∧ w'.cell? ⟨w.heap.size, 1, none⟩ = some (.int .i64 r) ∧ w'.cell? ⟨w.heap.size, 2, none⟩ = some (.int .i64 c) ∧ w'.cell? ⟨w.heap.size + 1, 0, none⟩ = some (.int .i64 n) ∧ w'.cell? ⟨w.heap.size + 1, 1, none⟩ = some (.int .i64 d) ∧ w.heap.size < w'.heap.size ∧ w.heap.size + 1 < w'.heap.size ∧ ¬ w.heap.size = w'.heap.size ∧ ¬ w.heap.size + 1 = w'.heap.size ∧ Below w.heap.size w w')) w1 := (by refine ⟨?_, ?_, ?_, ?_, ?_, ?_, ?_, ?_, ?_, ?_⟩ <;> first | (rw [hc1 _ _ (by first | omega | (simp [*]; omega) | (simp [*]; done))] <;> simp [go_sem, *]; done) | (first | omega | (simp [*] at hs1; omega)) | (refine Below.trans ?_ (hb1.mono (by first | omega | (simp [*]; done) | (simp [*]; omega))); (repeat (first | (with_reducible exact Below.refl _ _) | (with_reducible assumption) | (with_reducible refine Below.drew ?_) | (with_reducible refine below_drewN ?_ _) | ((with_reducible refine Below.setCell ?_ ?_ _); rotate_left; focus (first | (simp; done) | omega | (simp; omega))) | ((with_reducible refine Below.alloc ?_ ?_ _); rotate_left; focus (first | exact Nat.le_refl _ | omega | (simp; done) | (simp; omega))))); first | done | (simp [*]; done))); have hq1 := keepz hb1; (try (have hx1 : w.heap.size + 1 + 1 < w1.heap.size := (by first | omega | (simp [*] at hs1; omega)))); clear hb1 hs1))
    all_goals
      go_wp2_with fail
      go_meet
      refine ⟨_, rfl, rfl, ?_, ?_, ?_, ?_, ?_, ?_, ?_, ?_, ?_, ?_, ?_⟩ <;> first | (with_reducible assumption) | omega | (simp [go_sem, *]; done) | (simp [*]; omega) | (exact (two_cells (u := .int .i64 0) (v := .int .i64 0) (by simp [go_sem, *]) (by simp [go_sem, *])).1) | (exact (two_cells (u := .int .i64 0) (v := .int .i64 0) (by simp [go_sem, *]) (by simp [go_sem, *])).2) | ((repeat (first | (with_reducible exact Below.refl _ _) | (with_reducible assumption) | (with_reducible refine Below.drew ?_) | (with_reducible refine below_drewN ?_ _) | ((with_reducible refine Below.setCell ?_ ?_ _); rotate_left; focus (first | (simp; done) | omega | (simp; omega))) | ((with_reducible refine Below.alloc ?_ ?_ _); rotate_left; focus (first | exact Nat.le_refl _ | omega | (simp; done) | (simp; omega))))); first | done | (simp [*]; done))
  case rest =>
    obtain ⟨g, rfl, rfl, gq0, gq1, gq2, gq3, gq4, gq5, gq6, gq7, gq8, gq9, gq10⟩ := hcut
    obtain ⟨wa, hwa⟩ : ∃ wa : World, wa = wc := ⟨_, rfl⟩
    subst hwa
    go_wp2_with fail
    go_upto_region 2 with fail
    go_cut [9, 10] (fun s9 s10 wx => ∃ h : Nat, s9 = .pointer (some ⟨h, 0, none⟩) ∧ s10 = .bool (oB (accL k r c s n d)) ∧ wx.cell? ⟨h, 0, none⟩ = some (.int .i64 (oN (accL k r c s n d))) ∧ wx.cell? ⟨h, 1, none⟩ = some (.int .i64 (oD (accL k r c s n d))) ∧ wx.cell? ⟨w.heap.size, 0, none⟩ = some (.int .i64 k) ∧ wx.cell? ⟨w.heap.size, 1, none⟩ = some (.int .i64 r) ∧ wx.cell? ⟨w.heap.size, 2, none⟩ = some (.int .i64 c) ∧ wx.cell? ⟨w.heap.size + 1, 0, none⟩ = some (.int .i64 n) ∧ wx.cell? ⟨w.heap.size + 1, 1, none⟩ = some (.int .i64 d) ∧ wx.cell? ⟨g, 0, none⟩ = some (.int .i64 (oN (accL k r c s n d))) ∧ wx.cell? ⟨g, 1, none⟩ = some (.int .i64 (oD (accL k r c s n d))) ∧ w.heap.size < wx.heap.size ∧ w.heap.size + 1 < wx.heap.size ∧ g < wx.heap.size ∧ h < wx.heap.size ∧ Below w.heap.size w wx)
    case first =>
      go_region_held3 (fun w' => w'.cell? ⟨w.heap.size, 0, none⟩ = some (.int .i64 k) ∧ w'.cell? ⟨w.heap.size, 1, none⟩ = some (.int .i64 r) ∧ w'.cell? ⟨w.heap.size, 2, none⟩ = some (.int .i64 c) ∧ w'.cell? ⟨w.heap.size + 1, 0, none⟩ = some (.int .i64 n) ∧ w'.cell? ⟨w.heap.size + 1, 1, none⟩ = some (.int .i64 d) ∧ w'.cell? ⟨g, 0, none⟩ = some (.int .i64 (oN (accL k r c s n d))) ∧ w'.cell? ⟨g, 1, none⟩ = some (.int .i64 (oD (accL k r c s n d))) ∧ w.heap.size < w'.heap.size ∧ w.heap.size + 1 < w'.heap.size ∧ g < w'.heap.size ∧ ¬ w.heap.size = w'.heap.size ∧ ¬ w.heap.size + 1 = w'.heap.size ∧ ¬ g = w'.heap.size ∧ Below w.heap.size w w') (first | (with_reducible assumption) | (refine ⟨?_, ?_, ?_, ?_, ?_, ?_, ?_, ?_, ?_, ?_, ?_, ?_, ?_, ?_⟩ <;> first | (with_reducible assumption) | omega | (simp [go_sem, *]; done) | (simp [*]; omega) | ((repeat (first | (with_reducible exact Below.refl _ _) | (with_reducible assumption) | (with_reducible refine Below.drew ?_) | (with_reducible refine below_drewN ?_ _) | ((with_reducible refine Below.setCell ?_ ?_ _); rotate_left; focus (first | (simp; done) | omega | (simp; omega))) | ((with_reducible refine Below.alloc ?_ ?_ _); rotate_left; focus (first | exact Nat.le_refl _ | omega | (simp; done) | (simp; omega))))); first | done | (simp [*]; done))))
        (first
          | (go_at_call 21; refine (toDesign_any _ _ _ _).mono ?_; rintro e w2 ⟨rfl, hb2⟩; obtain ⟨hc2, hf2⟩ := keepc hb2; have hs2 := hb2.size; have hS2 : ((fun w' => w'.cell? ⟨w.heap.size, 0, none⟩ = some (.int .i64 k) ∧ w'.cell? ⟨w.heap.size, 1, none⟩ = some (.int .i64 r) ∧ w'.cell? ⟨w.heap.size, 2, none⟩ = some (.int .i64 c) ∧ w'.cell? ⟨w.heap.size + 1, 0, none⟩ = some (.int .i64 n) ∧ w'.cell? ⟨w.heap.size + 1, 1, none⟩ = some (.int .i64 d) ∧ w'.cell? ⟨g, 0, none⟩ = some (.int .i64 (oN (accL k r c s n d))) ∧ w'.cell? ⟨g, 1, none⟩ = some (.int .i64 (oD (accL k r c s n d))) ∧ w.heap.size < w'.heap.size ∧ w.heap.size + 1 < w'.heap.size ∧ g < w'.heap.size ∧ ¬ w.heap.size = w'.heap.size ∧ ¬ w.heap.size + 1 = w'.heap.size ∧ ¬ g = w'.heap.size ∧ Below w.heap.size w w')) w2 := (by refine ⟨?_, ?_, ?_, ?_, ?_, ?_, ?_, ?_, ?_, ?_, ?_, ?_, ?_, ?_⟩ <;> first | (rw [hc2 _ _ (by first | omega | (simp [*]; omega) | (simp [*]; done))] <;> simp [go_sem, *]; done) | (first | omega | (simp [*] at hs2; omega)) | (refine Below.trans ?_ (hb2.mono (by first | omega | (simp [*]; done) | (simp [*]; omega))); (repeat (first | (with_reducible exact Below.refl _ _) | (with_reducible assumption) | (with_reducible refine Below.drew ?_) | (with_reducible refine below_drewN ?_ _) | ((with_reducible refine Below.setCell ?_ ?_ _); rotate_left; focus (first | (simp; done) | omega | (simp; omega))) | ((with_reducible refine Below.alloc ?_ ?_ _); rotate_left; focus (first | exact Nat.le_refl _ | omega | (simp; done) | (simp; omega))))); first | done | (simp [*]; done))); have hq2 := keepz hb2; (try (have hx2 : wa.heap.size < w2.heap.size := (by first | omega | (simp [*] at hs2; omega)))); clear hb2 hs2)
          | (go_at_call 47; refine (toFrac_any _ _ _).mono ?_; rintro e w2 ⟨rfl, hb2⟩; obtain ⟨hc2, hf2⟩ := keepc hb2; have hs2 := hb2.size; have hS2 : ((fun w' => w'.cell? ⟨w.heap.size, 0, none⟩ = some (.int .i64 k) ∧ w'.cell? ⟨w.heap.size, 1, none⟩ = some (.int .i64 r) ∧ w'.cell? ⟨w.heap.size, 2, none⟩ = some (.int .i64 c) ∧ w'.cell? ⟨w.heap.size + 1, 0, none⟩ = some (.int .i64 n) ∧ w'.cell? ⟨w.heap.size + 1, 1, none⟩ = some (.int .i64 d) ∧ w'.cell? ⟨g, 0, none⟩ = some (.int .i64 (oN (accL k r c s n d))) ∧ w'.cell? ⟨g, 1, none⟩ = some (.int .i64 (oD (accL k r c s n d))) ∧ w.heap.size < w'.heap.size ∧ w.heap.size + 1 < w'.heap.size ∧ g < w'.heap.size ∧ ¬ w.heap.size = w'.heap.size ∧ ¬ w.heap.size + 1 = w'.heap.size ∧ ¬ g = w'.heap.size ∧ Below w.heap.size w w')) w2 := (by refine ⟨?_, ?_, ?_, ?_, ?_, ?_, ?_, ?_, ?_, ?_, ?_, ?_, ?_, ?_⟩ <;> first | (rw [hc2 _ _ (by first | omega | (simp [*]; omega) | (simp [*]; done))] <;> simp [go_sem, *]; done) | (first | omega | (simp [*] at hs2; omega)) | (refine Below.trans ?_ (hb2.mono (by first | omega | (simp [*]; done) | (simp [*]; omega))); (repeat (first | (with_reducible exact Below.refl _ _) | (with_reducible assumption) | (with_reducible refine Below.drew ?_) | (with_reducible refine below_drewN ?_ _) | ((with_reducible refine Below.setCell ?_ ?_ _); rotate_left; focus (first | (simp; done) | omega | (simp; omega))) | ((with_reducible refine Below.alloc ?_ ?_ _); rotate_left; focus (first | exact Nat.le_refl _ | omega | (simp; done) | (simp; omega))))); first | done | (simp [*]; done))); have hq2 := keepz hb2; (try (have hx2 : wa.heap.size < w2.heap.size := (by first | omega | (simp [*] at hs2; omega)))); clear hb2 hs2)
          | (go_at_call 44; refine (iAccrued _ _ _ _ _ _ _).mono ?_; rintro e w2 ⟨rfl, hb2⟩; obtain ⟨hc2, hf2⟩ := keepc hb2; have hs2 := hb2.size; have hS2 : ((fun w' => w'.cell? ⟨w.heap.size, 0, none⟩ = some (.int .i64 k) ∧ w'.cell? ⟨w.heap.size, 1, none⟩ = some (.int .i64 r) ∧ w'.cell? ⟨w.heap.size, 2, none⟩ = some (.int .i64 c) ∧ w'.cell? ⟨w.heap.size + 1, 0, none⟩ = some (.int .i64 n) ∧ w'.cell? ⟨w.heap.size + 1, 1, none⟩ = some (.int .i64 d) ∧ w'.cell? ⟨g, 0, none⟩ = some (.int .i64 (oN (accL k r c s n d))) ∧ w'.cell? ⟨g, 1, none⟩ = some (.int .i64 (oD (accL k r c s n d))) ∧ w.heap.size < w'.heap.size ∧ w.heap.size + 1 < w'.heap.size ∧ g < w'.heap.size ∧ ¬ w.heap.size = w'.heap.size ∧ ¬ w.heap.size + 1 = w'.heap.size ∧ ¬ g = w'.heap.size ∧ Below w.heap.size w w')) w2 := (by refine ⟨?_, ?_, ?_, ?_, ?_, ?_, ?_, ?_, ?_, ?_, ?_, ?_, ?_, ?_⟩ <;> first | (rw [hc2 _ _ (by first | omega | (simp [*]; omega) | (simp [*]; done))] <;> simp [go_sem, *]; done) | (first | omega | (simp [*] at hs2; omega)) | (refine Below.trans ?_ (hb2.mono (by first | omega | (simp [*]; done) | (simp [*]; omega))); (repeat (first | (with_reducible exact Below.refl _ _) | (with_reducible assumption) | (with_reducible refine Below.drew ?_) | (with_reducible refine below_drewN ?_ _) | ((with_reducible refine Below.setCell ?_ ?_ _); rotate_left; focus (first | (simp; done) | omega | (simp; omega))) | ((with_reducible refine Below.alloc ?_ ?_ _); rotate_left; focus (first | exact Nat.le_refl _ | omega | (simp; done) | (simp; omega))))); first | done | (simp [*]; done))); have hq2 := keepz hb2; (try (have hx2 : wa.heap.size < w2.heap.size := (by first | omega | (simp [*] at hs2; omega)))); clear hb2 hs2))
      all_goals
        go_wp2_with fail
        go_meet
        refine ⟨_, rfl, rfl, ?_, ?_, ?_, ?_, ?_, ?_, ?_, ?_, ?_, ?_, ?_, ?_, ?_, ?_⟩ <;> first | (with_reducible assumption) | omega | (simp [go_sem, *]; done) | (simp [*]; omega) | (exact (two_cells (u := .int .i64 0) (v := .int .i64 0) (by simp [go_sem, *]) (by simp [go_sem, *])).1) | (exact (two_cells (u := .int .i64 0) (v := .int .i64 0) (by simp [go_sem, *]) (by simp [go_sem, *])).2) | ((repeat (first | (with_reducible exact Below.refl _ _) | (with_reducible assumption) | (with_reducible refine Below.drew ?_) | (with_reducible refine below_drewN ?_ _) | ((with_reducible refine Below.setCell ?_ ?_ _); rotate_left; focus (first | (simp; done) | omega | (simp; omega))) | ((with_reducible refine Below.alloc ?_ ?_ _); rotate_left; focus (first | exact Nat.le_refl _ | omega | (simp; done) | (simp; omega))))); first | done | (simp [*]; done))
    case rest =>
      obtain ⟨h, rfl, rfl, hq0, hq1, hq2, hq3, hq4, hq5, hq6, hq7, hq8, hq9, hq10, hq11, hq12, hq13⟩ := hcut
      go_wp2_with fail
      refine (eqFrac_same _ _ _).mono ?_
      rintro e w3 ⟨rfl, hb3⟩
      go_wp2_with fail
      go_ret
      refine ⟨rfl, ?_⟩
      refine Below.trans ?_ (hb3.mono (by first | omega | (simp [*]; done) | (simp [*]; omega)))
      ((repeat (first | (with_reducible exact Below.refl _ _) | (with_reducible assumption) | (with_reducible refine Below.drew ?_) | (with_reducible refine below_drewN ?_ _) | ((with_reducible refine Below.setCell ?_ ?_ _); rotate_left; focus (first | (simp; done) | omega | (simp; omega))) | ((with_reducible refine Below.alloc ?_ ?_ _); rotate_left; focus (first | exact Nat.le_refl _ | omega | (simp; done) | (simp; omega))))); first | done | (simp [*]; done))
end Go.Proofs.Ytjiinkbjmamdmaa
