/- The final pay is the pay of the last month. No conditions. -/
import Derived.Test.YtondmakaednpdaaDrawPay
import Derived.Test.YtondmakaednpdaaFinal
namespace Go.Proofs.Ytondmakaednpdaa
open Go.RowKit

theorem Bys.more {w : World} {B B' n : Nat} {A : Option Addr} (h : Bys w B A n) (hB : B ≤ B') : Bys w B' A n :=
  ⟨h.1, fun k hk => by
    obtain ⟨b, off, z, e, hb, hc⟩ := h.2 k hk
    exact ⟨b, off, z, e, by omega, hc⟩⟩

set_option maxRecDepth 4000 in
set_option maxHeartbeats 3200000 in
theorem walkLastPay (A : Option Addr) (n c : Nat) (w : World) (hb : Bys w w.heap.size A n) :
    Calls Try.prog 3 #[.slice A n c] w fun e w' => e = .returned (.bool true) ∧ Below w.heap.size w w' := by
  have hn := hb.1
  by_cases hbig : (1048576 : Int) < n
  · have hd : decide ((1048576 : Int) < n) = true := by simpa using hbig
    go_enter Try.func3, Try.ntmps3
    go_wp2_with fail
    refine (lBig _ _ _ _ (by omega)).mono ?_
    rintro e w' ⟨rfl, rfl⟩
    go_wp2_with fail
    go_ret
    exact ⟨rfl, Below.refl _ _⟩
  · have hbg : decide ((1048576 : Int) < n) = false := by simpa using hbig
    go_enter Try.func3, Try.ntmps3
    go_wp2_with fail
    refine (lBig _ _ _ _ (by omega)).mono ?_
    rintro e w' ⟨rfl, rfl⟩
    go_wp2_with fail
    refine (sDrawPay _ _ _ _ hb).mono ?_
    rintro e w1 ⟨C, D, m0, q0, cC, cD, L, rfl, hpay, rd, hb1⟩
    have hok := hpay.ok
    have hs1 := hb1.size
    have hbx : Below w1.heap.size w1 ((w1.alloc (.cells #[.slice C m0 cC] 26)).alloc (.cells #[.slice D q0 cD] 29)) := (by (repeat (first | (with_reducible exact Below.refl _ _) | (with_reducible assumption) | (with_reducible refine Below.drew ?_) | (with_reducible refine below_drewN ?_ _) | ((with_reducible refine Below.setCell ?_ ?_ _); rotate_left; focus (first | (simp; done) | omega | (simp; omega))) | ((with_reducible refine Below.alloc ?_ ?_ _); rotate_left; focus (first | exact Nat.le_refl _ | omega | (simp; done) | (simp; omega))))))
    go_wp2_with fail
    refine (sPlacesAt _ _ _ _ ((hb.below (hb1.trans (hbx.mono hs1))).more (by simp; omega))).mono ?_
    rintro e w2 ⟨g, cap, f, rfl, hg0, hg1, hp, hb2⟩
    obtain ⟨hc2, -⟩ := keepc hb2
    have hs2 := hb2.size
    simp at hs2
    have c2 : w2.cell? ⟨w1.heap.size, 0, none⟩ = some (.slice C m0 cC) := by rw [hc2 _ _ (by simp; omega)]; simp [go_sem]
    have hbb := hbx.trans (hb2.mono (by simp; omega))
    have rd2 := (rd.below hbb).more hbb.size
    have hB2 : Below w.heap.size w w2 := hb1.trans (hbb.mono hs1)
    clear rd hbx hbb hc2 hb1 hb2
    obtain ⟨p0, x0a, x0b⟩ := hp 0 (by omega)
    obtain ⟨p1, x1a, x1b⟩ := hp 1 (by omega)
    clear hp
    generalize f 0 = x0 at *
    generalize f 1 = x1 at *
    have y0 := Int.emod_nonneg x0 (show (59 : Int) ≠ 0 by omega)
    have y1 := Int.emod_lt_of_pos x0 (show (0 : Int) < 59 by omega)
    have y2 : x0.tmod 59 = x0 % 59 := Int.tmod_eq_emod_of_nonneg x0a
    have z0 := Int.emod_nonneg x1 (show (99 : Int) ≠ 0 by omega)
    have z2 : x1.tmod 99 = x1 % 99 := Int.tmod_eq_emod_of_nonneg x1a
    obtain ⟨m, hm⟩ : ∃ m, m = x0 % 59 := ⟨_, rfl⟩
    obtain ⟨kn, hkn⟩ : ∃ kn, kn = x1 % 99 := ⟨_, rfl⟩
    rw [← hm] at y0 y1 y2
    rw [← hkn] at z0 z2
    clear hm hkn
    obtain ⟨v, hv, -⟩ := hpay.val (m := m) (known := kn) y0 (by omega) z0
    obtain ⟨u, hu, -⟩ := hpay.val (m := 59) (known := kn) (by omega) (by omega) z0
    have C1 := fun (s : World) (hs : RdFa s s.heap.size C m0 L) => iFinalPay s C m0 cC L (1 + m) kn hs
    have C2 := fun (s : World) (hs : RdFa s s.heap.size C m0 L) => sValueAt s C m0 cC L 1 m kn hs
    have C3 := fun (s : World) (hs : RdFa s s.heap.size C m0 L) => iFinalPay s C m0 cC L 500 kn hs
    have C4 := fun (s : World) (hs : RdFa s s.heap.size C m0 L) => sValueAt s C m0 cC L 1 59 kn hs
    have C5 := fun (s : World) (hs : RdFa s s.heap.size C m0 L) => iFinalPay s C m0 cC L 0 kn hs
    simp only [hpay.final (m := 1 + m) z0 (by omega) (by omega), show 1 + m - 1 = m by omega, hv] at C1
    simp only [hv] at C2
    simp only [hpay.finalL_far (m := 500) z0 (by omega) (by omega), hu] at C3
    simp only [hu] at C4
    simp only [finalL_zero] at C5
    clear hv hu hpay hok
    have e1 : IntKind.i64.wrap (1 + m) = 1 + m := IntWalk.i64_in _ ⟨by omega, by omega⟩
    have e2 : IntKind.i64.wrap (1 + m - 1) = m := by rw [show 1 + m - 1 = m by omega]; exact IntWalk.i64_in _ ⟨by omega, by omega⟩
    go_wp2_with fail
    refine (C1 _ rd2).mono ?_
    rintro e w3 ⟨rfl, hb3⟩
    obtain ⟨hc3, -⟩ := keepc hb3
    have hs3 := hb3.size
    have c3 : w3.cell? ⟨w1.heap.size, 0, none⟩ = some (.slice C m0 cC) := by rw [hc3 _ _ (by omega)]; exact c2
    have rd3 := (rd2.below hb3).more hs3
    have hB3 := hB2.trans (hb3.mono (by omega))
    clear hc3 hb3 c2 rd2 C1
    go_wp2_with fail
    refine (C2 _ rd3).mono ?_
    rintro e w4 ⟨rfl, hb4⟩
    obtain ⟨hc4, -⟩ := keepc hb4
    have hs4 := hb4.size
    have c4 : w4.cell? ⟨w1.heap.size, 0, none⟩ = some (.slice C m0 cC) := by rw [hc4 _ _ (by omega)]; exact c3
    have rd4 := (rd3.below hb4).more hs4
    have hB4 := hB3.trans (hb4.mono (by omega))
    clear hc4 hb4 c3 rd3 C2
    go_wp2_with fail
    refine (C3 _ rd4).mono ?_
    rintro e w5 ⟨rfl, hb5⟩
    obtain ⟨hc5, -⟩ := keepc hb5
    have hs5 := hb5.size
    have c5 : w5.cell? ⟨w1.heap.size, 0, none⟩ = some (.slice C m0 cC) := by rw [hc5 _ _ (by omega)]; exact c4
    have rd5 := (rd4.below hb5).more hs5
    have hB5 := hB4.trans (hb5.mono (by omega))
    clear hc5 hb5 c4 rd4 C3
    go_wp2_with fail
    refine (C4 _ rd5).mono ?_
    rintro e w6 ⟨rfl, hb6⟩
    obtain ⟨hc6, -⟩ := keepc hb6
    have hs6 := hb6.size
    have c6 : w6.cell? ⟨w1.heap.size, 0, none⟩ = some (.slice C m0 cC) := by rw [hc6 _ _ (by omega)]; exact c5
    have rd6 := (rd5.below hb6).more hs6
    have hB6 := hB5.trans (hb6.mono (by omega))
    clear hc6 hb6 c5 rd5 C4
    go_wp2_with fail
    refine (C5 _ rd6).mono ?_
    rintro e w7 ⟨rfl, hb7⟩
    obtain ⟨hc7, -⟩ := keepc hb7
    have hs7 := hb7.size
    have c7 : w7.cell? ⟨w1.heap.size, 0, none⟩ = some (.slice C m0 cC) := by rw [hc7 _ _ (by omega)]; exact c6
    have rd7 := (rd6.below hb7).more hs7
    have hB7 := hB6.trans (hb7.mono (by omega))
    clear hc7 hb7 c6 rd6 C5
    go_wp2_with fail
    go_ret
    exact ⟨ret_bool (by simp), hB7⟩
end Go.Proofs.Ytondmakaednpdaa
