/- Fractions as texts, of the program. Conditions: the table of powers lies as the library lays it. -/
import Derived.Test.YtanpmbiblibgfaaGreatDoorFmtF
import Derived.Test.YtanpmbiblibgfaaGreatDoorShI
namespace Go.Proofs.YtanpmbiblibgfaaGreatDoor
open Go.RowKit Go.Lib
set_option linter.unusedVariables false

set_option maxRecDepth 8000 in
set_option maxHeartbeats 3200000 in
theorem iFormatFrac (n d : Int) (w : World) (hT : LaidW w) :
    Calls Tryz.prog 26 #[.agg #[.int .i64 n, .int .i64 d]] w fun e w' => e = .returned (strV (fmtL (n, d))) ∧ Below w.heap.size w w' := by
  have pX0 : Whole (w.alloc (.cells #[.int .i64 n, .int .i64 d] 33)) w.heap.size 33 #[.int .i64 n, .int .i64 d] := Whole.new _ _ _
  have hbx : Below w.heap.size w (w.alloc (.cells #[.int .i64 n, .int .i64 d] 33)) := (by (repeat (first | (with_reducible exact Below.refl _ _) | (with_reducible assumption) | (with_reducible refine Below.drew ?_) | (with_reducible refine below_drewN ?_ _) | ((with_reducible refine Below.setCell ?_ ?_ _); rotate_left; focus (first | (simp; done) | omega | (simp; omega))) | ((with_reducible refine Below.alloc ?_ ?_ _); rotate_left; focus (first | exact Nat.le_refl _ | omega | (simp; done) | (simp; omega))))))
  have IF := fun (v : World) (hT : LaidW v) (z : Int) (h0 : -1000000000000 ≤ z) (h1 : z ≤ 1000000000000) => iFormatInt z (by omega) (by omega) v hT
  cases hok : fracOkL (n, d) with
  | false =>
    rw [fmtL_bad hok]
    go_enter Tryz.func26, Tryz.ntmps26
    go_wp2_with fail
    refine (iFracOk _ _ _).mono ?_
    rintro e w1 ⟨rfl, hb1⟩
    rw [hok]
    have hs1 := hb1.size
    have pX := pX0.below hb1 pX0.lt
    have hB1 := hbx.trans (hb1.mono hbx.size)
    replace hT := hT.below hB1
    clear hb1 hbx pX0
    go_wp2_with fail
    go_ret
    exact ⟨rfl, hB1⟩
  | true =>
    obtain ⟨⟨d1, d2⟩, ⟨n1, n2⟩, -⟩ := fracOkL_iff.1 hok
    dsimp only at d1 d2 n1 n2
    have hfl := fmtL_one hok
    have hft := fmtL_two hok
    dsimp only at hfl hft
    have hza : ((itoa n).length : Int) ≤ 14 := by have := itoa_len n1 n2; omega
    have hzb : ((itoa d).length : Int) ≤ 14 := by have := itoa_len (n := d) (by omega) (by omega); omega
    have FA := fun (v : World) (hv : LaidW v) => IF v hv n n1 n2
    by_cases hd : d = 1
    · rw [hfl hd]
      subst hd
      clear hfl hft IF
      go_enter Tryz.func26, Tryz.ntmps26
      go_wp2_with fail
      refine (iFracOk _ _ _).mono ?_
      rintro e w1 ⟨rfl, hb1⟩
      rw [hok]
      have hs1 := hb1.size
      have pX := pX0.below hb1 pX0.lt
      have hB1 := hbx.trans (hb1.mono hbx.size)
      replace hT := hT.below hB1
      clear hb1 hbx pX0
      have c0 : w1.cell? ⟨w.heap.size, 0, none⟩ = some (.int .i64 n) := pX.cell 0
      have c1 : w1.cell? ⟨w.heap.size, 1, none⟩ = some (.int .i64 1) := pX.cell 1
      go_wp2_with fail
      refine (FA _ hT).mono ?_
      rintro e w2 ⟨rfl, hb2⟩
      go_wp2_with fail
      go_ret
      exact ⟨rfl, hB1.trans (hb2.mono hB1.size)⟩
    · have hd2 : (d == 1) = false := by simpa using hd
      have hcat : fmtL (n, d) = itoa n ++ [47] ++ itoa d := by rw [hft hd]; simp
      rw [hcat]
      clear hfl hft hcat
      go_enter Tryz.func26, Tryz.ntmps26
      go_wp2_with fail
      refine (iFracOk _ _ _).mono ?_
      rintro e w1 ⟨rfl, hb1⟩
      rw [hok]
      have hs1 := hb1.size
      have pX := pX0.below hb1 pX0.lt
      have hB1 := hbx.trans (hb1.mono hbx.size)
      replace hT := hT.below hB1
      clear hb1 hbx pX0
      have c0 : w1.cell? ⟨w.heap.size, 0, none⟩ = some (.int .i64 n) := pX.cell 0
      have c1 : w1.cell? ⟨w.heap.size, 1, none⟩ = some (.int .i64 d) := pX.cell 1
      go_upto_region 5 with fail
      obtain ⟨S, hSd⟩ : ∃ S : World → Prop, S = fun v => Below w1.heap.size w1 v := ⟨_, rfl⟩
      have hS0 : S w1.drew := by rw [hSd]; exact Below.drew (Below.refl _ _)
      have hkeep : ∀ (u u' : World), S u → Below u.heap.size u u' → S u' := by
        intro u u' hu hb
        rw [hSd] at hu ⊢
        exact Below.trans hu (hb.mono hu.size)
      have hSend : ∀ u, S u → Below w1.heap.size w1 u := by intro u hu; rw [hSd] at hu; exact hu
      have hne0 : Nonempty (InClass S) := ⟨⟨_, hS0⟩⟩
      clear hSd
      have hpz := pX.lt
      have k0 : ∀ x : InClass S, x.w.cell? ⟨w.heap.size, 0, none⟩ = some (.int .i64 n) := fun x => ((hSend _ x.h).cell (p := ⟨w.heap.size, 0, none⟩) hpz).trans c0
      have k1 : ∀ x : InClass S, x.w.cell? ⟨w.heap.size, 1, none⟩ = some (.int .i64 d) := fun x => ((hSend _ x.h).cell (p := ⟨w.heap.size, 1, none⟩) hpz).trans c1
      have GX := fun (x : InClass S) (z : Int) (h0 : -1000000000000 ≤ z) (h1 : z ≤ 1000000000000) => IF x.w (hT.below (hSend _ x.h)) z h0 h1
      clear FA IF c0 c1 hpz pX hok hT
      refine wp_region_class (S := S) (by kernel_rfl) (by kernel_rfl) hS0 ?_
      repeat (go_big_quiet_step ((go_at_call 27; exact class_call (GX _ _ (by omega) (by omega)) hkeep)))
      refine wpQuiet_nil ?_
      rintro w5 ⟨x5, hx5⟩
      have hS5 := hSend w5 (by rw [hx5]; exact x5.h)
      clear hx5 x5
      go_wp2_with fail
      go_ret
      exact ⟨by first | rfl | simp, hB1.trans (hS5.mono hB1.size)⟩
end Go.Proofs.YtanpmbiblibgfaaGreatDoor
