/- The law of the texts of fractions. Conditions: the variables that the row lists lie as the library lays them. -/
import Derived.Test.YtdccdoodmiihbaaDoorParW
import Derived.Test.YtdccdoodmiihbaaDoorDrawFr
namespace Go.Proofs.YtdccdoodmiihbaaDoor
open Go.RowKit Go.Lib
set_option linter.unusedVariables false
theorem pfI_fmt {a : Fr} (h : fracOkL a = true) : pfI (fmtL a) = some a := pfI_iff.2 ⟨h, rfl⟩
theorem atoi_one : atoi [49] = some 1 := rfl
theorem pfI_slash1 {a : Fr} (h : fracOkL a = true) : pfI (fmtL a ++ [47, 49]) = none := by
  cases e : pfI (fmtL a ++ [47, 49]) with
  | none => rfl
  | some x =>
    exfalso
    obtain ⟨hx, hf⟩ := pfI_iff.1 e
    by_cases x1 : x.2 = 1
    · rw [fmtL_one hx x1] at hf
      exact itoa_slash x.1 47 (by rw [hf]; simp) rfl
    · have hc : cut (fmtL x) [47] = (itoa x.1, itoa x.2, true) := by rw [fmtL_two hx x1]; exact cut_at _ (itoa_slash _)
      rw [hf] at hc
      by_cases a1 : a.2 = 1
      · have hd : cut (fmtL a ++ [47, 49]) [47] = (itoa a.1, [49], true) := by rw [fmtL_one h a1]; exact cut_at [49] (itoa_slash _)
        rw [hd] at hc
        injection hc with _ hc
        injection hc with hc _
        have h1 := atoi_itoa x.2
        rw [← hc, atoi_one] at h1
        injection h1 with h1
        exact x1 h1.symm
      · have hd : cut (fmtL a ++ [47, 49]) [47] = (itoa a.1, itoa a.2 ++ [47, 49], true) := by
          rw [fmtL_two h a1, List.append_assoc]
          exact cut_at (itoa a.2 ++ [47, 49]) (itoa_slash _)
        rw [hd] at hc
        injection hc with _ hc
        injection hc with hc _
        exact itoa_slash x.2 47 (by rw [← hc]; simp) rfl
theorem big_ok : fracOkL (-1000000000000, 1) = true := by decide
theorem laidE_ft {W : World} (h : laidMet Tryd.prog Rows.fnFracTextsRow.laid W) : LaidE W :=
  ⟨laidW_of h (by kernel_rfl), sentinelOf (g := 2) (D := Rows.laid_strconv_ErrSyntax) h (by kernel_rfl) ⟨_, _, rfl⟩ (by kernel_rfl) (by kernel_rfl), sentinelOf (g := 3) (D := Rows.laid_strconv_ErrRange) h (by kernel_rfl) ⟨_, _, rfl⟩ (by kernel_rfl) (by kernel_rfl)⟩

set_option maxRecDepth 8000 in
set_option maxHeartbeats 3200000 in
theorem walkFracTexts (A : Option Addr) (n c : Nat) (w : World) (hb : Bys w w.heap.size A n) (hL : laidMet Tryd.prog Rows.fnFracTextsRow.laid w) :
    Calls Tryd.prog 7 #[.slice A n c] w fun e w' => e = .returned (.bool true) ∧ Below w.heap.size w w' := by
  have hn := hb.1
  by_cases hbig : (1048576 : Int) < n
  · have hd : decide ((1048576 : Int) < n) = true := by simpa using hbig
    go_enter Tryd.func7, Tryd.ntmps7
    go_wp2_with fail
    refine (lBig _ _ _ _ (by omega)).mono ?_
    rintro e w' ⟨rfl, rfl⟩
    go_wp2_with fail
    go_ret
    exact ⟨rfl, Below.refl _ _⟩
  · have hbg : decide ((1048576 : Int) < n) = false := by simpa using hbig
    have hE := laidE_ft hL
    clear hL
    go_enter Tryd.func7, Tryd.ntmps7
    go_wp2_with fail
    refine (lBig _ _ _ _ (by omega)).mono ?_
    rintro e w' ⟨rfl, rfl⟩
    go_wp2_with fail
    refine (sDrawFrac _ _ _ _ hb).mono ?_
    rintro e w1 ⟨p, q, rfl, hok, hb1⟩
    have hs1 := hb1.size
    obtain ⟨lf, hlf⟩ : ∃ l, l = fmtL (p, q) := ⟨_, rfl⟩
    have hlen : lf.length ≤ 25 := by rw [hlf]; exact fmtL_len hok
    have FF := fun (v : World) (hv : LaidE v) => iFormatFrac p q v hv.1
    rw [← hlf] at FF
    have P1 := fun (v : World) (hv : LaidE v) => iParseFrac ⟨lf.toArray⟩ v (by simp [ByteArray.size]; omega) hv
    skip
    simp only [show pfI lf = some (p, q) by rw [hlf]; exact pfI_fmt hok] at P1
    have hcat : (ByteArray.mk lf.toArray ++ ByteArray.mk #[47, 49]) = ByteArray.mk (lf ++ [47, 49]).toArray := ByteArray.mk_append_mk lf [47, 49]
    have P2 : ∀ (v : World), LaidE v → Calls Tryd.prog 9 #[.string (ByteArray.mk lf.toArray ++ ByteArray.mk #[47, 49])] v fun e w' => e = .returned (vOpt none) ∧ Below v.heap.size v w' := fun v hv => by
      rw [hcat]
      have k := iParseFrac ⟨(lf ++ [47, 49]).toArray⟩ v (by simp [ByteArray.size]; omega) hv
      skip
      simp only [show pfI (lf ++ [47, 49]) = none by rw [hlf]; exact pfI_slash1 hok] at k
      exact k
    obtain ⟨lb, hlb⟩ : ∃ l, l = fmtL (-1000000000000, 1) := ⟨_, rfl⟩
    have hlb2 : lb.length ≤ 25 := by rw [hlb]; exact fmtL_len big_ok
    have FB := fun (v : World) (hv : LaidE v) => iFormatFrac (-1000000000000) 1 v hv.1
    rw [← hlb] at FB
    have P3 := fun (v : World) (hv : LaidE v) => iParseFrac ⟨lb.toArray⟩ v (by simp [ByteArray.size]; omega) hv
    skip
    simp only [show pfI lb = some (-1000000000000, 1) by rw [hlb]; exact pfI_fmt big_ok] at P3
    simp only [vOpt, oN_some, oD_some, oB_some, oN_none, oD_none, oB_none] at P1 P2 P3
    have hl25 : (lf.length : Int) ≤ 25 := by omega
    clear hlf hlb hcat hok hlen hlb2
    have hx1 : Below w1.heap.size w1 (w1.alloc (.cells #[.int .i64 p, .int .i64 q] 23)) := (by (repeat (first | (with_reducible exact Below.refl _ _) | (with_reducible assumption) | (with_reducible refine Below.drew ?_) | (with_reducible refine below_drewN ?_ _) | ((with_reducible refine Below.setCell ?_ ?_ _); rotate_left; focus (first | (simp; done) | omega | (simp; omega))) | ((with_reducible refine Below.alloc ?_ ?_ _); rotate_left; focus (first | exact Nat.le_refl _ | omega | (simp; done) | (simp; omega))))))
    have hy1 := hx1.size
    have hA1 : Below w.heap.size w (w1.alloc (.cells #[.int .i64 p, .int .i64 q] 23)) := hb1.trans (hx1.mono hb1.size)
    have pA : Whole (w1.alloc (.cells #[.int .i64 p, .int .i64 q] 23)) (w1.heap.size) 23 #[.int .i64 p, .int .i64 q] := (Whole.new w1 23 #[.int .i64 p, .int .i64 q])
    obtain ⟨b1a, hbq1a⟩ : ∃ b, b = w1.heap.size := ⟨_, rfl⟩
    obtain ⟨u1, hu1⟩ : ∃ u, u = (w1.alloc (.cells #[.int .i64 p, .int .i64 q] 23)) := ⟨_, rfl⟩
    rw [← hu1] at pA hA1 hy1
    rw [← hbq1a] at pA
    clear hx1
    go_upto_region 4 with fail
    rw [← hu1]
    rw [← hbq1a]
    clear hu1 hbq1a
    have pAq0 : u1.cell? ⟨b1a, 0, none⟩ = some (.int .i64 p) := pA.cell 0
    have pAq1 : u1.cell? ⟨b1a, 1, none⟩ = some (.int .i64 q) := pA.cell 1
    have pAz := pA.lt
    go_wp2_with fail
    refine (FF u1 (hE.below hA1)).mono ?_
    rintro e w2 ⟨rfl, hb2⟩
    clear pAq0 pAq1 pAz
    have hs2 := hb2.size
    replace pA := pA.below hb2 pA.lt
    have hB2 : Below w.heap.size w w2 := hA1.trans (hb2.mono hA1.size)
    clear FF
    have pAq0 : w2.cell? ⟨b1a, 0, none⟩ = some (.int .i64 p) := pA.cell 0
    have pAq1 : w2.cell? ⟨b1a, 1, none⟩ = some (.int .i64 q) := pA.cell 1
    have pAz := pA.lt
    go_wp2_with fail
    refine (P1 w2 (hE.below hB2)).mono ?_
    rintro e w3 ⟨rfl, hb3⟩
    clear pAq0 pAq1 pAz
    have hs3 := hb3.size
    replace pA := pA.below hb3 pA.lt
    have hB3 : Below w.heap.size w w3 := hB2.trans (hb3.mono hB2.size)
    clear P1
    have hx3 : Below w3.heap.size w3 (w3.alloc (.cells #[.int .i64 p, .int .i64 q] 23)) := (by (repeat (first | (with_reducible exact Below.refl _ _) | (with_reducible assumption) | (with_reducible refine Below.drew ?_) | (with_reducible refine below_drewN ?_ _) | ((with_reducible refine Below.setCell ?_ ?_ _); rotate_left; focus (first | (simp; done) | omega | (simp; omega))) | ((with_reducible refine Below.alloc ?_ ?_ _); rotate_left; focus (first | exact Nat.le_refl _ | omega | (simp; done) | (simp; omega))))))
    have hy3 := hx3.size
    replace pA := pA.below hx3 pA.lt
    have hA3 : Below w.heap.size w (w3.alloc (.cells #[.int .i64 p, .int .i64 q] 23)) := hB3.trans (hx3.mono hB3.size)
    have pB : Whole (w3.alloc (.cells #[.int .i64 p, .int .i64 q] 23)) (w3.heap.size) 23 #[.int .i64 p, .int .i64 q] := (Whole.new w3 23 #[.int .i64 p, .int .i64 q])
    obtain ⟨b3a, hbq3a⟩ : ∃ b, b = w3.heap.size := ⟨_, rfl⟩
    obtain ⟨u3, hu3⟩ : ∃ u, u = (w3.alloc (.cells #[.int .i64 p, .int .i64 q] 23)) := ⟨_, rfl⟩
    rw [← hu3] at pA pB hA3 hy3
    rw [← hbq3a] at pB
    clear hx3
    go_upto_region 6 with fail
    rw [← hu3]
    rw [← hbq3a]
    clear hu3 hbq3a
    have pAq0 : u3.cell? ⟨b1a, 0, none⟩ = some (.int .i64 p) := pA.cell 0
    have pAq1 : u3.cell? ⟨b1a, 1, none⟩ = some (.int .i64 q) := pA.cell 1
    have pAz := pA.lt
    have pBq0 : u3.cell? ⟨b3a, 0, none⟩ = some (.int .i64 p) := pB.cell 0
    have pBq1 : u3.cell? ⟨b3a, 1, none⟩ = some (.int .i64 q) := pB.cell 1
    have pBz := pB.lt
    go_wp2_with fail
    refine (P2 u3 (hE.below hA3)).mono ?_
    rintro e w4 ⟨rfl, hb4⟩
    clear pAq0 pAq1 pBq0 pBq1 pAz pBz
    have hs4 := hb4.size
    replace pA := pA.below hb4 pA.lt
    replace pB := pB.below hb4 pB.lt
    have hB4 : Below w.heap.size w w4 := hA3.trans (hb4.mono hA3.size)
    clear P2
    have hx4 : Below w4.heap.size w4 (w4.alloc (.cells #[.int .i64 0, .int .i64 0] 23)) := (by (repeat (first | (with_reducible exact Below.refl _ _) | (with_reducible assumption) | (with_reducible refine Below.drew ?_) | (with_reducible refine below_drewN ?_ _) | ((with_reducible refine Below.setCell ?_ ?_ _); rotate_left; focus (first | (simp; done) | omega | (simp; omega))) | ((with_reducible refine Below.alloc ?_ ?_ _); rotate_left; focus (first | exact Nat.le_refl _ | omega | (simp; done) | (simp; omega))))))
    have hy4 := hx4.size
    replace pA := pA.below hx4 pA.lt
    replace pB := pB.below hx4 pB.lt
    have hA4 : Below w.heap.size w (w4.alloc (.cells #[.int .i64 0, .int .i64 0] 23)) := hB4.trans (hx4.mono hB4.size)
    have pZ : Whole (w4.alloc (.cells #[.int .i64 0, .int .i64 0] 23)) (w4.heap.size) 23 #[.int .i64 0, .int .i64 0] := (Whole.new w4 23 #[.int .i64 0, .int .i64 0])
    obtain ⟨b4a, hbq4a⟩ : ∃ b, b = w4.heap.size := ⟨_, rfl⟩
    obtain ⟨u4, hu4⟩ : ∃ u, u = (w4.alloc (.cells #[.int .i64 0, .int .i64 0] 23)) := ⟨_, rfl⟩
    rw [← hu4] at pA pB pZ hA4 hy4
    rw [← hbq4a] at pZ
    clear hx4
    go_upto_region 7 with fail
    rw [← hu4]
    rw [← hbq4a]
    clear hu4 hbq4a
    have hx14 : Below u4.heap.size u4 (u4.alloc (.cells #[.int .i64 (-1000000000000), .int .i64 1] 23)) := (by (repeat (first | (with_reducible exact Below.refl _ _) | (with_reducible assumption) | (with_reducible refine Below.drew ?_) | (with_reducible refine below_drewN ?_ _) | ((with_reducible refine Below.setCell ?_ ?_ _); rotate_left; focus (first | (simp; done) | omega | (simp; omega))) | ((with_reducible refine Below.alloc ?_ ?_ _); rotate_left; focus (first | exact Nat.le_refl _ | omega | (simp; done) | (simp; omega))))))
    have hy14 := hx14.size
    replace pA := pA.below hx14 pA.lt
    replace pB := pB.below hx14 pB.lt
    replace pZ := pZ.below hx14 pZ.lt
    have hA14 : Below w.heap.size w (u4.alloc (.cells #[.int .i64 (-1000000000000), .int .i64 1] 23)) := hA4.trans (hx14.mono hA4.size)
    have pC : Whole (u4.alloc (.cells #[.int .i64 (-1000000000000), .int .i64 1] 23)) (u4.heap.size) 23 #[.int .i64 (-1000000000000), .int .i64 1] := (Whole.new u4 23 #[.int .i64 (-1000000000000), .int .i64 1])
    obtain ⟨b14a, hbq14a⟩ : ∃ b, b = u4.heap.size := ⟨_, rfl⟩
    obtain ⟨u14, hu14⟩ : ∃ u, u = (u4.alloc (.cells #[.int .i64 (-1000000000000), .int .i64 1] 23)) := ⟨_, rfl⟩
    rw [← hu14] at pA pB pZ pC hA14 hy14
    rw [← hbq14a] at pC
    clear hx14
    go_upto_region 8 with fail
    rw [← hu14]
    rw [← hbq14a]
    clear hu14 hbq14a
    have pAq0 : u14.cell? ⟨b1a, 0, none⟩ = some (.int .i64 p) := pA.cell 0
    have pAq1 : u14.cell? ⟨b1a, 1, none⟩ = some (.int .i64 q) := pA.cell 1
    have pAz := pA.lt
    have pBq0 : u14.cell? ⟨b3a, 0, none⟩ = some (.int .i64 p) := pB.cell 0
    have pBq1 : u14.cell? ⟨b3a, 1, none⟩ = some (.int .i64 q) := pB.cell 1
    have pBz := pB.lt
    have pZq0 : u14.cell? ⟨b4a, 0, none⟩ = some (.int .i64 0) := pZ.cell 0
    have pZq1 : u14.cell? ⟨b4a, 1, none⟩ = some (.int .i64 0) := pZ.cell 1
    have pZz := pZ.lt
    have pCq0 : u14.cell? ⟨b14a, 0, none⟩ = some (.int .i64 (-1000000000000)) := pC.cell 0
    have pCq1 : u14.cell? ⟨b14a, 1, none⟩ = some (.int .i64 1) := pC.cell 1
    have pCz := pC.lt
    go_wp2_with fail
    refine (FB u14 (hE.below hA14)).mono ?_
    rintro e w15 ⟨rfl, hb15⟩
    clear pAq0 pAq1 pBq0 pBq1 pZq0 pZq1 pCq0 pCq1 pAz pBz pZz pCz
    have hs15 := hb15.size
    replace pA := pA.below hb15 pA.lt
    replace pB := pB.below hb15 pB.lt
    replace pZ := pZ.below hb15 pZ.lt
    replace pC := pC.below hb15 pC.lt
    have hB15 : Below w.heap.size w w15 := hA14.trans (hb15.mono hA14.size)
    clear FB
    have pAq0 : w15.cell? ⟨b1a, 0, none⟩ = some (.int .i64 p) := pA.cell 0
    have pAq1 : w15.cell? ⟨b1a, 1, none⟩ = some (.int .i64 q) := pA.cell 1
    have pAz := pA.lt
    have pBq0 : w15.cell? ⟨b3a, 0, none⟩ = some (.int .i64 p) := pB.cell 0
    have pBq1 : w15.cell? ⟨b3a, 1, none⟩ = some (.int .i64 q) := pB.cell 1
    have pBz := pB.lt
    have pZq0 : w15.cell? ⟨b4a, 0, none⟩ = some (.int .i64 0) := pZ.cell 0
    have pZq1 : w15.cell? ⟨b4a, 1, none⟩ = some (.int .i64 0) := pZ.cell 1
    have pZz := pZ.lt
    have pCq0 : w15.cell? ⟨b14a, 0, none⟩ = some (.int .i64 (-1000000000000)) := pC.cell 0
    have pCq1 : w15.cell? ⟨b14a, 1, none⟩ = some (.int .i64 1) := pC.cell 1
    have pCz := pC.lt
    go_wp2_with fail
    refine (P3 w15 (hE.below hB15)).mono ?_
    rintro e w16 ⟨rfl, hb16⟩
    clear pAq0 pAq1 pBq0 pBq1 pZq0 pZq1 pCq0 pCq1 pAz pBz pZz pCz
    have hs16 := hb16.size
    replace pA := pA.below hb16 pA.lt
    replace pB := pB.below hb16 pB.lt
    replace pZ := pZ.below hb16 pZ.lt
    replace pC := pC.below hb16 pC.lt
    have hB16 : Below w.heap.size w w16 := hB15.trans (hb16.mono hB15.size)
    clear P3
    have hx16 : Below w16.heap.size w16 (w16.alloc (.cells #[.int .i64 (-1000000000000), .int .i64 1] 23)) := (by (repeat (first | (with_reducible exact Below.refl _ _) | (with_reducible assumption) | (with_reducible refine Below.drew ?_) | (with_reducible refine below_drewN ?_ _) | ((with_reducible refine Below.setCell ?_ ?_ _); rotate_left; focus (first | (simp; done) | omega | (simp; omega))) | ((with_reducible refine Below.alloc ?_ ?_ _); rotate_left; focus (first | exact Nat.le_refl _ | omega | (simp; done) | (simp; omega))))))
    have hy16 := hx16.size
    replace pA := pA.below hx16 pA.lt
    replace pB := pB.below hx16 pB.lt
    replace pZ := pZ.below hx16 pZ.lt
    replace pC := pC.below hx16 pC.lt
    have hA16 : Below w.heap.size w (w16.alloc (.cells #[.int .i64 (-1000000000000), .int .i64 1] 23)) := hB16.trans (hx16.mono hB16.size)
    have pD : Whole (w16.alloc (.cells #[.int .i64 (-1000000000000), .int .i64 1] 23)) (w16.heap.size) 23 #[.int .i64 (-1000000000000), .int .i64 1] := (Whole.new w16 23 #[.int .i64 (-1000000000000), .int .i64 1])
    obtain ⟨b16a, hbq16a⟩ : ∃ b, b = w16.heap.size := ⟨_, rfl⟩
    obtain ⟨u16, hu16⟩ : ∃ u, u = (w16.alloc (.cells #[.int .i64 (-1000000000000), .int .i64 1] 23)) := ⟨_, rfl⟩
    rw [← hu16] at pA pB pZ pC pD hA16 hy16
    rw [← hbq16a] at pD
    clear hx16
    go_upto_region 9 with fail
    rw [← hu16]
    rw [← hbq16a]
    clear hu16 hbq16a
    have pAq0 : u16.cell? ⟨b1a, 0, none⟩ = some (.int .i64 p) := pA.cell 0
    have pAq1 : u16.cell? ⟨b1a, 1, none⟩ = some (.int .i64 q) := pA.cell 1
    have pAz := pA.lt
    have pBq0 : u16.cell? ⟨b3a, 0, none⟩ = some (.int .i64 p) := pB.cell 0
    have pBq1 : u16.cell? ⟨b3a, 1, none⟩ = some (.int .i64 q) := pB.cell 1
    have pBz := pB.lt
    have pZq0 : u16.cell? ⟨b4a, 0, none⟩ = some (.int .i64 0) := pZ.cell 0
    have pZq1 : u16.cell? ⟨b4a, 1, none⟩ = some (.int .i64 0) := pZ.cell 1
    have pZz := pZ.lt
    have pCq0 : u16.cell? ⟨b14a, 0, none⟩ = some (.int .i64 (-1000000000000)) := pC.cell 0
    have pCq1 : u16.cell? ⟨b14a, 1, none⟩ = some (.int .i64 1) := pC.cell 1
    have pCz := pC.lt
    have pDq0 : u16.cell? ⟨b16a, 0, none⟩ = some (.int .i64 (-1000000000000)) := pD.cell 0
    have pDq1 : u16.cell? ⟨b16a, 1, none⟩ = some (.int .i64 1) := pD.cell 1
    have pDz := pD.lt
    go_wp2_with fail
    go_ret
    exact ⟨rfl, hA16⟩
end Go.Proofs.YtdccdoodmiihbaaDoor
