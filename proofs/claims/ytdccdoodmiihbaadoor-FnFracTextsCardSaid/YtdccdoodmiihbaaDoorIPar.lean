/- A number and a fraction out of a text, by the program. Conditions: the table and the sentinels lie as the library lays them. -/
import Derived.Test.YtdccdoodmiihbaaDoorFmtI
import Derived.Test.YtdccdoodmiihbaaDoorShA
import Derived.Test.YtdccdoodmiihbaaDoorMem
import Derived.Deep.Cut
namespace Go.Proofs.YtdccdoodmiihbaaDoor
open Go.RowKit Go.Lib
set_option linter.unusedVariables false
set_option linter.unusedSimpArgs false
theorem cut_len (l sep : List UInt8) : (cut l sep).1.length ≤ l.length ∧ (cut l sep).2.1.length ≤ l.length := by
  rw [cut]
  split
  · exact ⟨by rw [List.length_take]; omega, by rw [List.length_drop]; omega⟩
  · exact ⟨Nat.le_refl _, Nat.zero_le _⟩
theorem puL_long {l : List UInt8} (h : 10 < l.length) : puL l = none := by rw [puL, if_neg (by omega)]
theorem puL_bad {l : List UInt8} (h : ∀ x, atoiAll l ≠ .ok x) : puL l = none := by
  rw [puL]
  split
  · cases e : atoiAll l
    case ok x => exact absurd e (h x)
    all_goals rfl
  · rfl
theorem puL_ok {l : List UInt8} {v : Int} (h : l.length ≤ 10) (e : atoiAll l = .ok v) : puL l = if (0 ≤ v ∧ v ≤ 1000000000) ∧ itoa v = l then some v else none := by rw [puL, if_pos h, e]
theorem pfI_bad {l : List UInt8} (h : ∀ x, atoiAll (cut l [47]).1 ≠ .ok x) : pfI l = none := by
  rw [pfI]
  cases e : atoiAll (cut l [47]).1
  case ok x => exact absurd e (h x)
  all_goals rfl
theorem pfI_ok {l : List UInt8} {v : Int} (e : atoiAll (cut l [47]).1 = .ok v) : pfI l = if l ≠ [] ∧ fmtL (v, denI l) = l then some (v, denI l) else none := by rw [pfI, e]
theorem puL_bounds {l : List UInt8} {v : Int} (h : puL l = some v) : 0 ≤ v ∧ v ≤ 1000000000 := by
  rw [puL] at h
  split at h
  · split at h
    · split at h
      · rename_i hh
        injection h with h
        subst h
        exact hh.1
      · cases h
    · cases h
  · cases h

set_option maxRecDepth 8000 in
set_option maxHeartbeats 3200000 in
theorem iParseUint (s : ByteArray) (hs : s.size ≤ 281474976710656) (w : World) (hE : LaidE w) :
    Calls Tryd.prog 28 #[.string s] w fun e w' => e = .returned (.tuple #[.int .i64 ((puL s.data.toList).getD 0), .bool (puL s.data.toList).isSome]) ∧ Below w.heap.size w w' := by
  have hlen : s.data.toList.length = s.size := Array.length_toList
  by_cases h10 : 10 < s.size
  · have hres : puL s.data.toList = none := puL_long (by omega)
    have h10i : (10 : Int) < s.size := by omega
    clear hlen
    go_enter Tryd.func28, Tryd.ntmps28
    go_wp2_with fail
    refine bodyPost_ret (v := .tuple #[.int .i64 0, .bool false]) (by simp [results, Tryd.results28, go_sem]) rfl ⟨by rw [hres]; rfl, (by (repeat (first | (with_reducible exact Below.refl _ _) | (with_reducible assumption) | (with_reducible refine Below.drew ?_) | (with_reducible refine below_drewN ?_ _) | ((with_reducible refine Below.setCell ?_ ?_ _); rotate_left; focus (first | (simp; done) | omega | (simp; omega))) | ((with_reducible refine Below.alloc ?_ ?_ _); rotate_left; focus (first | exact Nat.le_refl _ | omega | (simp; done) | (simp; omega))))))⟩
  · have h10i : ¬ (10 : Int) < s.size := by omega
    have HL := Lib.hid (show s.data.toList.length ≤ 10 by omega)
    clear hlen
    go_enter Tryd.func28, Tryd.ntmps28
    go_wp2_with fail
    refine (iAtoi s hs _ hE).mono ?_
    rintro e w1 ⟨v, er, rfl, hA, hv, hb1⟩
    have hE1 := hE.below hb1
    rcases hA with ⟨ha, rfl⟩ | ⟨ha, tp, p, rfl⟩
    · have hP := puL_ok HL.out ha
      have HP := Lib.hid hP
      clear ha hP
      by_cases hin : 0 ≤ v ∧ v ≤ 1000000000
      · have hw : inB v 0 1000000000 = true := inB_t hin.1 hin.2
        obtain ⟨lf, hlf⟩ : ∃ l, l = itoa v := ⟨_, rfl⟩
        have FI := fun (u : World) (hu : LaidW u) => iFormatInt v hv.1 hv.2 u hu
        rw [← hlf] at FI
        have HF := Lib.hid hlf
        have HIN := Lib.hid hin
        by_cases hq : lf = s.data.toList
        · have hres : puL s.data.toList = some v := by rw [HP.out, if_pos ⟨HIN.out, by rw [← HF.out]; exact hq⟩]
          have hcm : (lf == s.toList) = true := by rw [ByteArray.toList_eq]; simpa using hq
          clear hq
          clear hlf hin hv
          go_wp2_with fail
          refine (within_any _ _ _ _).mono ?_
          rintro e w' ⟨rfl, rfl⟩
          rw [hw]
          go_wp2_with fail
          refine (FI _ hE1.1).mono ?_
          rintro e w2 ⟨rfl, hb2⟩
          clear FI
          have hB := hb1.trans (hb2.mono hb1.size)
          go_wp2_with fail
          refine bodyPost_ret (v := .tuple #[.int .i64 v, .bool true]) (by simp [results, Tryd.results28, go_sem]) rfl ⟨by rw [hres]; rfl, (by (repeat (first | (with_reducible exact Below.refl _ _) | (with_reducible assumption) | (with_reducible refine Below.drew ?_) | (with_reducible refine below_drewN ?_ _) | ((with_reducible refine Below.setCell ?_ ?_ _); rotate_left; focus (first | (simp; done) | omega | (simp; omega))) | ((with_reducible refine Below.alloc ?_ ?_ _); rotate_left; focus (first | exact Nat.le_refl _ | omega | (simp; done) | (simp; omega))))))⟩
        · have hres : puL s.data.toList = none := by rw [HP.out, if_neg (fun h => hq (by rw [HF.out]; exact h.2))]
          have hcm : (lf == s.toList) = false := by rw [ByteArray.toList_eq]; simpa using hq
          clear hq
          clear hlf hin hv
          go_wp2_with fail
          refine (within_any _ _ _ _).mono ?_
          rintro e w' ⟨rfl, rfl⟩
          rw [hw]
          go_wp2_with fail
          refine (FI _ hE1.1).mono ?_
          rintro e w2 ⟨rfl, hb2⟩
          clear FI
          have hB := hb1.trans (hb2.mono hb1.size)
          go_wp2_with fail
          refine bodyPost_ret (v := .tuple #[.int .i64 0, .bool false]) (by simp [results, Tryd.results28, go_sem]) rfl ⟨by rw [hres]; rfl, (by (repeat (first | (with_reducible exact Below.refl _ _) | (with_reducible assumption) | (with_reducible refine Below.drew ?_) | (with_reducible refine below_drewN ?_ _) | ((with_reducible refine Below.setCell ?_ ?_ _); rotate_left; focus (first | (simp; done) | omega | (simp; omega))) | ((with_reducible refine Below.alloc ?_ ?_ _); rotate_left; focus (first | exact Nat.le_refl _ | omega | (simp; done) | (simp; omega))))))⟩
      · have hw : inB v 0 1000000000 = false := by cases hq : inB v 0 1000000000 with
      | false => rfl
      | true => exact absurd (inB_iff.1 hq) hin
        have hres : puL s.data.toList = none := by rw [HP.out, if_neg (fun h => hin h.1)]
        clear hin hv
        go_wp2_with fail
        refine (within_any _ _ _ _).mono ?_
        rintro e w' ⟨rfl, rfl⟩
        rw [hw]
        go_wp2_with fail
        refine bodyPost_ret (v := .tuple #[.int .i64 0, .bool false]) (by simp [results, Tryd.results28, go_sem]) rfl ⟨by rw [hres]; rfl, (by (repeat (first | (with_reducible exact Below.refl _ _) | (with_reducible assumption) | (with_reducible refine Below.drew ?_) | (with_reducible refine below_drewN ?_ _) | ((with_reducible refine Below.setCell ?_ ?_ _); rotate_left; focus (first | (simp; done) | omega | (simp; omega))) | ((with_reducible refine Below.alloc ?_ ?_ _); rotate_left; focus (first | exact Nat.le_refl _ | omega | (simp; done) | (simp; omega))))))⟩
    · have hres : puL s.data.toList = none := puL_bad ha
      clear ha hv
      go_wp2_with fail
      refine bodyPost_ret (v := .tuple #[.int .i64 0, .bool false]) (by simp [results, Tryd.results28, go_sem]) rfl ⟨by rw [hres]; rfl, (by (repeat (first | (with_reducible exact Below.refl _ _) | (with_reducible assumption) | (with_reducible refine Below.drew ?_) | (with_reducible refine below_drewN ?_ _) | ((with_reducible refine Below.setCell ?_ ?_ _); rotate_left; focus (first | (simp; done) | omega | (simp; omega))) | ((with_reducible refine Below.alloc ?_ ?_ _); rotate_left; focus (first | exact Nat.le_refl _ | omega | (simp; done) | (simp; omega))))))⟩

set_option maxRecDepth 8000 in
set_option maxHeartbeats 12800000 in
theorem iParseFrac (t : ByteArray) (w : World) (ht : t.size ≤ 281474976710656) (hE : LaidE w) :
    Calls Tryd.prog 9 #[.string t] w fun e w' => e = .returned (vOpt (pfI t.data.toList)) ∧ Below w.heap.size w w' := by
  have hlen : t.data.toList.length = t.size := Array.length_toList
  have hbx : Below w.heap.size w (w.alloc (.cells #[.int .i64 0, .int .i64 0] 23)) := (by (repeat (first | (with_reducible exact Below.refl _ _) | (with_reducible assumption) | (with_reducible refine Below.drew ?_) | (with_reducible refine below_drewN ?_ _) | ((with_reducible refine Below.setCell ?_ ?_ _); rotate_left; focus (first | (simp; done) | omega | (simp; omega))) | ((with_reducible refine Below.alloc ?_ ?_ _); rotate_left; focus (first | exact Nat.le_refl _ | omega | (simp; done) | (simp; omega))))))
  have pR : Whole (w.alloc (.cells #[.int .i64 0, .int .i64 0] 23)) w.heap.size 23 #[.int .i64 0, .int .i64 0] := Whole.new _ _ _
  have hcl := cut_len t.data.toList [47]
  have HB := Lib.hid (fun (h : ∀ x, atoiAll (cut t.data.toList [47]).1 ≠ .ok x) => pfI_bad h)
  have HO := Lib.hid (fun (v : Int) (h : atoiAll (cut t.data.toList [47]).1 = .ok v) => pfI_ok h)
  have hden : denI t.data.toList = if (cut t.data.toList [47]).2.2 = true then (puL (cut t.data.toList [47]).2.1).getD 0 else 1 := rfl
  have CC := fun (v : World) => iCut t (by omega) v
  obtain ⟨c, hc⟩ : ∃ c, c = cut t.data.toList [47] := ⟨_, rfl⟩
  rw [← hc] at hcl HB HO hden CC
  obtain ⟨c1, c2, c3⟩ := c
  dsimp only at hcl hden CC
  have HC := Lib.hid hc
  clear hc
  have HB2 : Hid ((∀ x, atoiAll c1 ≠ .ok x) → pfI t.data.toList = none) := HB
  have HO2 : Hid (∀ v : Int, atoiAll c1 = .ok v → pfI t.data.toList = if t.data.toList ≠ [] ∧ fmtL (v, denI t.data.toList) = t.data.toList then some (v, denI t.data.toList) else none) := HO
  clear HB HO
  have z1 : (⟨c1.toArray⟩ : ByteArray).size ≤ 281474976710656 := by simp [ByteArray.size]; omega
  have z2 : (⟨c2.toArray⟩ : ByteArray).size ≤ 281474976710656 := by simp [ByteArray.size]; omega
  have CA := fun (v : World) (hv : LaidE v) => iAtoi ⟨c1.toArray⟩ z1 v hv
  have CU := fun (v : World) (hv : LaidE v) => iParseUint ⟨c2.toArray⟩ z2 v hv
  have CA := fun (v : World) (hv : LaidE v) => iAtoi ⟨c1.toArray⟩ z1 v hv
  have CU := fun (v : World) (hv : LaidE v) => iParseUint ⟨c2.toArray⟩ z2 v hv
  simp only [List.toList_toArray] at CA CU
  cases c3 with
  | false =>
    rw [if_neg (by decide)] at hden
    clear hlen hcl z1 z2
    go_enter Tryd.func9, Tryd.ntmps9
    go_wp2_with fail
    refine (CC _).mono ?_
    rintro e w1 ⟨rfl, hb1⟩
    have hs1 := hb1.size
    have pR1 := pR.below hb1 pR.lt
    have h1 := hbx.trans (hb1.mono hbx.size)
    clear CC pR hbx hb1
    have hx1 : Below w1.heap.size w1 (w1.alloc (.cells #[.int .i64 0, .int .i64 1] 23)) := (by (repeat (first | (with_reducible exact Below.refl _ _) | (with_reducible assumption) | (with_reducible refine Below.drew ?_) | (with_reducible refine below_drewN ?_ _) | ((with_reducible refine Below.setCell ?_ ?_ _); rotate_left; focus (first | (simp; done) | omega | (simp; omega))) | ((with_reducible refine Below.alloc ?_ ?_ _); rotate_left; focus (first | exact Nat.le_refl _ | omega | (simp; done) | (simp; omega))))))
    have pX1 := Whole.new w1 23 #[.int .i64 0, .int .i64 1]
    have pR2 := pR1.below hx1 pR1.lt
    have h2 := h1.trans (hx1.mono h1.size)
    have hzR := pR1.lt
    go_wp2_with fail
    refine (CA _ (hE.below h2)).mono ?_
    rintro e w2 ⟨v, er, rfl, hA, hv, hb2⟩
    have hs2 := hb2.size
    have pR3 := pR2.below hb2 pR2.lt
    have pX3 := pX1.below hb2 pX1.lt
    have h3 := h2.trans (hb2.mono h2.size)
    obtain ⟨bX, hbX⟩ : ∃ b, b = w1.heap.size := ⟨_, rfl⟩
    rw [← hbX] at pX3 hzR ⊢
    clear CA pR1 pX1 pR2 hx1 h1 h2 hb2 hs1 hs2 hbX
    have hne : ¬ w.heap.size = bX := by omega
    have hne2 : ¬ bX = w.heap.size := by omega
    clear CU
    have c0 : w2.cell? ⟨bX, 0, none⟩ = some (.int .i64 0) := pX3.cell 0
    have g0 := pX3.free 0
    have zX := pX3.lt
    obtain ⟨w4, hw4⟩ : ∃ u, u = w2.setCell ⟨bX, 0, none⟩ (.int .i64 v) := ⟨_, rfl⟩
    have pX4 : Whole w4 bX 23 #[.int .i64 v, .int .i64 1] := by rw [hw4]; simpa using pX3.put 0 (.int .i64 v)
    have pR4 : Whole w4 w.heap.size 23 #[.int .i64 0, .int .i64 0] := by rw [hw4]; exact pR3.far (p := ⟨bX, 0, none⟩) (by show ¬ w.heap.size = bX; omega) _
    have h4 : Below w.heap.size w w4 := by rw [hw4]; exact h3.setCell (by show w.heap.size ≤ bX; omega) _
    go_upto_region 7 with fail
    rw [← hw4]
    clear hw4 c0 g0 zX pX3 pR3 h3
    rcases hA with ⟨ha, rfl⟩ | ⟨ha, tp, p, rfl⟩
    · have hP := HO2.out v ha
      rw [hden] at hP
      have hne0 : t.data.toList ≠ [] := fun e => by
        have h9 := HC.out
        rw [e] at h9
        injection h9 with h9 _
        rw [h9] at ha
        cases ha
      have HP := Lib.hid hP
      have hnn : (t.toList == []) = false := by rw [ByteArray.toList_eq]; simpa using hne0
      have HN := Lib.hid hne0
      obtain ⟨lf, hlf⟩ : ∃ l, l = fmtL (v, 1) := ⟨_, rfl⟩
      have FF := fun (u : World) (hu : LaidW u) => iFormatFrac v 1 u hu
      rw [← hlf] at FF
      have HF := Lib.hid hlf
      clear hlf ha hP hne0 hden
      by_cases hq : lf = t.data.toList
      · have hres : pfI t.data.toList = some (v, 1) := by rw [HP.out, if_pos ⟨HN.out, by rw [← HF.out]; exact hq⟩]
        have hcm : (lf == t.toList) = true := by rw [ByteArray.toList_eq]; simpa using hq
        clear hq
        have r0 : w4.cell? ⟨w.heap.size, 0, none⟩ = some (.int .i64 0) := pR4.cell 0
        have r1 : w4.cell? ⟨w.heap.size, 1, none⟩ = some (.int .i64 0) := pR4.cell 1
        have f0 := pR4.free 0
        have f1 := pR4.free 1
        have zR := pR4.lt
        have x0 : w4.cell? ⟨bX, 0, none⟩ = some (.int .i64 v) := pX4.cell 0
        have x1 : w4.cell? ⟨bX, 1, none⟩ = some (.int .i64 1) := pX4.cell 1
        have zX := pX4.lt
        go_wp2_with fail
        refine (FF _ (hE.below h4).1).mono ?_
        rintro e w5 ⟨rfl, hb5⟩
        have p5 := pR4.below hb5 zR
        have y5 := pX4.below hb5 zX
        have h5 := h4.trans (hb5.mono h4.size)
        clear r0 r1 f0 f1 zR x0 x1 zX FF hb5
        have r0 : w5.cell? ⟨w.heap.size, 0, none⟩ = some (.int .i64 0) := p5.cell 0
        have r1 : w5.cell? ⟨w.heap.size, 1, none⟩ = some (.int .i64 0) := p5.cell 1
        have f0 := p5.free 0
        have f1 := p5.free 1
        have zR := p5.lt
        have x0 : w5.cell? ⟨bX, 0, none⟩ = some (.int .i64 v) := y5.cell 0
        have x1 : w5.cell? ⟨bX, 1, none⟩ = some (.int .i64 1) := y5.cell 1
        have zX := y5.lt
        go_wp2_with fail
        refine bodyPost_ret (v := vOpt (some (v, 1))) (by simp [results, Tryd.results9, go_sem, oN_some, oD_some, oB_some, r0, r1, x0, x1, zR]) rfl ⟨by rw [hres], (by (repeat (first | (with_reducible exact Below.refl _ _) | (with_reducible assumption) | (with_reducible refine Below.drew ?_) | (with_reducible refine below_drewN ?_ _) | ((with_reducible refine Below.setCell ?_ ?_ _); rotate_left; focus (first | (simp; done) | omega | (simp; omega))) | ((with_reducible refine Below.alloc ?_ ?_ _); rotate_left; focus (first | exact Nat.le_refl _ | omega | (simp; done) | (simp; omega))))))⟩
      · have hres : pfI t.data.toList = none := by rw [HP.out, if_neg (fun h => hq (by rw [HF.out]; exact h.2))]
        have hcm : (lf == t.toList) = false := by rw [ByteArray.toList_eq]; simpa using hq
        clear hq
        have r0 : w4.cell? ⟨w.heap.size, 0, none⟩ = some (.int .i64 0) := pR4.cell 0
        have r1 : w4.cell? ⟨w.heap.size, 1, none⟩ = some (.int .i64 0) := pR4.cell 1
        have f0 := pR4.free 0
        have f1 := pR4.free 1
        have zR := pR4.lt
        have x0 : w4.cell? ⟨bX, 0, none⟩ = some (.int .i64 v) := pX4.cell 0
        have x1 : w4.cell? ⟨bX, 1, none⟩ = some (.int .i64 1) := pX4.cell 1
        have zX := pX4.lt
        go_wp2_with fail
        refine (FF _ (hE.below h4).1).mono ?_
        rintro e w5 ⟨rfl, hb5⟩
        have p5 := pR4.below hb5 zR
        have y5 := pX4.below hb5 zX
        have h5 := h4.trans (hb5.mono h4.size)
        clear r0 r1 f0 f1 zR x0 x1 zX FF hb5
        have r0 : w5.cell? ⟨w.heap.size, 0, none⟩ = some (.int .i64 0) := p5.cell 0
        have r1 : w5.cell? ⟨w.heap.size, 1, none⟩ = some (.int .i64 0) := p5.cell 1
        have f0 := p5.free 0
        have f1 := p5.free 1
        have zR := p5.lt
        have x0 : w5.cell? ⟨bX, 0, none⟩ = some (.int .i64 v) := y5.cell 0
        have x1 : w5.cell? ⟨bX, 1, none⟩ = some (.int .i64 1) := y5.cell 1
        have zX := y5.lt
        go_wp2_with fail
        refine bodyPost_ret (v := vOpt none) (by simp [results, Tryd.results9, go_sem, oN_none, oD_none, oB_none, r0, r1, x0, x1, zR]) rfl ⟨by rw [hres], (by (repeat (first | (with_reducible exact Below.refl _ _) | (with_reducible assumption) | (with_reducible refine Below.drew ?_) | (with_reducible refine below_drewN ?_ _) | ((with_reducible refine Below.setCell ?_ ?_ _); rotate_left; focus (first | (simp; done) | omega | (simp; omega))) | ((with_reducible refine Below.alloc ?_ ?_ _); rotate_left; focus (first | exact Nat.le_refl _ | omega | (simp; done) | (simp; omega))))))⟩
    · have hres : pfI t.data.toList = none := HB2.out ha
      clear ha hden
      have r0 : w4.cell? ⟨w.heap.size, 0, none⟩ = some (.int .i64 0) := pR4.cell 0
      have r1 : w4.cell? ⟨w.heap.size, 1, none⟩ = some (.int .i64 0) := pR4.cell 1
      have f0 := pR4.free 0
      have f1 := pR4.free 1
      have zR := pR4.lt
      have x0 : w4.cell? ⟨bX, 0, none⟩ = some (.int .i64 v) := pX4.cell 0
      have x1 : w4.cell? ⟨bX, 1, none⟩ = some (.int .i64 1) := pX4.cell 1
      have zX := pX4.lt
      go_wp2_with fail
      refine bodyPost_ret (v := vOpt none) (by simp [results, Tryd.results9, go_sem, oN_none, oD_none, oB_none, r0, r1, x0, x1, zR]) rfl ⟨by rw [hres], (by (repeat (first | (with_reducible exact Below.refl _ _) | (with_reducible assumption) | (with_reducible refine Below.drew ?_) | (with_reducible refine below_drewN ?_ _) | ((with_reducible refine Below.setCell ?_ ?_ _); rotate_left; focus (first | (simp; done) | omega | (simp; omega))) | ((with_reducible refine Below.alloc ?_ ?_ _); rotate_left; focus (first | exact Nat.le_refl _ | omega | (simp; done) | (simp; omega))))))⟩
  | true =>
    rw [if_pos rfl] at hden
    obtain ⟨dd, hdd⟩ : ∃ d, d = (puL c2).getD 0 := ⟨_, rfl⟩
    obtain ⟨db, hdb⟩ : ∃ b, b = (puL c2).isSome := ⟨_, rfl⟩
    rw [← hdd] at hden
    simp only [← hdd, ← hdb] at CU
    clear hdd hdb
    clear hlen hcl z1 z2
    go_enter Tryd.func9, Tryd.ntmps9
    go_wp2_with fail
    refine (CC _).mono ?_
    rintro e w1 ⟨rfl, hb1⟩
    have hs1 := hb1.size
    have pR1 := pR.below hb1 pR.lt
    have h1 := hbx.trans (hb1.mono hbx.size)
    clear CC pR hbx hb1
    have hx1 : Below w1.heap.size w1 (w1.alloc (.cells #[.int .i64 0, .int .i64 1] 23)) := (by (repeat (first | (with_reducible exact Below.refl _ _) | (with_reducible assumption) | (with_reducible refine Below.drew ?_) | (with_reducible refine below_drewN ?_ _) | ((with_reducible refine Below.setCell ?_ ?_ _); rotate_left; focus (first | (simp; done) | omega | (simp; omega))) | ((with_reducible refine Below.alloc ?_ ?_ _); rotate_left; focus (first | exact Nat.le_refl _ | omega | (simp; done) | (simp; omega))))))
    have pX1 := Whole.new w1 23 #[.int .i64 0, .int .i64 1]
    have pR2 := pR1.below hx1 pR1.lt
    have h2 := h1.trans (hx1.mono h1.size)
    have hzR := pR1.lt
    go_wp2_with fail
    refine (CA _ (hE.below h2)).mono ?_
    rintro e w2 ⟨v, er, rfl, hA, hv, hb2⟩
    have hs2 := hb2.size
    have pR3 := pR2.below hb2 pR2.lt
    have pX3 := pX1.below hb2 pX1.lt
    have h3 := h2.trans (hb2.mono h2.size)
    obtain ⟨bX, hbX⟩ : ∃ b, b = w1.heap.size := ⟨_, rfl⟩
    rw [← hbX] at pX3 hzR ⊢
    clear CA pR1 pX1 pR2 hx1 h1 h2 hb2 hs1 hs2 hbX
    have hne : ¬ w.heap.size = bX := by omega
    have hne2 : ¬ bX = w.heap.size := by omega
    go_wp2_with fail
    refine (CU _ (hE.below h3)).mono ?_
    rintro e w3 ⟨rfl, hb3⟩
    have hs3 := hb3.size
    replace pR3 := pR3.below hb3 pR3.lt
    replace pX3 := pX3.below hb3 pX3.lt
    replace h3 := h3.trans (hb3.mono h3.size)
    clear CU hb3
    have c0 : w3.cell? ⟨bX, 0, none⟩ = some (.int .i64 0) := pX3.cell 0
    have c1 : w3.cell? ⟨bX, 1, none⟩ = some (.int .i64 1) := pX3.cell 1
    have g0 := pX3.free 0
    have g1 := pX3.free 1
    have zX := pX3.lt
    obtain ⟨w4, hw4⟩ : ∃ u, u = (w3.setCell ⟨bX, 1, none⟩ (.int .i64 dd)).setCell ⟨bX, 0, none⟩ (.int .i64 v) := ⟨_, rfl⟩
    have pX4 : Whole w4 bX 23 #[.int .i64 v, .int .i64 dd] := by rw [hw4]; simpa using (pX3.put 1 (.int .i64 dd)).put 0 (.int .i64 v)
    have pR4 : Whole w4 w.heap.size 23 #[.int .i64 0, .int .i64 0] := by rw [hw4]; exact (pR3.far (p := ⟨bX, 1, none⟩) (by show ¬ w.heap.size = bX; omega) _).far (p := ⟨bX, 0, none⟩) (by show ¬ w.heap.size = bX; omega) _
    have h4 : Below w.heap.size w w4 := by rw [hw4]; exact (h3.setCell (by show w.heap.size ≤ bX; omega) _).setCell (by show w.heap.size ≤ bX; omega) _
    go_upto_region 7 with fail
    rw [← hw4]
    clear hw4 c0 c1 g0 g1 zX pX3 pR3 h3
    rcases hA with ⟨ha, rfl⟩ | ⟨ha, tp, p, rfl⟩
    · have hP := HO2.out v ha
      rw [hden] at hP
      have hne0 : t.data.toList ≠ [] := fun e => by
        have h9 := HC.out
        rw [e] at h9
        injection h9 with h9 _
        rw [h9] at ha
        cases ha
      have HP := Lib.hid hP
      have hnn : (t.toList == []) = false := by rw [ByteArray.toList_eq]; simpa using hne0
      have HN := Lib.hid hne0
      obtain ⟨lf, hlf⟩ : ∃ l, l = fmtL (v, dd) := ⟨_, rfl⟩
      have FF := fun (u : World) (hu : LaidW u) => iFormatFrac v dd u hu
      rw [← hlf] at FF
      have HF := Lib.hid hlf
      clear hlf ha hP hne0 hden
      by_cases hq : lf = t.data.toList
      · have hres : pfI t.data.toList = some (v, dd) := by rw [HP.out, if_pos ⟨HN.out, by rw [← HF.out]; exact hq⟩]
        have hcm : (lf == t.toList) = true := by rw [ByteArray.toList_eq]; simpa using hq
        clear hq
        have r0 : w4.cell? ⟨w.heap.size, 0, none⟩ = some (.int .i64 0) := pR4.cell 0
        have r1 : w4.cell? ⟨w.heap.size, 1, none⟩ = some (.int .i64 0) := pR4.cell 1
        have f0 := pR4.free 0
        have f1 := pR4.free 1
        have zR := pR4.lt
        have x0 : w4.cell? ⟨bX, 0, none⟩ = some (.int .i64 v) := pX4.cell 0
        have x1 : w4.cell? ⟨bX, 1, none⟩ = some (.int .i64 dd) := pX4.cell 1
        have zX := pX4.lt
        go_wp2_with fail
        refine (FF _ (hE.below h4).1).mono ?_
        rintro e w5 ⟨rfl, hb5⟩
        have p5 := pR4.below hb5 zR
        have y5 := pX4.below hb5 zX
        have h5 := h4.trans (hb5.mono h4.size)
        clear r0 r1 f0 f1 zR x0 x1 zX FF hb5
        have r0 : w5.cell? ⟨w.heap.size, 0, none⟩ = some (.int .i64 0) := p5.cell 0
        have r1 : w5.cell? ⟨w.heap.size, 1, none⟩ = some (.int .i64 0) := p5.cell 1
        have f0 := p5.free 0
        have f1 := p5.free 1
        have zR := p5.lt
        have x0 : w5.cell? ⟨bX, 0, none⟩ = some (.int .i64 v) := y5.cell 0
        have x1 : w5.cell? ⟨bX, 1, none⟩ = some (.int .i64 dd) := y5.cell 1
        have zX := y5.lt
        go_wp2_with fail
        refine bodyPost_ret (v := vOpt (some (v, dd))) (by simp [results, Tryd.results9, go_sem, oN_some, oD_some, oB_some, r0, r1, x0, x1, zR]) rfl ⟨by rw [hres], (by (repeat (first | (with_reducible exact Below.refl _ _) | (with_reducible assumption) | (with_reducible refine Below.drew ?_) | (with_reducible refine below_drewN ?_ _) | ((with_reducible refine Below.setCell ?_ ?_ _); rotate_left; focus (first | (simp; done) | omega | (simp; omega))) | ((with_reducible refine Below.alloc ?_ ?_ _); rotate_left; focus (first | exact Nat.le_refl _ | omega | (simp; done) | (simp; omega))))))⟩
      · have hres : pfI t.data.toList = none := by rw [HP.out, if_neg (fun h => hq (by rw [HF.out]; exact h.2))]
        have hcm : (lf == t.toList) = false := by rw [ByteArray.toList_eq]; simpa using hq
        clear hq
        have r0 : w4.cell? ⟨w.heap.size, 0, none⟩ = some (.int .i64 0) := pR4.cell 0
        have r1 : w4.cell? ⟨w.heap.size, 1, none⟩ = some (.int .i64 0) := pR4.cell 1
        have f0 := pR4.free 0
        have f1 := pR4.free 1
        have zR := pR4.lt
        have x0 : w4.cell? ⟨bX, 0, none⟩ = some (.int .i64 v) := pX4.cell 0
        have x1 : w4.cell? ⟨bX, 1, none⟩ = some (.int .i64 dd) := pX4.cell 1
        have zX := pX4.lt
        go_wp2_with fail
        refine (FF _ (hE.below h4).1).mono ?_
        rintro e w5 ⟨rfl, hb5⟩
        have p5 := pR4.below hb5 zR
        have y5 := pX4.below hb5 zX
        have h5 := h4.trans (hb5.mono h4.size)
        clear r0 r1 f0 f1 zR x0 x1 zX FF hb5
        have r0 : w5.cell? ⟨w.heap.size, 0, none⟩ = some (.int .i64 0) := p5.cell 0
        have r1 : w5.cell? ⟨w.heap.size, 1, none⟩ = some (.int .i64 0) := p5.cell 1
        have f0 := p5.free 0
        have f1 := p5.free 1
        have zR := p5.lt
        have x0 : w5.cell? ⟨bX, 0, none⟩ = some (.int .i64 v) := y5.cell 0
        have x1 : w5.cell? ⟨bX, 1, none⟩ = some (.int .i64 dd) := y5.cell 1
        have zX := y5.lt
        go_wp2_with fail
        refine bodyPost_ret (v := vOpt none) (by simp [results, Tryd.results9, go_sem, oN_none, oD_none, oB_none, r0, r1, x0, x1, zR]) rfl ⟨by rw [hres], (by (repeat (first | (with_reducible exact Below.refl _ _) | (with_reducible assumption) | (with_reducible refine Below.drew ?_) | (with_reducible refine below_drewN ?_ _) | ((with_reducible refine Below.setCell ?_ ?_ _); rotate_left; focus (first | (simp; done) | omega | (simp; omega))) | ((with_reducible refine Below.alloc ?_ ?_ _); rotate_left; focus (first | exact Nat.le_refl _ | omega | (simp; done) | (simp; omega))))))⟩
    · have hres : pfI t.data.toList = none := HB2.out ha
      clear ha hden
      have r0 : w4.cell? ⟨w.heap.size, 0, none⟩ = some (.int .i64 0) := pR4.cell 0
      have r1 : w4.cell? ⟨w.heap.size, 1, none⟩ = some (.int .i64 0) := pR4.cell 1
      have f0 := pR4.free 0
      have f1 := pR4.free 1
      have zR := pR4.lt
      have x0 : w4.cell? ⟨bX, 0, none⟩ = some (.int .i64 v) := pX4.cell 0
      have x1 : w4.cell? ⟨bX, 1, none⟩ = some (.int .i64 dd) := pX4.cell 1
      have zX := pX4.lt
      go_wp2_with fail
      refine bodyPost_ret (v := vOpt none) (by simp [results, Tryd.results9, go_sem, oN_none, oD_none, oB_none, r0, r1, x0, x1, zR]) rfl ⟨by rw [hres], (by (repeat (first | (with_reducible exact Below.refl _ _) | (with_reducible assumption) | (with_reducible refine Below.drew ?_) | (with_reducible refine below_drewN ?_ _) | ((with_reducible refine Below.setCell ?_ ?_ _); rotate_left; focus (first | (simp; done) | omega | (simp; omega))) | ((with_reducible refine Below.alloc ?_ ?_ _); rotate_left; focus (first | exact Nat.le_refl _ | omega | (simp; done) | (simp; omega))))))⟩
end Go.Proofs.YtdccdoodmiihbaaDoor
