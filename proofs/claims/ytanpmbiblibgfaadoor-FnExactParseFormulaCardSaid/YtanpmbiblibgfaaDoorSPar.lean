/- A fraction out of a text, by the reference. No conditions. -/
import Derived.Test.YtanpmbiblibgfaaDoorFmtF
import Derived.Test.YtanpmbiblibgfaaDoorDig
import Derived.Deep.Cut
namespace Go.Proofs.YtanpmbiblibgfaaDoor
open Go.RowKit Go.Lib
set_option linter.unusedVariables false
set_option linter.unusedSimpArgs false
theorem baList (s : ByteArray) : s = ⟨s.data.toList.toArray⟩ := by cases s; simp
theorem baEq {s t : ByteArray} : (s.toList == t.toList) = decide (s.data.toList = t.data.toList) := by
  rw [ByteArray.toList_eq, ByteArray.toList_eq, Bool.eq_iff_iff]
  simp
theorem extractTo (s : ByteArray) (k : Nat) : (s.extract 0 k).data.toList = s.data.toList.take k := by
  have h := ByteArray.extract_mk s.data.toList 0 k
  rw [← baList s] at h
  rw [h]
  simp
theorem extractFrom (s : ByteArray) (k : Nat) : (s.extract k s.size).data.toList = s.data.toList.drop k := by
  have h := ByteArray.extract_mk s.data.toList k s.size
  rw [← baList s] at h
  rw [h]
  have : s.data.toList.length = s.size := Array.length_toList
  simp [List.take_of_length_le, this]
theorem extractAll (s : ByteArray) : s.extract 0 s.size = s := by
  have h := ByteArray.extract_mk s.data.toList 0 s.size
  rw [← baList s] at h
  rw [h]
  have : s.data.toList.length = s.size := Array.length_toList
  rw [List.drop_zero, Nat.sub_zero, List.take_of_length_le (by omega), ← baList s]
theorem numS_bounds (l : List UInt8) : -1 ≤ dig13 l ∧ dig13 l < 10000000000000 := by
  rw [dig13]
  split
  · rename_i hl
    cases e : decFrom 0 l with
    | none => simp
    | some m =>
      have h := decFrom_lt _ _ _ e
      have := Nat.pow_le_pow_right (show 0 < 10 by omega) hl
      dsimp only
      omega
  · simp

/-- Where the first slash stands. -/
def slashK (s : List UInt8) : Nat := (s.takeWhile (fun b => decide (b ≠ 47))).length
theorem slashK_at : ∀ s : List UInt8, slashAt s (slashK s)
  | [] => ⟨Nat.le_refl _, fun b hb => by simp [slashK] at hb, fun h => by simp [slashK] at h⟩
  | b :: r => by
    by_cases e : b = 47
    · subst e
      refine ⟨by simp [slashK], fun b hb => by simp [slashK] at hb, fun _ => by simp [slashK]⟩
    · obtain ⟨h1, h2, h3⟩ := slashK_at r
      have hk : slashK (b :: r) = slashK r + 1 := by simp [slashK, e]
      refine ⟨by rw [hk, List.length_cons]; omega, fun c hc => ?_, fun h => ?_⟩
      · rw [hk, List.take_succ_cons] at hc
        rcases List.mem_cons.1 hc with rfl | hc
        · exact e
        · exact h2 c hc
      · rw [hk, List.length_cons] at h
        rw [hk, List.getElem?_cons_succ]
        exact h3 (by omega)

set_option maxRecDepth 8000 in
set_option maxHeartbeats 25600000 in
theorem sParseFrac (t : ByteArray) (w : World) (ht : t.size ≤ 9223372036854775807) :
    Calls Tryd.prog 15 #[.string t] w fun e w' => e = .returned (vOpt (pfI t.data.toList)) ∧ Below w.heap.size w w' := by
  have hlen : t.data.toList.length = t.size := Array.length_toList
  have hbx : Below w.heap.size w (w.alloc (.cells #[.int .i64 0, .int .i64 0] 40)) := (by (repeat (first | (with_reducible exact Below.refl _ _) | (with_reducible assumption) | (with_reducible refine Below.drew ?_) | (with_reducible refine below_drewN ?_ _) | ((with_reducible refine Below.setCell ?_ ?_ _); rotate_left; focus (first | (simp; done) | omega | (simp; omega))) | ((with_reducible refine Below.alloc ?_ ?_ _); rotate_left; focus (first | exact Nat.le_refl _ | omega | (simp; done) | (simp; omega))))))
  have pR0 : Whole (w.alloc (.cells #[.int .i64 0, .int .i64 0] 40)) w.heap.size 40 #[.int .i64 0, .int .i64 0] := Whole.new _ _ _
  by_cases h0 : t.size = 0
  · have hres : pfI t.data.toList = none := by rw [← pfS_pfI (k := slashK (restL t.data.toList)) (slashK_at _), pfS, if_pos (.inl (by omega))]
    have h0i : (t.size : Int) = 0 := by omega
    go_enter Tryd.func15, Tryd.ntmps15
    go_wp2_with fail
    refine bodyPost_ret (v := vOpt none) (by simp [results, Tryd.results15, go_sem, oN_none, oD_none, oB_none]) rfl ⟨by rw [hres], (by (repeat (first | (with_reducible exact Below.refl _ _) | (with_reducible assumption) | (with_reducible refine Below.drew ?_) | (with_reducible refine below_drewN ?_ _) | ((with_reducible refine Below.setCell ?_ ?_ _); rotate_left; focus (first | (simp; done) | omega | (simp; omega))) | ((with_reducible refine Below.alloc ?_ ?_ _); rotate_left; focus (first | exact Nat.le_refl _ | omega | (simp; done) | (simp; omega))))))⟩
  · by_cases h25 : 25 < t.size
    · have hres : pfI t.data.toList = none := by rw [← pfS_pfI (k := slashK (restL t.data.toList)) (slashK_at _), pfS, if_pos (.inr (by omega))]
      have h0i : ¬ (t.size : Int) = 0 := by omega
      have h25i : (25 : Int) < t.size := by omega
      go_enter Tryd.func15, Tryd.ntmps15
      go_wp2_with fail
      refine bodyPost_ret (v := vOpt none) (by simp [results, Tryd.results15, go_sem, oN_none, oD_none, oB_none]) rfl ⟨by rw [hres], (by (repeat (first | (with_reducible exact Below.refl _ _) | (with_reducible assumption) | (with_reducible refine Below.drew ?_) | (with_reducible refine below_drewN ?_ _) | ((with_reducible refine Below.setCell ?_ ?_ _); rotate_left; focus (first | (simp; done) | omega | (simp; omega))) | ((with_reducible refine Below.alloc ?_ ?_ _); rotate_left; focus (first | exact Nat.le_refl _ | omega | (simp; done) | (simp; omega))))))⟩
    · have h0i : ¬ (t.size : Int) = 0 := by omega
      have h25i : ¬ (25 : Int) < t.size := by omega
      have HTS := Lib.hid (show ¬ (t.data.toList.length = 0 ∨ 25 < t.data.toList.length) by omega)
      have hb0 : t.data.toList[0]? = some t[0] := by rw [List.getElem?_eq_getElem (by omega)]; rfl
      have hpos : (0 : Int) < t.size := by omega
      by_cases h45 : t[0].toNat = 45
      · have h45i : ((t[0].toNat : Int) == 45) = true := by simp [h45]
        have hmin : minusL t.data.toList = true := by rw [minusL, List.head?_eq_getElem?, hb0, show t[0] = 45 from UInt8.toNat_inj.1 (by rw [h45]; rfl)]; rfl
        have hrest : restL t.data.toList = (t.extract 1 t.size).data.toList := by rw [restL, hmin, if_pos rfl, extractFrom, List.drop_one]
        have hsz : (t.extract 1 t.size).size ≤ 25 := by simp [ByteArray.size_extract]; omega
        have h1i : (1 : Int) ≤ t.size := by omega
        obtain ⟨w0, hw0⟩ : ∃ v, v = (w.alloc (.cells #[.int .i64 0, .int .i64 0] 40)) := ⟨_, rfl⟩
        rw [← hw0] at pR0 hbx
        clear hb0
        go_enter Tryd.func15, Tryd.ntmps15
        go_upto_region 8 with fail
        rw [← hw0]
        clear hw0
        obtain ⟨s, hs⟩ : ∃ s, s = t.extract 1 t.size := ⟨_, rfl⟩
        rw [← hs] at hrest hsz ⊢
        have HSZ := Lib.hid hsz
        have HR := Lib.hid hrest
        have HM := Lib.hid hmin
        clear hs h1i hsz hrest hmin h45i hpos h0i h25i h45 h0 h25 hlen
        go_wp2_with fail
        go_loopw [6, 7] (fun cu i wr => ∃ k : Nat, k ≤ s.size ∧ i = .int .i64 k ∧ cu = .int .i64 (s.size : Int) ∧ w0 = wr ∧ Hid (∀ b ∈ s.data.toList.take k, b ≠ 47)) (fun _ i _ => s.size - (Go.RowKit.intOf i).toNat)
        case atStart => exact ⟨0, Nat.zero_le _, rfl, rfl, rfl, Lib.hid (by simp)⟩
        case round =>
          obtain ⟨k, hk, rfl, rfl, rfl, hno⟩ := hrel
          have hsl : s.data.toList.length = s.size := Array.length_toList
          by_cases hlt : k < s.size
          · have hlt2 : (k : Int) < s.size := by omega
            have hb : s.data.toList[k]? = some s[k] := by rw [List.getElem?_eq_getElem (by omega)]; rfl
            by_cases h47 : s[k].toNat = 47
            · have h47i : ((s[k].toNat : Int) == 47) = true := by simp [h47]
              have hat : slashAt s.data.toList k := ⟨by omega, hno.out, fun _ => by rw [hb]; exact congrArg some (UInt8.toNat_inj.1 (by rw [h47]; rfl))⟩
              clear hb hno
              have hs25 := HSZ.out
              have hrest := HR.out
              have hmin := HM.out
              have hkk : ((k : Nat) : Int) ≤ s.size := by omega
              obtain ⟨n, hn⟩ : ∃ n, n = numS t.data.toList k := ⟨_, rfl⟩
              obtain ⟨d, hd⟩ : ∃ d, d = denS t.data.toList k := ⟨_, rfl⟩
              have hP : pfI t.data.toList = (if n < 0 ∨ d < 0 ∨ fmtL (-n, d) ≠ t.data.toList then none else some (-n, d)) := by rw [← pfS_pfI (k := k) (by rw [hrest]; exact hat), pfS, if_neg (by have := HTS.out; omega), sgnS, hmin, ← hn, ← hd]; simp
              have HP := Lib.hid hP
              have hn2 : dig13 ((s.extract 0 k).data.toList) = n := by rw [extractTo, hn, numS, hrest]
              have hnb : -1 ≤ n ∧ n < 10000000000000 := by rw [hn, numS]; exact numS_bounds _
              have hd2 : dig13 ((s.extract (k + 1) s.size).data.toList) = d := by rw [extractFrom, hd, denS, if_pos (by rw [hrest]; omega), hrest]
              have hdb : -1 ≤ d ∧ d < 10000000000000 := by rw [← hd2]; exact numS_bounds _
              have hk1 : ((k : Int) + 1) ≤ s.size := by omega
              have hz2 : (s.extract (k + 1) s.size).size ≤ 9223372036854775807 := by simp [ByteArray.size_extract]; omega
              have D2 := fun (v : World) => sDigits (s.extract (k + 1) s.size) v hz2
              rw [hd2] at D2
              have e1 : IntKind.i64.wrap ((k : Int) + 1) = (k : Int) + 1 := IntWalk.i64_in _ ⟨by omega, by omega⟩
              have hz1 : (s.extract 0 k).size ≤ 9223372036854775807 := by simp [ByteArray.size_extract]; omega
              have D1 := fun (v : World) => sDigits (s.extract 0 k) v hz1
              rw [hn2] at D1
              have e2 : IntKind.i64.wrap (-n) = -n := IntWalk.i64_in _ ⟨by omega, by omega⟩
              clear hn hd hn2 hP hz1 hs25 hsl hd2 hz2 hat hrest hmin
              go_wp2_with fail
              refine (D1 _).mono ?_
              rintro e w' ⟨rfl, rfl⟩
              clear D1
              go_wp2_with fail
              refine (D2 _).mono ?_
              rintro e w' ⟨rfl, rfl⟩
              clear D2
              have HX := Lib.hid hnb
              by_cases hn0 : n < 0
              · have hres : pfI t.data.toList = none := by rw [HP.out, if_pos (.inl hn0)]
                have c0 : w0.cell? ⟨w.heap.size, 0, none⟩ = some (.int .i64 0) := pR0.cell 0
                have c1 : w0.cell? ⟨w.heap.size, 1, none⟩ = some (.int .i64 0) := pR0.cell 1
                have f0 := pR0.free 0
                have f1 := pR0.free 1
                have z0 := pR0.lt
                have zne : ¬ w.heap.size = w0.heap.size := by omega
                go_wp2_with fail
                refine bodyPost_ret (v := vOpt none) (by simp [results, Tryd.results15, go_sem, oN_none, oD_none, oB_none, c0, c1, z0, zne]) rfl ⟨by rw [hres], (by (repeat (first | (with_reducible exact Below.refl _ _) | (with_reducible assumption) | (with_reducible refine Below.drew ?_) | (with_reducible refine below_drewN ?_ _) | ((with_reducible refine Below.setCell ?_ ?_ _); rotate_left; focus (first | (simp; done) | omega | (simp; omega))) | ((with_reducible refine Below.alloc ?_ ?_ _); rotate_left; focus (first | exact Nat.le_refl _ | omega | (simp; done) | (simp; omega))))))⟩
              · by_cases hd0 : d < 0
                · have hres : pfI t.data.toList = none := by rw [HP.out, if_pos (.inr (.inl hd0))]
                  have c0 : w0.cell? ⟨w.heap.size, 0, none⟩ = some (.int .i64 0) := pR0.cell 0
                  have c1 : w0.cell? ⟨w.heap.size, 1, none⟩ = some (.int .i64 0) := pR0.cell 1
                  have f0 := pR0.free 0
                  have f1 := pR0.free 1
                  have z0 := pR0.lt
                  have zne : ¬ w.heap.size = w0.heap.size := by omega
                  go_wp2_with fail
                  refine bodyPost_ret (v := vOpt none) (by simp [results, Tryd.results15, go_sem, oN_none, oD_none, oB_none, c0, c1, z0, zne]) rfl ⟨by rw [hres], (by (repeat (first | (with_reducible exact Below.refl _ _) | (with_reducible assumption) | (with_reducible refine Below.drew ?_) | (with_reducible refine below_drewN ?_ _) | ((with_reducible refine Below.setCell ?_ ?_ _); rotate_left; focus (first | (simp; done) | omega | (simp; omega))) | ((with_reducible refine Below.alloc ?_ ?_ _); rotate_left; focus (first | exact Nat.le_refl _ | omega | (simp; done) | (simp; omega))))))⟩
                · obtain ⟨lf, hlf⟩ : ∃ l, l = fmtL (-n, d) := ⟨_, rfl⟩
                  have FF := fun (v : World) => sFormatFrac (-n) d v
                  rw [← hlf] at FF
                  have HF := Lib.hid hlf
                  clear hlf
                  by_cases hlt : lf = t.data.toList
                  · have hres : pfI t.data.toList = some (-n, d) := by rw [HP.out, if_neg (by rw [← HF.out]; rintro (h | h | h) <;> first | omega | exact h hlt)]
                    have hcm : (lf == t.toList) = true := by rw [ByteArray.toList_eq]; simpa using hlt
                    clear hlt
                    have c0 : w0.cell? ⟨w.heap.size, 0, none⟩ = some (.int .i64 0) := pR0.cell 0
                    have c1 : w0.cell? ⟨w.heap.size, 1, none⟩ = some (.int .i64 0) := pR0.cell 1
                    have f0 := pR0.free 0
                    have f1 := pR0.free 1
                    have z0 := pR0.lt
                    have zne : ¬ w.heap.size = w0.heap.size := by omega
                    have pX : Whole (w0.alloc (.cells #[.int .i64 (-n), .int .i64 d] 40)) w0.heap.size 40 #[.int .i64 (-n), .int .i64 d] := Whole.new _ _ _
                    have pR1 : Whole (w0.alloc (.cells #[.int .i64 (-n), .int .i64 d] 40)) w.heap.size 40 #[.int .i64 0, .int .i64 0] := pR0.alloc _
                    have hx1 : Below w.heap.size w (w0.alloc (.cells #[.int .i64 (-n), .int .i64 d] 40)) := (by (repeat (first | (with_reducible exact Below.refl _ _) | (with_reducible assumption) | (with_reducible refine Below.drew ?_) | (with_reducible refine below_drewN ?_ _) | ((with_reducible refine Below.setCell ?_ ?_ _); rotate_left; focus (first | (simp; done) | omega | (simp; omega))) | ((with_reducible refine Below.alloc ?_ ?_ _); rotate_left; focus (first | exact Nat.le_refl _ | omega | (simp; done) | (simp; omega))))))
                    go_wp2_with fail
                    refine (FF _).mono ?_
                    rintro e w5 ⟨rfl, hb5⟩
                    have hs5 := hb5.size
                    have p5 := pR1.below hb5 pR1.lt
                    have x5 := pX.below hb5 pX.lt
                    have h5 := hx1.trans (hb5.mono hx1.size)
                    clear c0 c1 f0 f1 z0 hb5 pX pR1 hx1 FF
                    have c0 : w5.cell? ⟨w.heap.size, 0, none⟩ = some (.int .i64 0) := p5.cell 0
                    have c1 : w5.cell? ⟨w.heap.size, 1, none⟩ = some (.int .i64 0) := p5.cell 1
                    have f0 := p5.free 0
                    have f1 := p5.free 1
                    have z0 := p5.lt
                    have y0 : w5.cell? ⟨w0.heap.size, 0, none⟩ = some (.int .i64 (-n)) := x5.cell 0
                    have y1 : w5.cell? ⟨w0.heap.size, 1, none⟩ = some (.int .i64 d) := x5.cell 1
                    have y2 := x5.lt
                    go_wp2_with fail
                    refine bodyPost_ret (v := vOpt (some (-n, d))) (by simp [results, Tryd.results15, go_sem, oN_some, oD_some, oB_some, c0, c1, y0, y1, z0, zne]) rfl ⟨by rw [hres], (by (repeat (first | (with_reducible exact Below.refl _ _) | (with_reducible assumption) | (with_reducible refine Below.drew ?_) | (with_reducible refine below_drewN ?_ _) | ((with_reducible refine Below.setCell ?_ ?_ _); rotate_left; focus (first | (simp; done) | omega | (simp; omega))) | ((with_reducible refine Below.alloc ?_ ?_ _); rotate_left; focus (first | exact Nat.le_refl _ | omega | (simp; done) | (simp; omega))))))⟩
                  · have hres : pfI t.data.toList = none := by rw [HP.out, if_pos (.inr (.inr (by rw [← HF.out]; exact hlt)))]
                    have hcm : (lf == t.toList) = false := by rw [ByteArray.toList_eq]; simpa using hlt
                    clear hlt
                    have c0 : w0.cell? ⟨w.heap.size, 0, none⟩ = some (.int .i64 0) := pR0.cell 0
                    have c1 : w0.cell? ⟨w.heap.size, 1, none⟩ = some (.int .i64 0) := pR0.cell 1
                    have f0 := pR0.free 0
                    have f1 := pR0.free 1
                    have z0 := pR0.lt
                    have zne : ¬ w.heap.size = w0.heap.size := by omega
                    have pX : Whole (w0.alloc (.cells #[.int .i64 (-n), .int .i64 d] 40)) w0.heap.size 40 #[.int .i64 (-n), .int .i64 d] := Whole.new _ _ _
                    have pR1 : Whole (w0.alloc (.cells #[.int .i64 (-n), .int .i64 d] 40)) w.heap.size 40 #[.int .i64 0, .int .i64 0] := pR0.alloc _
                    have hx1 : Below w.heap.size w (w0.alloc (.cells #[.int .i64 (-n), .int .i64 d] 40)) := (by (repeat (first | (with_reducible exact Below.refl _ _) | (with_reducible assumption) | (with_reducible refine Below.drew ?_) | (with_reducible refine below_drewN ?_ _) | ((with_reducible refine Below.setCell ?_ ?_ _); rotate_left; focus (first | (simp; done) | omega | (simp; omega))) | ((with_reducible refine Below.alloc ?_ ?_ _); rotate_left; focus (first | exact Nat.le_refl _ | omega | (simp; done) | (simp; omega))))))
                    go_wp2_with fail
                    refine (FF _).mono ?_
                    rintro e w5 ⟨rfl, hb5⟩
                    have hs5 := hb5.size
                    have p5 := pR1.below hb5 pR1.lt
                    have x5 := pX.below hb5 pX.lt
                    have h5 := hx1.trans (hb5.mono hx1.size)
                    clear c0 c1 f0 f1 z0 hb5 pX pR1 hx1 FF
                    have c0 : w5.cell? ⟨w.heap.size, 0, none⟩ = some (.int .i64 0) := p5.cell 0
                    have c1 : w5.cell? ⟨w.heap.size, 1, none⟩ = some (.int .i64 0) := p5.cell 1
                    have f0 := p5.free 0
                    have f1 := p5.free 1
                    have z0 := p5.lt
                    have y0 : w5.cell? ⟨w0.heap.size, 0, none⟩ = some (.int .i64 (-n)) := x5.cell 0
                    have y1 : w5.cell? ⟨w0.heap.size, 1, none⟩ = some (.int .i64 d) := x5.cell 1
                    have y2 := x5.lt
                    go_wp2_with fail
                    refine bodyPost_ret (v := vOpt none) (by simp [results, Tryd.results15, go_sem, oN_none, oD_none, oB_none, c0, c1, y0, y1, z0, zne]) rfl ⟨by rw [hres], (by (repeat (first | (with_reducible exact Below.refl _ _) | (with_reducible assumption) | (with_reducible refine Below.drew ?_) | (with_reducible refine below_drewN ?_ _) | ((with_reducible refine Below.setCell ?_ ?_ _); rotate_left; focus (first | (simp; done) | omega | (simp; omega))) | ((with_reducible refine Below.alloc ?_ ?_ _); rotate_left; focus (first | exact Nat.le_refl _ | omega | (simp; done) | (simp; omega))))))⟩
            · have h47i : ((s[k].toNat : Int) == 47) = false := by simp; omega
              have HN : Hid (∀ b ∈ s.data.toList.take (k + 1), b ≠ 47) := Lib.hid fun b hm => by
                rw [List.take_succ_eq_append_getElem (by omega)] at hm
                rcases List.mem_append.1 hm with hm | hm
                · exact hno.out b hm
                · simp at hm; rw [hm]; intro e; exact h47 (by rw [show s[k] = 47 from e]; rfl)
              clear hb h47 hno hsl
              have hs25 := HSZ.out
              go_wp2_with fail
              go_roundw
              case rel => exact ⟨k + 1, by omega, by go_num, rfl, by first | rfl | trivial, HN⟩
              case measure => (simp [Go.RowKit.intOf]; try omega)
          · obtain rfl : k = s.size := by omega
            have hat : slashAt s.data.toList s.size := ⟨by omega, hno.out, fun h => by omega⟩
            clear hno
            have hs25 := HSZ.out
            have hrest := HR.out
            have hmin := HM.out
            have hkk : ((s.size : Nat) : Int) ≤ s.size := by omega
            obtain ⟨n, hn⟩ : ∃ n, n = numS t.data.toList s.size := ⟨_, rfl⟩
            obtain ⟨d, hd⟩ : ∃ d, d = denS t.data.toList s.size := ⟨_, rfl⟩
            have hP : pfI t.data.toList = (if n < 0 ∨ d < 0 ∨ fmtL (-n, d) ≠ t.data.toList then none else some (-n, d)) := by rw [← pfS_pfI (k := s.size) (by rw [hrest]; exact hat), pfS, if_neg (by have := HTS.out; omega), sgnS, hmin, ← hn, ← hd]; simp
            have HP := Lib.hid hP
            have hn2 : dig13 ((s.extract 0 s.size).data.toList) = n := by rw [extractTo, hn, numS, hrest]
            have hnb : -1 ≤ n ∧ n < 10000000000000 := by rw [hn, numS]; exact numS_bounds _
            have hd1 : d = 1 := by rw [hd, denS, if_neg (by rw [hrest]; omega)]
            have hdb : -1 ≤ d ∧ d < 10000000000000 := by omega
            have hext : s.extract 0 s.size = s := extractAll s
            have hz1 : s.size ≤ 9223372036854775807 := by omega
            have D1 := fun (v : World) => sDigits s v hz1
            rw [hext] at hn2
            rw [hn2] at D1
            have e2 : IntKind.i64.wrap (-n) = -n := IntWalk.i64_in _ ⟨by omega, by omega⟩
            clear hn hd hn2 hP hz1 hs25 hsl hat hrest hmin hlt hk hkk
            go_wp2_with fail
            refine (D1 _).mono ?_
            rintro e w' ⟨rfl, rfl⟩
            clear D1
            subst hd1
            have HX := Lib.hid hnb
            by_cases hn0 : n < 0
            · have hres : pfI t.data.toList = none := by rw [HP.out, if_pos (.inl hn0)]
              have c0 : w0.cell? ⟨w.heap.size, 0, none⟩ = some (.int .i64 0) := pR0.cell 0
              have c1 : w0.cell? ⟨w.heap.size, 1, none⟩ = some (.int .i64 0) := pR0.cell 1
              have f0 := pR0.free 0
              have f1 := pR0.free 1
              have z0 := pR0.lt
              have zne : ¬ w.heap.size = w0.heap.size := by omega
              go_wp2_with fail
              refine bodyPost_ret (v := vOpt none) (by simp [results, Tryd.results15, go_sem, oN_none, oD_none, oB_none, c0, c1, z0, zne]) rfl ⟨by rw [hres], (by (repeat (first | (with_reducible exact Below.refl _ _) | (with_reducible assumption) | (with_reducible refine Below.drew ?_) | (with_reducible refine below_drewN ?_ _) | ((with_reducible refine Below.setCell ?_ ?_ _); rotate_left; focus (first | (simp; done) | omega | (simp; omega))) | ((with_reducible refine Below.alloc ?_ ?_ _); rotate_left; focus (first | exact Nat.le_refl _ | omega | (simp; done) | (simp; omega))))))⟩
            · obtain ⟨lf, hlf⟩ : ∃ l, l = fmtL (-n, 1) := ⟨_, rfl⟩
              have FF := fun (v : World) => sFormatFrac (-n) 1 v
              rw [← hlf] at FF
              have HF := Lib.hid hlf
              clear hlf
              by_cases hlt : lf = t.data.toList
              · have hres : pfI t.data.toList = some (-n, 1) := by rw [HP.out, if_neg (by rw [← HF.out]; rintro (h | h | h) <;> first | omega | exact h hlt)]
                have hcm : (lf == t.toList) = true := by rw [ByteArray.toList_eq]; simpa using hlt
                clear hlt
                have c0 : w0.cell? ⟨w.heap.size, 0, none⟩ = some (.int .i64 0) := pR0.cell 0
                have c1 : w0.cell? ⟨w.heap.size, 1, none⟩ = some (.int .i64 0) := pR0.cell 1
                have f0 := pR0.free 0
                have f1 := pR0.free 1
                have z0 := pR0.lt
                have zne : ¬ w.heap.size = w0.heap.size := by omega
                have pX : Whole (w0.alloc (.cells #[.int .i64 (-n), .int .i64 1] 40)) w0.heap.size 40 #[.int .i64 (-n), .int .i64 1] := Whole.new _ _ _
                have pR1 : Whole (w0.alloc (.cells #[.int .i64 (-n), .int .i64 1] 40)) w.heap.size 40 #[.int .i64 0, .int .i64 0] := pR0.alloc _
                have hx1 : Below w.heap.size w (w0.alloc (.cells #[.int .i64 (-n), .int .i64 1] 40)) := (by (repeat (first | (with_reducible exact Below.refl _ _) | (with_reducible assumption) | (with_reducible refine Below.drew ?_) | (with_reducible refine below_drewN ?_ _) | ((with_reducible refine Below.setCell ?_ ?_ _); rotate_left; focus (first | (simp; done) | omega | (simp; omega))) | ((with_reducible refine Below.alloc ?_ ?_ _); rotate_left; focus (first | exact Nat.le_refl _ | omega | (simp; done) | (simp; omega))))))
                go_wp2_with fail
                refine (FF _).mono ?_
                rintro e w5 ⟨rfl, hb5⟩
                have hs5 := hb5.size
                have p5 := pR1.below hb5 pR1.lt
                have x5 := pX.below hb5 pX.lt
                have h5 := hx1.trans (hb5.mono hx1.size)
                clear c0 c1 f0 f1 z0 hb5 pX pR1 hx1 FF
                have c0 : w5.cell? ⟨w.heap.size, 0, none⟩ = some (.int .i64 0) := p5.cell 0
                have c1 : w5.cell? ⟨w.heap.size, 1, none⟩ = some (.int .i64 0) := p5.cell 1
                have f0 := p5.free 0
                have f1 := p5.free 1
                have z0 := p5.lt
                have y0 : w5.cell? ⟨w0.heap.size, 0, none⟩ = some (.int .i64 (-n)) := x5.cell 0
                have y1 : w5.cell? ⟨w0.heap.size, 1, none⟩ = some (.int .i64 1) := x5.cell 1
                have y2 := x5.lt
                go_wp2_with fail
                refine bodyPost_ret (v := vOpt (some (-n, 1))) (by simp [results, Tryd.results15, go_sem, oN_some, oD_some, oB_some, c0, c1, y0, y1, z0, zne]) rfl ⟨by rw [hres], (by (repeat (first | (with_reducible exact Below.refl _ _) | (with_reducible assumption) | (with_reducible refine Below.drew ?_) | (with_reducible refine below_drewN ?_ _) | ((with_reducible refine Below.setCell ?_ ?_ _); rotate_left; focus (first | (simp; done) | omega | (simp; omega))) | ((with_reducible refine Below.alloc ?_ ?_ _); rotate_left; focus (first | exact Nat.le_refl _ | omega | (simp; done) | (simp; omega))))))⟩
              · have hres : pfI t.data.toList = none := by rw [HP.out, if_pos (.inr (.inr (by rw [← HF.out]; exact hlt)))]
                have hcm : (lf == t.toList) = false := by rw [ByteArray.toList_eq]; simpa using hlt
                clear hlt
                have c0 : w0.cell? ⟨w.heap.size, 0, none⟩ = some (.int .i64 0) := pR0.cell 0
                have c1 : w0.cell? ⟨w.heap.size, 1, none⟩ = some (.int .i64 0) := pR0.cell 1
                have f0 := pR0.free 0
                have f1 := pR0.free 1
                have z0 := pR0.lt
                have zne : ¬ w.heap.size = w0.heap.size := by omega
                have pX : Whole (w0.alloc (.cells #[.int .i64 (-n), .int .i64 1] 40)) w0.heap.size 40 #[.int .i64 (-n), .int .i64 1] := Whole.new _ _ _
                have pR1 : Whole (w0.alloc (.cells #[.int .i64 (-n), .int .i64 1] 40)) w.heap.size 40 #[.int .i64 0, .int .i64 0] := pR0.alloc _
                have hx1 : Below w.heap.size w (w0.alloc (.cells #[.int .i64 (-n), .int .i64 1] 40)) := (by (repeat (first | (with_reducible exact Below.refl _ _) | (with_reducible assumption) | (with_reducible refine Below.drew ?_) | (with_reducible refine below_drewN ?_ _) | ((with_reducible refine Below.setCell ?_ ?_ _); rotate_left; focus (first | (simp; done) | omega | (simp; omega))) | ((with_reducible refine Below.alloc ?_ ?_ _); rotate_left; focus (first | exact Nat.le_refl _ | omega | (simp; done) | (simp; omega))))))
                go_wp2_with fail
                refine (FF _).mono ?_
                rintro e w5 ⟨rfl, hb5⟩
                have hs5 := hb5.size
                have p5 := pR1.below hb5 pR1.lt
                have x5 := pX.below hb5 pX.lt
                have h5 := hx1.trans (hb5.mono hx1.size)
                clear c0 c1 f0 f1 z0 hb5 pX pR1 hx1 FF
                have c0 : w5.cell? ⟨w.heap.size, 0, none⟩ = some (.int .i64 0) := p5.cell 0
                have c1 : w5.cell? ⟨w.heap.size, 1, none⟩ = some (.int .i64 0) := p5.cell 1
                have f0 := p5.free 0
                have f1 := p5.free 1
                have z0 := p5.lt
                have y0 : w5.cell? ⟨w0.heap.size, 0, none⟩ = some (.int .i64 (-n)) := x5.cell 0
                have y1 : w5.cell? ⟨w0.heap.size, 1, none⟩ = some (.int .i64 1) := x5.cell 1
                have y2 := x5.lt
                go_wp2_with fail
                refine bodyPost_ret (v := vOpt none) (by simp [results, Tryd.results15, go_sem, oN_none, oD_none, oB_none, c0, c1, y0, y1, z0, zne]) rfl ⟨by rw [hres], (by (repeat (first | (with_reducible exact Below.refl _ _) | (with_reducible assumption) | (with_reducible refine Below.drew ?_) | (with_reducible refine below_drewN ?_ _) | ((with_reducible refine Below.setCell ?_ ?_ _); rotate_left; focus (first | (simp; done) | omega | (simp; omega))) | ((with_reducible refine Below.alloc ?_ ?_ _); rotate_left; focus (first | exact Nat.le_refl _ | omega | (simp; done) | (simp; omega))))))⟩
      · have h45i : ((t[0].toNat : Int) == 45) = false := by simp; omega
        have hmin : minusL t.data.toList = false := by rw [minusL, List.head?_eq_getElem?, hb0, beq_eq_false_iff_ne]; intro e; injection e with e; exact h45 (by rw [e]; rfl)
        have hrest : restL t.data.toList = t.data.toList := by rw [restL, hmin]; rfl
        have HSZ := Lib.hid (show t.size ≤ 25 by omega)
        obtain ⟨w0, hw0⟩ : ∃ v, v = (w.alloc (.cells #[.int .i64 0, .int .i64 0] 40)) := ⟨_, rfl⟩
        rw [← hw0] at pR0 hbx
        clear hb0
        go_enter Tryd.func15, Tryd.ntmps15
        go_upto_region 8 with fail
        rw [← hw0]
        clear hw0
        have HR := Lib.hid hrest
        have HM := Lib.hid hmin
        clear hrest hmin h45i hpos h0i h25i h45 h0 h25 hlen
        go_wp2_with fail
        go_loopw [6, 7] (fun cu i wr => ∃ k : Nat, k ≤ t.size ∧ i = .int .i64 k ∧ cu = .int .i64 (t.size : Int) ∧ w0 = wr ∧ Hid (∀ b ∈ t.data.toList.take k, b ≠ 47)) (fun _ i _ => t.size - (Go.RowKit.intOf i).toNat)
        case atStart => exact ⟨0, Nat.zero_le _, rfl, rfl, rfl, Lib.hid (by simp)⟩
        case round =>
          obtain ⟨k, hk, rfl, rfl, rfl, hno⟩ := hrel
          have hsl : t.data.toList.length = t.size := Array.length_toList
          by_cases hlt : k < t.size
          · have hlt2 : (k : Int) < t.size := by omega
            have hb : t.data.toList[k]? = some t[k] := by rw [List.getElem?_eq_getElem (by omega)]; rfl
            by_cases h47 : t[k].toNat = 47
            · have h47i : ((t[k].toNat : Int) == 47) = true := by simp [h47]
              have hat : slashAt t.data.toList k := ⟨by omega, hno.out, fun _ => by rw [hb]; exact congrArg some (UInt8.toNat_inj.1 (by rw [h47]; rfl))⟩
              clear hb hno
              have hs25 := HSZ.out
              have hrest := HR.out
              have hmin := HM.out
              have hkk : ((k : Nat) : Int) ≤ t.size := by omega
              obtain ⟨n, hn⟩ : ∃ n, n = numS t.data.toList k := ⟨_, rfl⟩
              obtain ⟨d, hd⟩ : ∃ d, d = denS t.data.toList k := ⟨_, rfl⟩
              have hP : pfI t.data.toList = (if n < 0 ∨ d < 0 ∨ fmtL (n, d) ≠ t.data.toList then none else some (n, d)) := by rw [← pfS_pfI (k := k) (by rw [hrest]; exact hat), pfS, if_neg (by have := HTS.out; omega), sgnS, hmin, ← hn, ← hd]; simp
              have HP := Lib.hid hP
              have hn2 : dig13 ((t.extract 0 k).data.toList) = n := by rw [extractTo, hn, numS, hrest]
              have hnb : -1 ≤ n ∧ n < 10000000000000 := by rw [hn, numS]; exact numS_bounds _
              have hd2 : dig13 ((t.extract (k + 1) t.size).data.toList) = d := by rw [extractFrom, hd, denS, if_pos (by rw [hrest]; omega), hrest]
              have hdb : -1 ≤ d ∧ d < 10000000000000 := by rw [← hd2]; exact numS_bounds _
              have hk1 : ((k : Int) + 1) ≤ t.size := by omega
              have hz2 : (t.extract (k + 1) t.size).size ≤ 9223372036854775807 := by simp [ByteArray.size_extract]; omega
              have D2 := fun (v : World) => sDigits (t.extract (k + 1) t.size) v hz2
              rw [hd2] at D2
              have e1 : IntKind.i64.wrap ((k : Int) + 1) = (k : Int) + 1 := IntWalk.i64_in _ ⟨by omega, by omega⟩
              have hz1 : (t.extract 0 k).size ≤ 9223372036854775807 := by simp [ByteArray.size_extract]; omega
              have D1 := fun (v : World) => sDigits (t.extract 0 k) v hz1
              rw [hn2] at D1
              have e2 : IntKind.i64.wrap (n) = n := IntWalk.i64_in _ ⟨by omega, by omega⟩
              clear hn hd hn2 hP hz1 hs25 hsl hd2 hz2 hat hrest hmin
              go_wp2_with fail
              refine (D1 _).mono ?_
              rintro e w' ⟨rfl, rfl⟩
              clear D1
              go_wp2_with fail
              refine (D2 _).mono ?_
              rintro e w' ⟨rfl, rfl⟩
              clear D2
              have HX := Lib.hid hnb
              by_cases hn0 : n < 0
              · have hres : pfI t.data.toList = none := by rw [HP.out, if_pos (.inl hn0)]
                have c0 : w0.cell? ⟨w.heap.size, 0, none⟩ = some (.int .i64 0) := pR0.cell 0
                have c1 : w0.cell? ⟨w.heap.size, 1, none⟩ = some (.int .i64 0) := pR0.cell 1
                have f0 := pR0.free 0
                have f1 := pR0.free 1
                have z0 := pR0.lt
                have zne : ¬ w.heap.size = w0.heap.size := by omega
                go_wp2_with fail
                refine bodyPost_ret (v := vOpt none) (by simp [results, Tryd.results15, go_sem, oN_none, oD_none, oB_none, c0, c1, z0, zne]) rfl ⟨by rw [hres], (by (repeat (first | (with_reducible exact Below.refl _ _) | (with_reducible assumption) | (with_reducible refine Below.drew ?_) | (with_reducible refine below_drewN ?_ _) | ((with_reducible refine Below.setCell ?_ ?_ _); rotate_left; focus (first | (simp; done) | omega | (simp; omega))) | ((with_reducible refine Below.alloc ?_ ?_ _); rotate_left; focus (first | exact Nat.le_refl _ | omega | (simp; done) | (simp; omega))))))⟩
              · by_cases hd0 : d < 0
                · have hres : pfI t.data.toList = none := by rw [HP.out, if_pos (.inr (.inl hd0))]
                  have c0 : w0.cell? ⟨w.heap.size, 0, none⟩ = some (.int .i64 0) := pR0.cell 0
                  have c1 : w0.cell? ⟨w.heap.size, 1, none⟩ = some (.int .i64 0) := pR0.cell 1
                  have f0 := pR0.free 0
                  have f1 := pR0.free 1
                  have z0 := pR0.lt
                  have zne : ¬ w.heap.size = w0.heap.size := by omega
                  go_wp2_with fail
                  refine bodyPost_ret (v := vOpt none) (by simp [results, Tryd.results15, go_sem, oN_none, oD_none, oB_none, c0, c1, z0, zne]) rfl ⟨by rw [hres], (by (repeat (first | (with_reducible exact Below.refl _ _) | (with_reducible assumption) | (with_reducible refine Below.drew ?_) | (with_reducible refine below_drewN ?_ _) | ((with_reducible refine Below.setCell ?_ ?_ _); rotate_left; focus (first | (simp; done) | omega | (simp; omega))) | ((with_reducible refine Below.alloc ?_ ?_ _); rotate_left; focus (first | exact Nat.le_refl _ | omega | (simp; done) | (simp; omega))))))⟩
                · obtain ⟨lf, hlf⟩ : ∃ l, l = fmtL (n, d) := ⟨_, rfl⟩
                  have FF := fun (v : World) => sFormatFrac (n) d v
                  rw [← hlf] at FF
                  have HF := Lib.hid hlf
                  clear hlf
                  by_cases hlt : lf = t.data.toList
                  · have hres : pfI t.data.toList = some (n, d) := by rw [HP.out, if_neg (by rw [← HF.out]; rintro (h | h | h) <;> first | omega | exact h hlt)]
                    have hcm : (lf == t.toList) = true := by rw [ByteArray.toList_eq]; simpa using hlt
                    clear hlt
                    have c0 : w0.cell? ⟨w.heap.size, 0, none⟩ = some (.int .i64 0) := pR0.cell 0
                    have c1 : w0.cell? ⟨w.heap.size, 1, none⟩ = some (.int .i64 0) := pR0.cell 1
                    have f0 := pR0.free 0
                    have f1 := pR0.free 1
                    have z0 := pR0.lt
                    have zne : ¬ w.heap.size = w0.heap.size := by omega
                    have pX : Whole (w0.alloc (.cells #[.int .i64 (n), .int .i64 d] 40)) w0.heap.size 40 #[.int .i64 (n), .int .i64 d] := Whole.new _ _ _
                    have pR1 : Whole (w0.alloc (.cells #[.int .i64 (n), .int .i64 d] 40)) w.heap.size 40 #[.int .i64 0, .int .i64 0] := pR0.alloc _
                    have hx1 : Below w.heap.size w (w0.alloc (.cells #[.int .i64 (n), .int .i64 d] 40)) := (by (repeat (first | (with_reducible exact Below.refl _ _) | (with_reducible assumption) | (with_reducible refine Below.drew ?_) | (with_reducible refine below_drewN ?_ _) | ((with_reducible refine Below.setCell ?_ ?_ _); rotate_left; focus (first | (simp; done) | omega | (simp; omega))) | ((with_reducible refine Below.alloc ?_ ?_ _); rotate_left; focus (first | exact Nat.le_refl _ | omega | (simp; done) | (simp; omega))))))
                    go_wp2_with fail
                    refine (FF _).mono ?_
                    rintro e w5 ⟨rfl, hb5⟩
                    have hs5 := hb5.size
                    have p5 := pR1.below hb5 pR1.lt
                    have x5 := pX.below hb5 pX.lt
                    have h5 := hx1.trans (hb5.mono hx1.size)
                    clear c0 c1 f0 f1 z0 hb5 pX pR1 hx1 FF
                    have c0 : w5.cell? ⟨w.heap.size, 0, none⟩ = some (.int .i64 0) := p5.cell 0
                    have c1 : w5.cell? ⟨w.heap.size, 1, none⟩ = some (.int .i64 0) := p5.cell 1
                    have f0 := p5.free 0
                    have f1 := p5.free 1
                    have z0 := p5.lt
                    have y0 : w5.cell? ⟨w0.heap.size, 0, none⟩ = some (.int .i64 (n)) := x5.cell 0
                    have y1 : w5.cell? ⟨w0.heap.size, 1, none⟩ = some (.int .i64 d) := x5.cell 1
                    have y2 := x5.lt
                    go_wp2_with fail
                    refine bodyPost_ret (v := vOpt (some (n, d))) (by simp [results, Tryd.results15, go_sem, oN_some, oD_some, oB_some, c0, c1, y0, y1, z0, zne]) rfl ⟨by rw [hres], (by (repeat (first | (with_reducible exact Below.refl _ _) | (with_reducible assumption) | (with_reducible refine Below.drew ?_) | (with_reducible refine below_drewN ?_ _) | ((with_reducible refine Below.setCell ?_ ?_ _); rotate_left; focus (first | (simp; done) | omega | (simp; omega))) | ((with_reducible refine Below.alloc ?_ ?_ _); rotate_left; focus (first | exact Nat.le_refl _ | omega | (simp; done) | (simp; omega))))))⟩
                  · have hres : pfI t.data.toList = none := by rw [HP.out, if_pos (.inr (.inr (by rw [← HF.out]; exact hlt)))]
                    have hcm : (lf == t.toList) = false := by rw [ByteArray.toList_eq]; simpa using hlt
                    clear hlt
                    have c0 : w0.cell? ⟨w.heap.size, 0, none⟩ = some (.int .i64 0) := pR0.cell 0
                    have c1 : w0.cell? ⟨w.heap.size, 1, none⟩ = some (.int .i64 0) := pR0.cell 1
                    have f0 := pR0.free 0
                    have f1 := pR0.free 1
                    have z0 := pR0.lt
                    have zne : ¬ w.heap.size = w0.heap.size := by omega
                    have pX : Whole (w0.alloc (.cells #[.int .i64 (n), .int .i64 d] 40)) w0.heap.size 40 #[.int .i64 (n), .int .i64 d] := Whole.new _ _ _
                    have pR1 : Whole (w0.alloc (.cells #[.int .i64 (n), .int .i64 d] 40)) w.heap.size 40 #[.int .i64 0, .int .i64 0] := pR0.alloc _
                    have hx1 : Below w.heap.size w (w0.alloc (.cells #[.int .i64 (n), .int .i64 d] 40)) := (by (repeat (first | (with_reducible exact Below.refl _ _) | (with_reducible assumption) | (with_reducible refine Below.drew ?_) | (with_reducible refine below_drewN ?_ _) | ((with_reducible refine Below.setCell ?_ ?_ _); rotate_left; focus (first | (simp; done) | omega | (simp; omega))) | ((with_reducible refine Below.alloc ?_ ?_ _); rotate_left; focus (first | exact Nat.le_refl _ | omega | (simp; done) | (simp; omega))))))
                    go_wp2_with fail
                    refine (FF _).mono ?_
                    rintro e w5 ⟨rfl, hb5⟩
                    have hs5 := hb5.size
                    have p5 := pR1.below hb5 pR1.lt
                    have x5 := pX.below hb5 pX.lt
                    have h5 := hx1.trans (hb5.mono hx1.size)
                    clear c0 c1 f0 f1 z0 hb5 pX pR1 hx1 FF
                    have c0 : w5.cell? ⟨w.heap.size, 0, none⟩ = some (.int .i64 0) := p5.cell 0
                    have c1 : w5.cell? ⟨w.heap.size, 1, none⟩ = some (.int .i64 0) := p5.cell 1
                    have f0 := p5.free 0
                    have f1 := p5.free 1
                    have z0 := p5.lt
                    have y0 : w5.cell? ⟨w0.heap.size, 0, none⟩ = some (.int .i64 (n)) := x5.cell 0
                    have y1 : w5.cell? ⟨w0.heap.size, 1, none⟩ = some (.int .i64 d) := x5.cell 1
                    have y2 := x5.lt
                    go_wp2_with fail
                    refine bodyPost_ret (v := vOpt none) (by simp [results, Tryd.results15, go_sem, oN_none, oD_none, oB_none, c0, c1, y0, y1, z0, zne]) rfl ⟨by rw [hres], (by (repeat (first | (with_reducible exact Below.refl _ _) | (with_reducible assumption) | (with_reducible refine Below.drew ?_) | (with_reducible refine below_drewN ?_ _) | ((with_reducible refine Below.setCell ?_ ?_ _); rotate_left; focus (first | (simp; done) | omega | (simp; omega))) | ((with_reducible refine Below.alloc ?_ ?_ _); rotate_left; focus (first | exact Nat.le_refl _ | omega | (simp; done) | (simp; omega))))))⟩
            · have h47i : ((t[k].toNat : Int) == 47) = false := by simp; omega
              have HN : Hid (∀ b ∈ t.data.toList.take (k + 1), b ≠ 47) := Lib.hid fun b hm => by
                rw [List.take_succ_eq_append_getElem (by omega)] at hm
                rcases List.mem_append.1 hm with hm | hm
                · exact hno.out b hm
                · simp at hm; rw [hm]; intro e; exact h47 (by rw [show t[k] = 47 from e]; rfl)
              clear hb h47 hno hsl
              have hs25 := HSZ.out
              go_wp2_with fail
              go_roundw
              case rel => exact ⟨k + 1, by omega, by go_num, rfl, by first | rfl | trivial, HN⟩
              case measure => (simp [Go.RowKit.intOf]; try omega)
          · obtain rfl : k = t.size := by omega
            have hat : slashAt t.data.toList t.size := ⟨by omega, hno.out, fun h => by omega⟩
            clear hno
            have hs25 := HSZ.out
            have hrest := HR.out
            have hmin := HM.out
            have hkk : ((t.size : Nat) : Int) ≤ t.size := by omega
            obtain ⟨n, hn⟩ : ∃ n, n = numS t.data.toList t.size := ⟨_, rfl⟩
            obtain ⟨d, hd⟩ : ∃ d, d = denS t.data.toList t.size := ⟨_, rfl⟩
            have hP : pfI t.data.toList = (if n < 0 ∨ d < 0 ∨ fmtL (n, d) ≠ t.data.toList then none else some (n, d)) := by rw [← pfS_pfI (k := t.size) (by rw [hrest]; exact hat), pfS, if_neg (by have := HTS.out; omega), sgnS, hmin, ← hn, ← hd]; simp
            have HP := Lib.hid hP
            have hn2 : dig13 ((t.extract 0 t.size).data.toList) = n := by rw [extractTo, hn, numS, hrest]
            have hnb : -1 ≤ n ∧ n < 10000000000000 := by rw [hn, numS]; exact numS_bounds _
            have hd1 : d = 1 := by rw [hd, denS, if_neg (by rw [hrest]; omega)]
            have hdb : -1 ≤ d ∧ d < 10000000000000 := by omega
            have hext : t.extract 0 t.size = t := extractAll t
            have hz1 : t.size ≤ 9223372036854775807 := by omega
            have D1 := fun (v : World) => sDigits t v hz1
            rw [hext] at hn2
            rw [hn2] at D1
            have e2 : IntKind.i64.wrap (n) = n := IntWalk.i64_in _ ⟨by omega, by omega⟩
            clear hn hd hn2 hP hz1 hs25 hsl hat hrest hmin hlt hk hkk
            go_wp2_with fail
            refine (D1 _).mono ?_
            rintro e w' ⟨rfl, rfl⟩
            clear D1
            subst hd1
            have HX := Lib.hid hnb
            by_cases hn0 : n < 0
            · have hres : pfI t.data.toList = none := by rw [HP.out, if_pos (.inl hn0)]
              have c0 : w0.cell? ⟨w.heap.size, 0, none⟩ = some (.int .i64 0) := pR0.cell 0
              have c1 : w0.cell? ⟨w.heap.size, 1, none⟩ = some (.int .i64 0) := pR0.cell 1
              have f0 := pR0.free 0
              have f1 := pR0.free 1
              have z0 := pR0.lt
              have zne : ¬ w.heap.size = w0.heap.size := by omega
              go_wp2_with fail
              refine bodyPost_ret (v := vOpt none) (by simp [results, Tryd.results15, go_sem, oN_none, oD_none, oB_none, c0, c1, z0, zne]) rfl ⟨by rw [hres], (by (repeat (first | (with_reducible exact Below.refl _ _) | (with_reducible assumption) | (with_reducible refine Below.drew ?_) | (with_reducible refine below_drewN ?_ _) | ((with_reducible refine Below.setCell ?_ ?_ _); rotate_left; focus (first | (simp; done) | omega | (simp; omega))) | ((with_reducible refine Below.alloc ?_ ?_ _); rotate_left; focus (first | exact Nat.le_refl _ | omega | (simp; done) | (simp; omega))))))⟩
            · obtain ⟨lf, hlf⟩ : ∃ l, l = fmtL (n, 1) := ⟨_, rfl⟩
              have FF := fun (v : World) => sFormatFrac (n) 1 v
              rw [← hlf] at FF
              have HF := Lib.hid hlf
              clear hlf
              by_cases hlt : lf = t.data.toList
              · have hres : pfI t.data.toList = some (n, 1) := by rw [HP.out, if_neg (by rw [← HF.out]; rintro (h | h | h) <;> first | omega | exact h hlt)]
                have hcm : (lf == t.toList) = true := by rw [ByteArray.toList_eq]; simpa using hlt
                clear hlt
                have c0 : w0.cell? ⟨w.heap.size, 0, none⟩ = some (.int .i64 0) := pR0.cell 0
                have c1 : w0.cell? ⟨w.heap.size, 1, none⟩ = some (.int .i64 0) := pR0.cell 1
                have f0 := pR0.free 0
                have f1 := pR0.free 1
                have z0 := pR0.lt
                have zne : ¬ w.heap.size = w0.heap.size := by omega
                have pX : Whole (w0.alloc (.cells #[.int .i64 (n), .int .i64 1] 40)) w0.heap.size 40 #[.int .i64 (n), .int .i64 1] := Whole.new _ _ _
                have pR1 : Whole (w0.alloc (.cells #[.int .i64 (n), .int .i64 1] 40)) w.heap.size 40 #[.int .i64 0, .int .i64 0] := pR0.alloc _
                have hx1 : Below w.heap.size w (w0.alloc (.cells #[.int .i64 (n), .int .i64 1] 40)) := (by (repeat (first | (with_reducible exact Below.refl _ _) | (with_reducible assumption) | (with_reducible refine Below.drew ?_) | (with_reducible refine below_drewN ?_ _) | ((with_reducible refine Below.setCell ?_ ?_ _); rotate_left; focus (first | (simp; done) | omega | (simp; omega))) | ((with_reducible refine Below.alloc ?_ ?_ _); rotate_left; focus (first | exact Nat.le_refl _ | omega | (simp; done) | (simp; omega))))))
                go_wp2_with fail
                refine (FF _).mono ?_
                rintro e w5 ⟨rfl, hb5⟩
                have hs5 := hb5.size
                have p5 := pR1.below hb5 pR1.lt
                have x5 := pX.below hb5 pX.lt
                have h5 := hx1.trans (hb5.mono hx1.size)
                clear c0 c1 f0 f1 z0 hb5 pX pR1 hx1 FF
                have c0 : w5.cell? ⟨w.heap.size, 0, none⟩ = some (.int .i64 0) := p5.cell 0
                have c1 : w5.cell? ⟨w.heap.size, 1, none⟩ = some (.int .i64 0) := p5.cell 1
                have f0 := p5.free 0
                have f1 := p5.free 1
                have z0 := p5.lt
                have y0 : w5.cell? ⟨w0.heap.size, 0, none⟩ = some (.int .i64 (n)) := x5.cell 0
                have y1 : w5.cell? ⟨w0.heap.size, 1, none⟩ = some (.int .i64 1) := x5.cell 1
                have y2 := x5.lt
                go_wp2_with fail
                refine bodyPost_ret (v := vOpt (some (n, 1))) (by simp [results, Tryd.results15, go_sem, oN_some, oD_some, oB_some, c0, c1, y0, y1, z0, zne]) rfl ⟨by rw [hres], (by (repeat (first | (with_reducible exact Below.refl _ _) | (with_reducible assumption) | (with_reducible refine Below.drew ?_) | (with_reducible refine below_drewN ?_ _) | ((with_reducible refine Below.setCell ?_ ?_ _); rotate_left; focus (first | (simp; done) | omega | (simp; omega))) | ((with_reducible refine Below.alloc ?_ ?_ _); rotate_left; focus (first | exact Nat.le_refl _ | omega | (simp; done) | (simp; omega))))))⟩
              · have hres : pfI t.data.toList = none := by rw [HP.out, if_pos (.inr (.inr (by rw [← HF.out]; exact hlt)))]
                have hcm : (lf == t.toList) = false := by rw [ByteArray.toList_eq]; simpa using hlt
                clear hlt
                have c0 : w0.cell? ⟨w.heap.size, 0, none⟩ = some (.int .i64 0) := pR0.cell 0
                have c1 : w0.cell? ⟨w.heap.size, 1, none⟩ = some (.int .i64 0) := pR0.cell 1
                have f0 := pR0.free 0
                have f1 := pR0.free 1
                have z0 := pR0.lt
                have zne : ¬ w.heap.size = w0.heap.size := by omega
                have pX : Whole (w0.alloc (.cells #[.int .i64 (n), .int .i64 1] 40)) w0.heap.size 40 #[.int .i64 (n), .int .i64 1] := Whole.new _ _ _
                have pR1 : Whole (w0.alloc (.cells #[.int .i64 (n), .int .i64 1] 40)) w.heap.size 40 #[.int .i64 0, .int .i64 0] := pR0.alloc _
                have hx1 : Below w.heap.size w (w0.alloc (.cells #[.int .i64 (n), .int .i64 1] 40)) := (by (repeat (first | (with_reducible exact Below.refl _ _) | (with_reducible assumption) | (with_reducible refine Below.drew ?_) | (with_reducible refine below_drewN ?_ _) | ((with_reducible refine Below.setCell ?_ ?_ _); rotate_left; focus (first | (simp; done) | omega | (simp; omega))) | ((with_reducible refine Below.alloc ?_ ?_ _); rotate_left; focus (first | exact Nat.le_refl _ | omega | (simp; done) | (simp; omega))))))
                go_wp2_with fail
                refine (FF _).mono ?_
                rintro e w5 ⟨rfl, hb5⟩
                have hs5 := hb5.size
                have p5 := pR1.below hb5 pR1.lt
                have x5 := pX.below hb5 pX.lt
                have h5 := hx1.trans (hb5.mono hx1.size)
                clear c0 c1 f0 f1 z0 hb5 pX pR1 hx1 FF
                have c0 : w5.cell? ⟨w.heap.size, 0, none⟩ = some (.int .i64 0) := p5.cell 0
                have c1 : w5.cell? ⟨w.heap.size, 1, none⟩ = some (.int .i64 0) := p5.cell 1
                have f0 := p5.free 0
                have f1 := p5.free 1
                have z0 := p5.lt
                have y0 : w5.cell? ⟨w0.heap.size, 0, none⟩ = some (.int .i64 (n)) := x5.cell 0
                have y1 : w5.cell? ⟨w0.heap.size, 1, none⟩ = some (.int .i64 1) := x5.cell 1
                have y2 := x5.lt
                go_wp2_with fail
                refine bodyPost_ret (v := vOpt none) (by simp [results, Tryd.results15, go_sem, oN_none, oD_none, oB_none, c0, c1, y0, y1, z0, zne]) rfl ⟨by rw [hres], (by (repeat (first | (with_reducible exact Below.refl _ _) | (with_reducible assumption) | (with_reducible refine Below.drew ?_) | (with_reducible refine below_drewN ?_ _) | ((with_reducible refine Below.setCell ?_ ?_ _); rotate_left; focus (first | (simp; done) | omega | (simp; omega))) | ((with_reducible refine Below.alloc ?_ ?_ _); rotate_left; focus (first | exact Nat.le_refl _ | omega | (simp; done) | (simp; omega))))))⟩
end Go.Proofs.YtanpmbiblibgfaaDoor
