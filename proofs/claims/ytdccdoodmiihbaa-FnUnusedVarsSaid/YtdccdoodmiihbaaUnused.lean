/- The law of a variable that a formula does not need. No conditions. -/
import Derived.Test.YtdccdoodmiihbaaDrawV
import Derived.Test.YtdccdoodmiihbaaEvalO
import Derived.Test.YtdccdoodmiihbaaEvNode
import Derived.Test.YtdccdoodmiihbaaPlaces
import Derived.Deep.Cut
import Derived.BigQuiet
namespace Go.Proofs.Ytdccdoodmiihbaa
open Go.RowKit

set_option linter.unusedVariables false
/-- The eight bools in block g. -/
def RdB (w : World) (B g : Nat) (o : Nat → Bool) : Prop := g < B ∧ ∀ i, i < 8 → w.cell? ⟨g, i, none⟩ = some (.bool (o i))
theorem RdB.below {w w' : World} {B g : Nat} {o : Nat → Bool} (h : RdB w B g o) (hb : Below B w w') : RdB w' B g o := ⟨h.1, fun i hi => (hb.cell (p := ⟨g, i, none⟩) h.1).trans (h.2 i hi)⟩
theorem RdB.more {w : World} {B g : Nat} {o : Nat → Bool} (h : RdB w B g o) {B' : Nat} (hB : B ≤ B') : RdB w B' g o := ⟨Nat.lt_of_lt_of_le h.1 hB, h.2⟩
theorem rp_cell {w : World} {B n g : Nat} {z : Nat → Int} (h : RdI w B (some ⟨g, 0, none⟩) n z) (i : Nat) (hi : i < n) : g < B ∧ w.cell? ⟨g, i, none⟩ = some (.int .i64 (z i)) := by
  obtain ⟨b', off', e, hb, hc⟩ := h.2 i hi
  injection e with e
  injection e with e1 e2
  subst e1 e2
  rw [Nat.zero_add] at hc
  exact ⟨hb, hc⟩
theorem frAt_put (V : Nat → Fr) (k n : Nat) (a b : Int) (G : Nat → Value) (hG : ∀ x, x < n * 2 → G x = frAt V x) (x : Nat) (hx : x < n * 2) :
    (if x = k * 2 + 1 then Value.int .i64 b else if x = k * 2 then Value.int .i64 a else G x) = frAt (updK V k (a, b)) x := by
  by_cases e1 : x = k * 2 + 1
  · subst e1
    rw [if_pos rfl, frAt1, updK_same]
  by_cases e0 : x = k * 2
  · subst e0
    rw [if_neg e1, if_pos rfl, frAt0, updK_same]
  rw [if_neg e1, if_neg e0, hG x hx, frAt, frAt, updK, if_neg (by omega)]
theorem evOne_some {n m : Nat} {N : Nat → No} {V : Nat → Fr} (h : oB (evOne n m N V) = true) : ∃ K, evF N V n = some K ∧ evOne n m N V = some (K (n - 1)) := by
  rw [evOne] at h ⊢
  cases e : evAll n m N V with
  | none => rw [e] at h; cases h
  | some K =>
    refine ⟨K, ?_, rfl⟩
    rw [evAll] at e
    split at e
    · exact e
    · cases e
theorem unused_same {n k m : Nat} {N : Nat → No} {V V' : Nat → Fr} {nd o : Nat → Bool} (hf : formB n N = true) (h1 : 1 ≤ n) (hnd : nd (n - 1) = true) (hc : ∀ q, q < n → nd q = true → closedP N nd o q) (ho : o k = false) (hv : ∀ i, i ≠ k → V i = V' i)
    (hx : oB (evOne n m N V) = true) (hy : oB (evOne n m N V') = true) : oN (evOne n m N V) = oN (evOne n m N V') ∧ oD (evOne n m N V) = oD (evOne n m N V') := by
  obtain ⟨K, e, e1⟩ := evOne_some hx
  obtain ⟨K', e', e1'⟩ := evOne_some hy
  have := needed_same (formB_at hf) e e' hc ho hv (n - 1) (by omega) hnd
  rw [e1, e1', this]
  exact ⟨rfl, rfl⟩

set_option maxRecDepth 8000 in
set_option maxHeartbeats 25600000 in
theorem walkUnusedVars (A : Option Addr) (n c : Nat) (w : World) (hb : Bys w w.heap.size A n) :
    Calls Try.prog 4 #[.slice A n c] w fun e w' => e = .returned (.bool true) ∧ Below w.heap.size w w' := by
  have hn := hb.1
  by_cases hbig : (1048576 : Int) < n
  · have hd : decide ((1048576 : Int) < n) = true := by simpa using hbig
    go_enter Try.func4, Try.ntmps4
    go_wp2_with fail
    refine (lBig _ _ _ _ (by omega)).mono ?_
    rintro e w' ⟨rfl, rfl⟩
    go_wp2_with fail
    go_ret
    exact ⟨rfl, Below.refl _ _⟩
  · have hbg : decide ((1048576 : Int) < n) = false := by simpa using hbig
    go_enter Try.func4, Try.ntmps4
    go_wp2_with fail
    refine (lBig _ _ _ _ (by omega)).mono ?_
    rintro e w' ⟨rfl, rfl⟩
    go_wp2_with fail
    refine (sDrawFormula _ _ _ _ hb).mono ?_
    rintro e w1 ⟨n1, D, cd, N, VA, vc, V, rfl, hn1, hn9, hf, hvg, rdN, rdV, hb1⟩
    have hs1 := hb1.size
    go_wp2_with fail
    refine (sPlacesAt w1 A n c (by have k := hb.below hb1; exact ⟨k.1, fun q hq => by obtain ⟨b, off, z, e, hb, hc⟩ := k.2 q hq; exact ⟨b, off, z, e, by omega, hc⟩⟩)).mono ?_
    rintro e w2 ⟨gp, cp, f, rfl, hp0, hp1, hp, hb2⟩
    have hs2 := hb2.size
    replace rdN := (rdN.below hb2).more hs2
    replace rdV := (rdV.below hb2).more hs2
    have hB2 : Below w.heap.size w w2 := hb1.trans (hb2.mono hb1.size)
    have rp : RdI w2 w2.heap.size (some ⟨gp, 0, none⟩) 12 f := ⟨by omega, fun j hj => ⟨gp, 0, rfl, hp1, by rw [Nat.zero_add]; exact (hp j hj).1⟩⟩
    have y0a := (hp 0 (by omega)).2.1
    have y1a := (hp 1 (by omega)).2.1
    clear hp hp0 hp1
    have y0 := Int.emod_nonneg (f 0) (show (8 : Int) ≠ 0 by omega)
    have y1 := Int.emod_lt_of_pos (f 0) (show (0 : Int) < 8 by omega)
    have y2 : (f 0).tmod 8 = f 0 % 8 := Int.tmod_eq_emod_of_nonneg y0a
    obtain ⟨kk, hkk⟩ : ∃ k : Nat, f 0 % 8 = (k : Int) := ⟨(f 0 % 8).toNat, by omega⟩
    rw [hkk] at y0 y1 y2
    have c0 : w2.cell? ⟨gp, 0, none⟩ = some (.int .i64 (f 0)) := by have k := (rp.cell 0 (by omega)).2; simpa using k
    have hk8 : kk < 8 := by omega
    obtain ⟨x0, hx0⟩ : ∃ x, x = f 0 := ⟨_, rfl⟩
    rw [← hx0] at c0 y2
    clear hkk hx0
    go_wp2_with fail
    refine (iVarsOf w2 D n1 cd N rdN (by omega) hf).mono ?_
    rintro e w3 ⟨g, ov, nd, rfl, hgl, hov, hnd, hcl, hb3⟩
    have hs3 := hb3.size
    replace rdN := (rdN.below hb3).more hs3
    replace rdV := (rdV.below hb3).more hs3
    replace rp := (rp.below hb3).more hs3
    have hB3 : Below w.heap.size w w3 := hB2.trans (hb3.mono hB2.size)
    clear c0 y2
    have rdB : RdB w3 w3.heap.size g ov := ⟨hgl, hov⟩
    clear hgl hov
    obtain ⟨vb, voff, rfl, -, -, -⟩ := rdV.2 0 (by omega)
    have HK : Hid (∀ V2 : Nat → Fr, (∀ i, i ≠ kk → V i = V2 i) → ov kk = false → oB (evOne n1 8 N V) = true → oB (evOne n1 8 N V2) = true → oN (evOne n1 8 N V) = oN (evOne n1 8 N V2) ∧ oD (evOne n1 8 N V) = oD (evOne n1 8 N V2)) := Lib.hid fun V2 hv ho hx hy => unused_same hf hn1 hnd hcl ho hv hx hy
    have CE := fun (v : World) (W : Nat → Fr) (A2 : Addr) (c2 : Nat) (h1 : RdNo v v.heap.size D n1 N) (h2 : RdFr v v.heap.size (some A2) 8 W) => iEval v D (some A2) n1 cd 8 c2 N W h1 h2 (by omega)
    simp only [vOpt] at CE
    have C1 := fun (v : World) (h1 : RdNo v v.heap.size D n1 N) (h2 : RdFr v v.heap.size (some ⟨vb, voff, none⟩) 8 V) => CE v V ⟨vb, voff, none⟩ vc h1 h2
    obtain ⟨xn, hxn⟩ : ∃ a, a = oN (evOne n1 8 N V) := ⟨_, rfl⟩
    obtain ⟨xd, hxd⟩ : ∃ a, a = oD (evOne n1 8 N V) := ⟨_, rfl⟩
    obtain ⟨xb, hxb⟩ : ∃ a, a = oB (evOne n1 8 N V) := ⟨_, rfl⟩
    rw [← hxn, ← hxd, ← hxb] at HK
    simp only [← hxn, ← hxd, ← hxb] at C1
    clear hxn hxd hxb hnd hcl hf hvg
    go_wp2_with fail
    refine (C1 w3 rdN rdV).mono ?_
    rintro e w4 ⟨rfl, hb4⟩
    have hs4 := hb4.size
    replace rdN := (rdN.below hb4).more hs4
    replace rdV := (rdV.below hb4).more hs4
    replace rp := (rp.below hb4).more hs4
    replace rdB := (rdB.below hb4).more hs4
    have hB4 : Below w.heap.size w w4 := hB3.trans (hb4.mono hB3.size)
    clear C1
    have hx4 : Below w4.heap.size w4 (w4.alloc (.cells #[.int .i64 xn, .int .i64 xd] 39)) := (by (repeat (first | (with_reducible exact Below.refl _ _) | (with_reducible assumption) | (with_reducible refine Below.drew ?_) | (with_reducible refine below_drewN ?_ _) | ((with_reducible refine Below.setCell ?_ ?_ _); rotate_left; focus (first | (simp; done) | omega | (simp; omega))) | ((with_reducible refine Below.alloc ?_ ?_ _); rotate_left; focus (first | exact Nat.le_refl _ | omega | (simp; done) | (simp; omega))))))
    have hy4 := hx4.size
    replace rdN := (rdN.below hx4).more hy4
    replace rdV := (rdV.below hx4).more hy4
    replace rp := (rp.below hx4).more hy4
    replace rdB := (rdB.below hx4).more hy4
    have hA4 : Below w.heap.size w (w4.alloc (.cells #[.int .i64 xn, .int .i64 xd] 39)) := hB4.trans (hx4.mono hB4.size)
    have pX : Whole (w4.alloc (.cells #[.int .i64 xn, .int .i64 xd] 39)) (w4.heap.size) 39 #[.int .i64 xn, .int .i64 xd] := (Whole.new w4 39 #[.int .i64 xn, .int .i64 xd])
    obtain ⟨b4a, hbq4a⟩ : ∃ b, b = w4.heap.size := ⟨_, rfl⟩
    obtain ⟨u4, hu4⟩ : ∃ u, u = (w4.alloc (.cells #[.int .i64 xn, .int .i64 xd] 39)) := ⟨_, rfl⟩
    rw [← hu4] at rdN rdV rp rdB pX hA4 hy4
    rw [← hbq4a] at pX
    clear hx4
    go_upto_region 8 with fail
    rw [← hu4]
    rw [← hbq4a]
    clear hu4 hbq4a
    obtain ⟨i0, hi, hz0, hz1, hz2⟩ := info_parts fr_inf
    have hown := own_empty u4 u4.heap.size 39 2 (Nat.le_refl _)
    have hbe : Below u4.heap.size u4 (u4.alloc (.cells #[] 39)) := (Below.refl _ _).alloc (Nat.le_refl _) _
    have hh := rdV.below hbe
    go_wp2_with (at_builtin; refine wpList_append_own_at _ rfl _ _ 31 rfl u4.heap.size 39 i0 (.agg #[.int .i64 0, .int .i64 0]) 2 16 Try.underlying31 hi hz0 hz1 hz2 rfl (by decide) _ _ _ rfl (hown) ⟨vb, voff, none⟩ 8 vc (((List.range 8).map V).flatMap Fr.cells) rfl ?c1 ?c2 ?c3 ?c4 ?c5 ?c6 ?_)
    case c1 => exact fr_flat_len V 8
    case c2 => exact hh.news
    case c3 => exact fr_one V 8
    case c4 => unfold maxLen; omega
    case c5 => omega
    case c6 => (simp; try omega)
    intro v' w8 hown1 hg8 _ hat
    have hb8 : Below u4.heap.size u4 w8 := hbe.grown hg8 hbe.size (fun q hq => by simp [Value.ownBlock] at hq; omega)
    have hs8 := hb8.size
    obtain ⟨OB, oc, rfl⟩ := (OwR.of_own hown1).form
    have hown2 : w8.ownsRow u4.heap.size 39 2 (Value.slice OB 8 oc) 8 (((List.range 8).map V).flatMap Fr.cells) := hown1
    have ow8 := OwFr.list hown2 (by simp)
    rcases ow8 with ⟨_, h0⟩ | ⟨g2, cap, G, hv, hgb, hnc, hcm, hr, hG⟩
    · omega
    injection hv with hv1 _ hv2
    subst hv1 hv2
    replace hG : ∀ x, x < 8 * 2 → G x = frAt V x := fun x hx => (hG x hx).trans (frAt_lt (k := 8) (fun i hi => by rw [List.getD_eq_getElem?_getD, List.getElem?_map, List.getElem?_range hi]; rfl) hx)
    clear hown hbe hh hown1 hown2 hg8 hat
    obtain ⟨zp, c1⟩ := rp_cell (rp.below hb8) 1 (by omega)
    have z0 := Int.emod_nonneg (f 1) (show (50 : Int) ≠ 0 by omega)
    have z1 := Int.emod_lt_of_pos (f 1) (show (0 : Int) < 50 by omega)
    have z2 : (f 1).tmod 50 = f 1 % 50 := Int.tmod_eq_emod_of_nonneg y1a
    obtain ⟨z, hz⟩ : ∃ z, z = f 1 % 50 := ⟨_, rfl⟩
    rw [← hz] at z0 z1 z2
    obtain ⟨x1, hx1⟩ : ∃ x, x = f 1 := ⟨_, rfl⟩
    rw [← hx1] at c1 z2
    clear hz hx1
    have z3 : IntKind.i64.wrap (1 + z) = 1 + z := IntWalk.i64_in _ ⟨by omega, by omega⟩
    have hc16 : 8 * 2 ≤ oc * 2 := Nat.mul_le_mul_right _ hnc
    have d0 := hr.cell (i := kk * 2) (by omega)
    have d1 := hr.cell (i := kk * 2 + 1) (by omega)
    have f0 := fun o => hr.frozen o
    have hk9 : (kk : Int) < 8 := by omega
    have zr := hr.lt
    obtain ⟨w9, hw9⟩ : ∃ v, v = (w8.setCell ⟨g2, kk * 2, none⟩ (.int .i64 (1 + z))).setCell ⟨g2, kk * 2 + 1, none⟩ (.int .i64 1) := ⟨_, rfl⟩
    have hb9 : Below u4.heap.size u4 w9 := by rw [hw9]; exact (hb8.setCell hgb _).setCell hgb _
    have hr9 := (hr.set (kk * 2) (.int .i64 (1 + z))).set (kk * 2 + 1) (.int .i64 1)
    rw [← hw9] at hr9
    have rdW : RdFr w9 w9.heap.size (some ⟨g2, 0, none⟩) 8 (updK V kk (1 + z, 1)) := RdFr.own (c := oc) (base := u4.heap.size) (.inr ⟨g2, oc, _, rfl, hgb, hnc, hcm, hr9, fun x hx => frAt_put V kk 8 (1 + z) 1 G hG x hx⟩)
    have HG := Lib.hid hG
    clear hr9 hr hG
    go_upto_region 12 with fail
    rw [← hw9]
    clear hw9 d0 d1 f0 c1 zp zr HG hb8 hs8
    have hs9 := hb9.size
    replace pX := pX.below hb9 pX.lt
    replace rdN := (rdN.below hb9).more hs9
    replace rdV := (rdV.below hb9).more hs9
    replace rp := (rp.below hb9).more hs9
    replace rdB := (rdB.below hb9).more hs9
    have hB9 : Below w.heap.size w w9 := hA4.trans (hb9.mono hA4.size)
    clear hb9
    clear rp rdV
    have C2 := fun (v : World) (h1 : RdNo v v.heap.size D n1 N) (h2 : RdFr v v.heap.size (some ⟨g2, 0, none⟩) 8 (updK V kk (1 + z, 1))) => CE v _ ⟨g2, 0, none⟩ oc h1 h2
    have HK2 := Lib.hid (HK.out (updK V kk (1 + z, 1)) (fun i hi => by rw [updK, if_neg hi]))
    obtain ⟨yn, hyn⟩ : ∃ a, a = oN (evOne n1 8 N (updK V kk (1 + z, 1))) := ⟨_, rfl⟩
    obtain ⟨yd, hyd⟩ : ∃ a, a = oD (evOne n1 8 N (updK V kk (1 + z, 1))) := ⟨_, rfl⟩
    obtain ⟨yb, hyb⟩ : ∃ a, a = oB (evOne n1 8 N (updK V kk (1 + z, 1))) := ⟨_, rfl⟩
    rw [← hyn, ← hyd, ← hyb] at HK2
    simp only [← hyn, ← hyd, ← hyb] at C2
    clear hyn hyd hyb HK CE
    have pXq0 : w9.cell? ⟨b4a, 0, none⟩ = some (.int .i64 xn) := pX.cell 0
    have pXq1 : w9.cell? ⟨b4a, 1, none⟩ = some (.int .i64 xd) := pX.cell 1
    have pXz := pX.lt
    go_wp2_with fail
    refine (C2 w9 rdN rdW).mono ?_
    rintro e w10 ⟨rfl, hb10⟩
    clear pXq0 pXq1 pXz
    have hs10 := hb10.size
    replace pX := pX.below hb10 pX.lt
    replace rdN := (rdN.below hb10).more hs10
    replace rdB := (rdB.below hb10).more hs10
    replace rdW := (rdW.below hb10).more hs10
    have hB10 : Below w.heap.size w w10 := hB9.trans (hb10.mono hB9.size)
    clear C2
    have hx10 : Below w10.heap.size w10 (w10.alloc (.cells #[.int .i64 yn, .int .i64 yd] 39)) := (by (repeat (first | (with_reducible exact Below.refl _ _) | (with_reducible assumption) | (with_reducible refine Below.drew ?_) | (with_reducible refine below_drewN ?_ _) | ((with_reducible refine Below.setCell ?_ ?_ _); rotate_left; focus (first | (simp; done) | omega | (simp; omega))) | ((with_reducible refine Below.alloc ?_ ?_ _); rotate_left; focus (first | exact Nat.le_refl _ | omega | (simp; done) | (simp; omega))))))
    have hy10 := hx10.size
    replace pX := pX.below hx10 pX.lt
    replace rdN := (rdN.below hx10).more hy10
    replace rdB := (rdB.below hx10).more hy10
    replace rdW := (rdW.below hx10).more hy10
    have hA10 : Below w.heap.size w (w10.alloc (.cells #[.int .i64 yn, .int .i64 yd] 39)) := hB10.trans (hx10.mono hB10.size)
    have pY : Whole (w10.alloc (.cells #[.int .i64 yn, .int .i64 yd] 39)) (w10.heap.size) 39 #[.int .i64 yn, .int .i64 yd] := (Whole.new w10 39 #[.int .i64 yn, .int .i64 yd])
    obtain ⟨b10a, hbq10a⟩ : ∃ b, b = w10.heap.size := ⟨_, rfl⟩
    obtain ⟨u10, hu10⟩ : ∃ u, u = (w10.alloc (.cells #[.int .i64 yn, .int .i64 yd] 39)) := ⟨_, rfl⟩
    rw [← hu10] at pX rdN rdB rdW pY hA10 hy10
    rw [← hbq10a] at pY
    clear hx10
    go_upto_region 13 with fail
    rw [← hu10]
    rw [← hbq10a]
    clear hu10 hbq10a
    obtain ⟨hgl, hov⟩ := rdB
    have b0 := hov kk hk8
    clear hov rdN rdW
    cases hok : ov kk with
    | true =>
      rw [hok] at b0
      clear HK2
      have pXq0 : u10.cell? ⟨b4a, 0, none⟩ = some (.int .i64 xn) := pX.cell 0
      have pXq1 : u10.cell? ⟨b4a, 1, none⟩ = some (.int .i64 xd) := pX.cell 1
      have pXz := pX.lt
      have pYq0 : u10.cell? ⟨b10a, 0, none⟩ = some (.int .i64 yn) := pY.cell 0
      have pYq1 : u10.cell? ⟨b10a, 1, none⟩ = some (.int .i64 yd) := pY.cell 1
      have pYz := pY.lt
      go_wp2_with fail
      go_ret
      exact ⟨ret_bool (by simp), hA10⟩
    | false =>
      rw [hok] at b0
      cases xb with
      | false =>
        clear HK2
        have pXq0 : u10.cell? ⟨b4a, 0, none⟩ = some (.int .i64 xn) := pX.cell 0
        have pXq1 : u10.cell? ⟨b4a, 1, none⟩ = some (.int .i64 xd) := pX.cell 1
        have pXz := pX.lt
        have pYq0 : u10.cell? ⟨b10a, 0, none⟩ = some (.int .i64 yn) := pY.cell 0
        have pYq1 : u10.cell? ⟨b10a, 1, none⟩ = some (.int .i64 yd) := pY.cell 1
        have pYz := pY.lt
        go_wp2_with fail
        go_ret
        exact ⟨ret_bool (by simp), hA10⟩
      | true =>
        cases yb with
        | false =>
          clear HK2
          have pXq0 : u10.cell? ⟨b4a, 0, none⟩ = some (.int .i64 xn) := pX.cell 0
          have pXq1 : u10.cell? ⟨b4a, 1, none⟩ = some (.int .i64 xd) := pX.cell 1
          have pXz := pX.lt
          have pYq0 : u10.cell? ⟨b10a, 0, none⟩ = some (.int .i64 yn) := pY.cell 0
          have pYq1 : u10.cell? ⟨b10a, 1, none⟩ = some (.int .i64 yd) := pY.cell 1
          have pYz := pY.lt
          go_wp2_with fail
          go_ret
          exact ⟨ret_bool (by simp), hA10⟩
        | true =>
          obtain ⟨rfl, rfl⟩ := HK2.out hok rfl rfl
          clear HK2
          have pXq0 : u10.cell? ⟨b4a, 0, none⟩ = some (.int .i64 xn) := pX.cell 0
          have pXq1 : u10.cell? ⟨b4a, 1, none⟩ = some (.int .i64 xd) := pX.cell 1
          have pXz := pX.lt
          have pYq0 : u10.cell? ⟨b10a, 0, none⟩ = some (.int .i64 xn) := pY.cell 0
          have pYq1 : u10.cell? ⟨b10a, 1, none⟩ = some (.int .i64 xd) := pY.cell 1
          have pYz := pY.lt
          go_wp2_with fail
          go_ret
          exact ⟨ret_bool (by simp), hA10⟩
end Go.Proofs.Ytdccdoodmiihbaa
