/- The law of a fraction out of a text. Conditions: the variables that the row lists lie as the library lays them. -/
import Derived.Test.YtdccdoodmiihbaaDoorSPar
import Derived.Test.YtdccdoodmiihbaaDoorIPar
import Derived.Test.YtdccdoodmiihbaaDoorEqF
import Derived.Stop.LaidErr
namespace Go.Proofs.YtdccdoodmiihbaaDoor
open Go.RowKit Go.Lib
set_option linter.unusedVariables false
theorem sentinelOf {W : World} {nm : String} {g : Nat} {D : DataW Unit} {l : List (String × DataW Unit)} (h : laidMet Tryd.prog l W) (e : l.filter (fun x => x.1 == nm) = [(nm, D)]) (hD : ∃ a d, D = .iface a d)
    (hg : Tryd.prog.globalNamed nm = some g) (ht : (Tryd.prog.globals[g]?).map (·.type) = some 49) : ∃ tp p, W.var? Tryd.prog nm = some #[.iface tp p] := by
  have k := h.filter (fun x => x.1 == nm)
  rw [e] at k
  obtain ⟨a, d, rfl⟩ := hD
  obtain ⟨ps, ⟨g0, t0, cs0, f0, p0, q0, hg0, ht0, hv0, hd0, _, e0⟩, _, hrows⟩ := k
  obtain rfl := Option.some.inj (hg.symm.trans hg0)
  obtain rfl := Option.some.inj (ht.symm.trans ht0)
  obtain ⟨l0⟩ := cs0
  obtain ⟨f1, u, v, e, hn, h1⟩ := iface_of_trod Tryd.underlying49 hd0
  have e2 : l0 = [.iface u v] := by simpa using e
  subst e2
  exact ⟨u, v, hv0⟩
theorem laidE_pf {W : World} (h : laidMet Tryd.prog Rows.fnExactParseFracRow.laid W) : LaidE W :=
  ⟨laidW_of h (by kernel_rfl), sentinelOf (g := 2) (D := Rows.laid_strconv_ErrSyntax) h (by kernel_rfl) ⟨_, _, rfl⟩ (by kernel_rfl) (by kernel_rfl), sentinelOf (g := 3) (D := Rows.laid_strconv_ErrRange) h (by kernel_rfl) ⟨_, _, rfl⟩ (by kernel_rfl) (by kernel_rfl)⟩

set_option maxRecDepth 8000 in
set_option maxHeartbeats 1600000 in
theorem walkParseFrac (t : ByteArray) (w : World) (_ : t.size ≤ maxLen) (hL : laidMet Tryd.prog Rows.fnExactParseFracRow.laid w) :
    Calls Tryd.prog 3 #[.string t] w fun e w' => e = .returned (.bool true) ∧ Below w.heap.size w w' := by
  by_cases hbig : (1048576 : Int) < t.size
  · go_enter Tryd.func3, Tryd.ntmps3
    go_wp2_with fail
    go_ret
    exact ⟨rfl, Below.refl _ _⟩
  have hs1 : t.size ≤ 9223372036854775807 := by omega
  have hs2 : t.size ≤ 281474976710656 := by omega
  have hE := laidE_pf hL
  clear hL
  obtain ⟨r, hr⟩ : ∃ r, r = pfI t.data.toList := ⟨_, rfl⟩
  have CS := fun (v : World) => sParseFrac t v hs1
  have CI := fun (v : World) (hv : LaidE v) => iParseFrac t v hs2 hv
  rw [← hr] at CS CI
  simp only [vOpt] at CS CI
  obtain ⟨n, hn⟩ : ∃ n, n = oN r := ⟨_, rfl⟩
  obtain ⟨d, hd⟩ : ∃ n, n = oD r := ⟨_, rfl⟩
  obtain ⟨b, hb⟩ : ∃ n, n = oB r := ⟨_, rfl⟩
  rw [← hn, ← hd, ← hb] at CS
  simp only [← hn, ← hd, ← hb] at CI
  clear hr hn hd hb hs1 hs2
  go_enter Tryd.func3, Tryd.ntmps3
  go_wp2_with fail
  refine (CS w).mono ?_
  rintro e w1 ⟨rfl, hb1⟩
  have hs1 := hb1.size
  have hB1 : Below w.heap.size w w1 := (Below.refl w.heap.size w).trans (hb1.mono (Nat.le_refl _))
  have hx1 : Below w1.heap.size w1 (w1.alloc (.cells #[.int .i64 n, .int .i64 d] 23)) := (by (repeat (first | (with_reducible exact Below.refl _ _) | (with_reducible assumption) | (with_reducible refine Below.drew ?_) | (with_reducible refine below_drewN ?_ _) | ((with_reducible refine Below.setCell ?_ ?_ _); rotate_left; focus (first | (simp; done) | omega | (simp; omega))) | ((with_reducible refine Below.alloc ?_ ?_ _); rotate_left; focus (first | exact Nat.le_refl _ | omega | (simp; done) | (simp; omega))))))
  have hy1 := hx1.size
  have hA1 : Below w.heap.size w (w1.alloc (.cells #[.int .i64 n, .int .i64 d] 23)) := hB1.trans (hx1.mono hB1.size)
  have pW : Whole (w1.alloc (.cells #[.int .i64 n, .int .i64 d] 23)) (w1.heap.size) 23 #[.int .i64 n, .int .i64 d] := (Whole.new w1 23 #[.int .i64 n, .int .i64 d])
  obtain ⟨b1a, hbq1a⟩ : ∃ b, b = w1.heap.size := ⟨_, rfl⟩
  obtain ⟨u1, hu1⟩ : ∃ u, u = (w1.alloc (.cells #[.int .i64 n, .int .i64 d] 23)) := ⟨_, rfl⟩
  rw [← hu1] at pW hA1 hy1
  rw [← hbq1a] at pW
  clear hx1
  go_upto_region 4 with fail
  rw [← hu1]
  rw [← hbq1a]
  clear hu1 hbq1a
  have pWq0 : u1.cell? ⟨b1a, 0, none⟩ = some (.int .i64 n) := pW.cell 0
  have pWq1 : u1.cell? ⟨b1a, 1, none⟩ = some (.int .i64 d) := pW.cell 1
  have pWz := pW.lt
  go_wp2_with fail
  refine (CI u1 (hE.below hA1)).mono ?_
  rintro e w2 ⟨rfl, hb2⟩
  clear pWq0 pWq1 pWz
  have hs2 := hb2.size
  replace pW := pW.below hb2 pW.lt
  have hB2 : Below w.heap.size w w2 := hA1.trans (hb2.mono hA1.size)
  have hx2 : Below w2.heap.size w2 (w2.alloc (.cells #[.int .i64 n, .int .i64 d] 23)) := (by (repeat (first | (with_reducible exact Below.refl _ _) | (with_reducible assumption) | (with_reducible refine Below.drew ?_) | (with_reducible refine below_drewN ?_ _) | ((with_reducible refine Below.setCell ?_ ?_ _); rotate_left; focus (first | (simp; done) | omega | (simp; omega))) | ((with_reducible refine Below.alloc ?_ ?_ _); rotate_left; focus (first | exact Nat.le_refl _ | omega | (simp; done) | (simp; omega))))))
  have hy2 := hx2.size
  replace pW := pW.below hx2 pW.lt
  have hA2 : Below w.heap.size w (w2.alloc (.cells #[.int .i64 n, .int .i64 d] 23)) := hB2.trans (hx2.mono hB2.size)
  have pG : Whole (w2.alloc (.cells #[.int .i64 n, .int .i64 d] 23)) (w2.heap.size) 23 #[.int .i64 n, .int .i64 d] := (Whole.new w2 23 #[.int .i64 n, .int .i64 d])
  obtain ⟨b2a, hbq2a⟩ : ∃ b, b = w2.heap.size := ⟨_, rfl⟩
  obtain ⟨u2, hu2⟩ : ∃ u, u = (w2.alloc (.cells #[.int .i64 n, .int .i64 d] 23)) := ⟨_, rfl⟩
  rw [← hu2] at pW pG hA2 hy2
  rw [← hbq2a] at pG
  clear hx2
  go_upto_region 5 with fail
  rw [← hu2]
  rw [← hbq2a]
  clear hu2 hbq2a
  have pWq0 : u2.cell? ⟨b1a, 0, none⟩ = some (.int .i64 n) := pW.cell 0
  have pWq1 : u2.cell? ⟨b1a, 1, none⟩ = some (.int .i64 d) := pW.cell 1
  have pWz := pW.lt
  have pGq0 : u2.cell? ⟨b2a, 0, none⟩ = some (.int .i64 n) := pG.cell 0
  have pGq1 : u2.cell? ⟨b2a, 1, none⟩ = some (.int .i64 d) := pG.cell 1
  have pGz := pG.lt
  go_wp2_with fail
  refine (eqFrac_same n d u2).mono ?_
  rintro e w3 ⟨rfl, hb3⟩
  clear pWq0 pWq1 pGq0 pGq1 pWz pGz
  have hs3 := hb3.size
  replace pW := pW.below hb3 pW.lt
  replace pG := pG.below hb3 pG.lt
  have hB3 : Below w.heap.size w w3 := hA2.trans (hb3.mono hA2.size)
  have pWq0 : w3.cell? ⟨b1a, 0, none⟩ = some (.int .i64 n) := pW.cell 0
  have pWq1 : w3.cell? ⟨b1a, 1, none⟩ = some (.int .i64 d) := pW.cell 1
  have pWz := pW.lt
  have pGq0 : w3.cell? ⟨b2a, 0, none⟩ = some (.int .i64 n) := pG.cell 0
  have pGq1 : w3.cell? ⟨b2a, 1, none⟩ = some (.int .i64 d) := pG.cell 1
  have pGz := pG.lt
  go_wp2_with fail
  go_ret
  exact ⟨rfl, hB3⟩
end Go.Proofs.YtdccdoodmiihbaaDoor
