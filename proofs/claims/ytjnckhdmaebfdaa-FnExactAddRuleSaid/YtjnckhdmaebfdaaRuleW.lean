/- The given statement of RuleOk. No conditions. -/
import Derived.Test.YtjnckhdmaebfdaaRule
namespace Go.Proofs.Ytjnckhdmaebfdaa
open Go.RowKit

set_option maxRecDepth 20000 in
theorem ruleCells {H : Type} {enc : TypeId × Value → H} {w : World} {base fuel : Nat} {spare : Nat → Bool} {held : Bool} {cs : List Value} {x : DataW H × List MemPlace}
    (hf : DataW.trod enc Try.prog w base spare held fuel 24 cs = some x) (hl : cs.length = 7) : ∃ (s : Ru) (A : Option Addr) (n c : Nat) (N : Nat → No), cs = [.int .i64 s.nm, .int .i64 s.fr, .int .i64 s.to, .int .i64 s.jo, .int .i64 s.ra, .int .i64 s.mo, .slice A n c] ∧ RdNo w w.heap.size A n N := by
  have c_int : Try.prog.cellsOf 3 = 1 := by kernel_rfl
  have c_sl : Try.prog.cellsOf 22 = 1 := by kernel_rfl
  obtain ⟨xs, q, _, _, _, hxl, hg⟩ := DataW.trod_struct Try.underlying24 hf
  match xs, hxl, cs, hl with
  | [y0, y1, y2, y3, y4, y5, y6], _, [v0, v1, v2, v3, v4, v5, v6], _ =>
    have g0 := hg 0 _ rfl
    simp [c_int] at g0
    obtain ⟨z0, e0, -, -⟩ := DataW.trod_int Try.underlying3 g0
    simp only [List.cons.injEq, and_true] at e0
    subst e0
    have g1 := hg 1 _ rfl
    simp [c_int] at g1
    obtain ⟨z1, e1, -, -⟩ := DataW.trod_int Try.underlying3 g1
    simp only [List.cons.injEq, and_true] at e1
    subst e1
    have g2 := hg 2 _ rfl
    simp [c_int] at g2
    obtain ⟨z2, e2, -, -⟩ := DataW.trod_int Try.underlying3 g2
    simp only [List.cons.injEq, and_true] at e2
    subst e2
    have g3 := hg 3 _ rfl
    simp [c_int] at g3
    obtain ⟨z3, e3, -, -⟩ := DataW.trod_int Try.underlying3 g3
    simp only [List.cons.injEq, and_true] at e3
    subst e3
    have g4 := hg 4 _ rfl
    simp [c_int] at g4
    obtain ⟨z4, e4, -, -⟩ := DataW.trod_int Try.underlying3 g4
    simp only [List.cons.injEq, and_true] at e4
    subst e4
    have g5 := hg 5 _ rfl
    simp [c_int] at g5
    obtain ⟨z5, e5, -, -⟩ := DataW.trod_int Try.underlying3 g5
    simp only [List.cons.injEq, and_true] at e5
    subst e5
    have g6 := hg 6 _ rfl
    simp [c_sl] at g6
    obtain ⟨A, n, c, rfl⟩ : ∃ A n c, v6 = .slice A n c := by
      rcases Go.Deep.open_slice Try.underlying22 g6 with ⟨hcs, _⟩ | ⟨a, l, c, _, _, _, _, hcs, _⟩
      · simp at hcs; exact ⟨_, _, _, hcs⟩
      · simp at hcs; exact ⟨_, _, _, hcs⟩
    have hz : (Value.slice A n c).cells.toList = [.slice A n c] := rfl
    rw [← hz] at g6
    obtain ⟨N, hN⟩ := RdNo.arg g6
    exact ⟨⟨z0, z1, z2, z3, z4, z5⟩, A, n, c, N, rfl, hN⟩
theorem ruleArg {H : Type} {enc : TypeId × Value → H} {w : World} {base fuel : Nat} {spare : Nat → Bool} {held : Bool} {cs : Array Value} {x : DataW H × List MemPlace}
    (hf : DataW.trod enc Try.prog w base spare held fuel 24 (Value.agg cs).cells.toList = some x) (hl : cs.size = 7) : ∃ (s : Ru) (A : Option Addr) (n c : Nat) (N : Nat → No), cs = #[.int .i64 s.nm, .int .i64 s.fr, .int .i64 s.to, .int .i64 s.jo, .int .i64 s.ra, .int .i64 s.mo, .slice A n c] ∧ RdNo w w.heap.size A n N := by
  obtain ⟨s, A, n, c, N, e, h⟩ := ruleCells (cs := cs.toList) (by simpa [Value.cells] using hf) (by simpa using hl)
  exact ⟨s, A, n, c, N, by cases cs; simpa using e, h⟩

set_option maxRecDepth 8000 in
set_option maxHeartbeats 3200000 in
theorem walkRuleOk (s : Ru) (A : Option Addr) (n c : Nat) (N : Nat → No) (w : World) (hd : RdNo w w.heap.size A n N) :
    Calls Try.prog 3 #[.agg #[.int .i64 s.nm, .int .i64 s.fr, .int .i64 s.to, .int .i64 s.jo, .int .i64 s.ra, .int .i64 s.mo, .slice A n c]] w fun e w' => e = .returned (.bool true) ∧ Below w.heap.size w w' := by
  have hn := hd.1
  by_cases t1 : (1048576 : Int) < n
  · go_enter Try.func3, Try.ntmps3
    go_wp2_with fail
    refine (szRuleFrom _ s A n c 1048576 hn (by omega)).mono ?_
    rintro e w1 ⟨rfl, hb1⟩
    rw [if_pos (show (1048576 : Int) < n by omega)]
    go_wp2_with fail
    go_ret
    exact ⟨rfl, (Below.alloc (Below.refl w.heap.size w) (Nat.le_refl _) _).trans (hb1.mono (by simp))⟩
  have t2 : ¬ (1048576 : Int) - n < 0 := by omega
  have hn2 : n ≤ 1048576 := by omega
  obtain ⟨R, hR⟩ : ∃ R, R = ruleB s n N := ⟨_, rfl⟩
  have CS : ∀ (v : World) (g : Nat), RdNo v v.heap.size (some ⟨g, 0, none⟩) n N → Calls Try.prog 16 #[.agg #[.int .i64 s.nm, .int .i64 s.fr, .int .i64 s.to, .int .i64 s.jo, .int .i64 s.ra, .int .i64 s.mo, .slice (some ⟨g, 0, none⟩) n n]] v fun e w' => e = .returned (.bool R) ∧ Below v.heap.size v w' := fun v g hh => by rw [hR]; exact sRuleOk v s _ n n N hh (by omega)
  have CI : ∀ (v : World) (g : Nat), RdNo v v.heap.size (some ⟨g, 0, none⟩) n N → Calls Try.prog 18 #[.agg #[.int .i64 s.nm, .int .i64 s.fr, .int .i64 s.to, .int .i64 s.jo, .int .i64 s.ra, .int .i64 s.mo, .slice (some ⟨g, 0, none⟩) n n]] v fun e w' => e = .returned (.bool R) ∧ Below v.heap.size v w' := fun v g hh => by rw [hR]; exact iRuleOk v s _ n n N hh (by omega)
  clear hR
  go_enter Try.func3, Try.ntmps3
  go_wp2_with fail
  refine (szRuleFrom _ s A n c 1048576 hn (by omega)).mono ?_
  rintro e w1 ⟨rfl, hb1⟩
  rw [if_neg (show ¬ (1048576 : Int) < n by omega)]
  obtain ⟨hc1, -⟩ := keepc hb1
  have c0 : w1.cell? ⟨w.heap.size, 0, none⟩ = some (.int .i64 s.nm) := by rw [hc1 _ _ (by simp)]; simp [go_sem]
  have c1 : w1.cell? ⟨w.heap.size, 1, none⟩ = some (.int .i64 s.fr) := by rw [hc1 _ _ (by simp)]; simp [go_sem]
  have c2 : w1.cell? ⟨w.heap.size, 2, none⟩ = some (.int .i64 s.to) := by rw [hc1 _ _ (by simp)]; simp [go_sem]
  have c3 : w1.cell? ⟨w.heap.size, 3, none⟩ = some (.int .i64 s.jo) := by rw [hc1 _ _ (by simp)]; simp [go_sem]
  have c4 : w1.cell? ⟨w.heap.size, 4, none⟩ = some (.int .i64 s.ra) := by rw [hc1 _ _ (by simp)]; simp [go_sem]
  have c5 : w1.cell? ⟨w.heap.size, 5, none⟩ = some (.int .i64 s.mo) := by rw [hc1 _ _ (by simp)]; simp [go_sem]
  have c6 : w1.cell? ⟨w.heap.size, 6, none⟩ = some (.slice A n c) := by rw [hc1 _ _ (by simp)]; simp [go_sem]
  have hB1 : Below w.heap.size w w1 := (Below.alloc (Below.refl w.heap.size w) (Nat.le_refl _) _).trans (hb1.mono (by simp))
  have hz1 : w.heap.size < w1.heap.size := by have := hb1.size; simp at this; omega
  clear hc1 hb1
  go_wp2_with fail
  refine (toRule_any w1 s A n c N ((hd.below hB1).more hB1.size) hn2).mono ?_
  rintro e w2 ⟨g2, rfl, row2, low2, hb2⟩
  obtain ⟨hc2, -⟩ := keepc hb2
  have hs2 := hb2.size
  have lt2 := row2.lt
  have hg2 : RdNo w2 w2.heap.size (some ⟨g2, 0, none⟩) n N := RdNo.row row2 lt2 (Nat.le_refl _) (by omega)
  have hB2 : Below w.heap.size w w2 := hB1.trans (hb2.mono (by omega))
  replace c0 : w2.cell? ⟨w.heap.size, 0, none⟩ = some (.int .i64 s.nm) := by rw [hc2 _ _ (by omega)]; exact c0
  replace c1 : w2.cell? ⟨w.heap.size, 1, none⟩ = some (.int .i64 s.fr) := by rw [hc2 _ _ (by omega)]; exact c1
  replace c2 : w2.cell? ⟨w.heap.size, 2, none⟩ = some (.int .i64 s.to) := by rw [hc2 _ _ (by omega)]; exact c2
  replace c3 : w2.cell? ⟨w.heap.size, 3, none⟩ = some (.int .i64 s.jo) := by rw [hc2 _ _ (by omega)]; exact c3
  replace c4 : w2.cell? ⟨w.heap.size, 4, none⟩ = some (.int .i64 s.ra) := by rw [hc2 _ _ (by omega)]; exact c4
  replace c5 : w2.cell? ⟨w.heap.size, 5, none⟩ = some (.int .i64 s.mo) := by rw [hc2 _ _ (by omega)]; exact c5
  replace c6 : w2.cell? ⟨w.heap.size, 6, none⟩ = some (.slice A n c) := by rw [hc2 _ _ (by omega)]; exact c6
  go_wp2_with fail
  refine (CS w2 g2 hg2).mono ?_
  rintro e w3 ⟨rfl, hb3⟩
  obtain ⟨hc3, -⟩ := keepc hb3
  have hs3 := hb3.size
  have hB3 : Below w.heap.size w w3 := hB2.trans (hb3.mono (by omega))
  replace c0 : w3.cell? ⟨w.heap.size, 0, none⟩ = some (.int .i64 s.nm) := by rw [hc3 _ _ (by omega)]; exact c0
  replace c1 : w3.cell? ⟨w.heap.size, 1, none⟩ = some (.int .i64 s.fr) := by rw [hc3 _ _ (by omega)]; exact c1
  replace c2 : w3.cell? ⟨w.heap.size, 2, none⟩ = some (.int .i64 s.to) := by rw [hc3 _ _ (by omega)]; exact c2
  replace c3 : w3.cell? ⟨w.heap.size, 3, none⟩ = some (.int .i64 s.jo) := by rw [hc3 _ _ (by omega)]; exact c3
  replace c4 : w3.cell? ⟨w.heap.size, 4, none⟩ = some (.int .i64 s.ra) := by rw [hc3 _ _ (by omega)]; exact c4
  replace c5 : w3.cell? ⟨w.heap.size, 5, none⟩ = some (.int .i64 s.mo) := by rw [hc3 _ _ (by omega)]; exact c5
  replace c6 : w3.cell? ⟨w.heap.size, 6, none⟩ = some (.slice A n c) := by rw [hc3 _ _ (by omega)]; exact c6
  clear hc3 hc2 hb2 hb3 hg2 row2 low2
  go_wp2_with fail
  refine (toRule_any w3 s A n c N ((hd.below hB3).more hB3.size) hn2).mono ?_
  rintro e w4 ⟨g4, rfl, row4, low4, hb4⟩
  obtain ⟨hc4, -⟩ := keepc hb4
  have hs4 := hb4.size
  have lt4 := row4.lt
  have hg4 : RdNo w4 w4.heap.size (some ⟨g4, 0, none⟩) n N := RdNo.row row4 lt4 (Nat.le_refl _) (by omega)
  have hB4 : Below w.heap.size w w4 := hB3.trans (hb4.mono (by omega))
  replace c0 : w4.cell? ⟨w.heap.size, 0, none⟩ = some (.int .i64 s.nm) := by rw [hc4 _ _ (by omega)]; exact c0
  replace c1 : w4.cell? ⟨w.heap.size, 1, none⟩ = some (.int .i64 s.fr) := by rw [hc4 _ _ (by omega)]; exact c1
  replace c2 : w4.cell? ⟨w.heap.size, 2, none⟩ = some (.int .i64 s.to) := by rw [hc4 _ _ (by omega)]; exact c2
  replace c3 : w4.cell? ⟨w.heap.size, 3, none⟩ = some (.int .i64 s.jo) := by rw [hc4 _ _ (by omega)]; exact c3
  replace c4 : w4.cell? ⟨w.heap.size, 4, none⟩ = some (.int .i64 s.ra) := by rw [hc4 _ _ (by omega)]; exact c4
  replace c5 : w4.cell? ⟨w.heap.size, 5, none⟩ = some (.int .i64 s.mo) := by rw [hc4 _ _ (by omega)]; exact c5
  replace c6 : w4.cell? ⟨w.heap.size, 6, none⟩ = some (.slice A n c) := by rw [hc4 _ _ (by omega)]; exact c6
  go_wp2_with fail
  have hbx : Below w4.heap.size w4 (w4.alloc (.cells #[.int .i64 s.nm, .int .i64 s.fr, .int .i64 s.to, .int .i64 s.jo, .int .i64 s.ra, .int .i64 s.mo, .slice (some ⟨g4, 0, none⟩) n n] 29)) := (Below.refl _ _).alloc (Nat.le_refl _) _
  refine (CI _ g4 ((hg4.below hbx).more (by simp))).mono ?_
  rintro e w5 ⟨rfl, hb5⟩
  obtain ⟨hc5, -⟩ := keepc hb5
  have hs5 := hb5.size
  simp at hs5
  have hz5 : w4.heap.size < w5.heap.size := by omega
  have d0 : w5.cell? ⟨w4.heap.size, 0, none⟩ = some (.int .i64 s.nm) := by rw [hc5 _ _ (by simp)]; simp [go_sem]
  have d1 : w5.cell? ⟨w4.heap.size, 1, none⟩ = some (.int .i64 s.fr) := by rw [hc5 _ _ (by simp)]; simp [go_sem]
  have d2 : w5.cell? ⟨w4.heap.size, 2, none⟩ = some (.int .i64 s.to) := by rw [hc5 _ _ (by simp)]; simp [go_sem]
  have d3 : w5.cell? ⟨w4.heap.size, 3, none⟩ = some (.int .i64 s.jo) := by rw [hc5 _ _ (by simp)]; simp [go_sem]
  have d4 : w5.cell? ⟨w4.heap.size, 4, none⟩ = some (.int .i64 s.ra) := by rw [hc5 _ _ (by simp)]; simp [go_sem]
  have d5 : w5.cell? ⟨w4.heap.size, 5, none⟩ = some (.int .i64 s.mo) := by rw [hc5 _ _ (by simp)]; simp [go_sem]
  have d6 : w5.cell? ⟨w4.heap.size, 6, none⟩ = some (.slice (some ⟨g4, 0, none⟩) n n) := by rw [hc5 _ _ (by simp)]; simp [go_sem]
  have hbb := hbx.trans (hb5.mono (by simp))
  obtain ⟨hd5, -⟩ := keepc hbb
  replace c0 : w5.cell? ⟨w.heap.size, 0, none⟩ = some (.int .i64 s.nm) := by rw [hd5 _ _ (by omega)]; exact c0
  replace c1 : w5.cell? ⟨w.heap.size, 1, none⟩ = some (.int .i64 s.fr) := by rw [hd5 _ _ (by omega)]; exact c1
  replace c2 : w5.cell? ⟨w.heap.size, 2, none⟩ = some (.int .i64 s.to) := by rw [hd5 _ _ (by omega)]; exact c2
  replace c3 : w5.cell? ⟨w.heap.size, 3, none⟩ = some (.int .i64 s.jo) := by rw [hd5 _ _ (by omega)]; exact c3
  replace c4 : w5.cell? ⟨w.heap.size, 4, none⟩ = some (.int .i64 s.ra) := by rw [hd5 _ _ (by omega)]; exact c4
  replace c5 : w5.cell? ⟨w.heap.size, 5, none⟩ = some (.int .i64 s.mo) := by rw [hd5 _ _ (by omega)]; exact c5
  replace c6 : w5.cell? ⟨w.heap.size, 6, none⟩ = some (.slice A n c) := by rw [hd5 _ _ (by omega)]; exact c6
  have hB5 : Below w.heap.size w w5 := hB4.trans (hbb.mono (by omega))
  have hg5 := hg4.below hbb
  have ha5 := hd.below hB5
  have hzw : w.heap.size < w5.heap.size := by omega
  clear hc5 hd5 hb5 hc4 row4 low4 hg4 hd hb4
  go_wp2_with fail
  go_region_held3 (fun w' => w'.cell? ⟨w.heap.size, 0, none⟩ = some (.int .i64 s.nm) ∧ w'.cell? ⟨w.heap.size, 1, none⟩ = some (.int .i64 s.fr) ∧ w'.cell? ⟨w.heap.size, 2, none⟩ = some (.int .i64 s.to) ∧ w'.cell? ⟨w.heap.size, 3, none⟩ = some (.int .i64 s.jo) ∧ w'.cell? ⟨w.heap.size, 4, none⟩ = some (.int .i64 s.ra) ∧ w'.cell? ⟨w.heap.size, 5, none⟩ = some (.int .i64 s.mo) ∧ w'.cell? ⟨w.heap.size, 6, none⟩ = some (.slice A n c) ∧ w'.cell? ⟨w4.heap.size, 0, none⟩ = some (.int .i64 s.nm) ∧ w'.cell? ⟨w4.heap.size, 1, none⟩ = some (.int .i64 s.fr) ∧ w'.cell? ⟨w4.heap.size, 2, none⟩ = some (.int .i64 s.to) ∧ w'.cell? ⟨w4.heap.size, 3, none⟩ = some (.int .i64 s.jo) ∧ w'.cell? ⟨w4.heap.size, 4, none⟩ = some (.int .i64 s.ra) ∧ w'.cell? ⟨w4.heap.size, 5, none⟩ = some (.int .i64 s.mo) ∧ w'.cell? ⟨w4.heap.size, 6, none⟩ = some (.slice (some ⟨g4, 0, none⟩) n n) ∧ w.heap.size < w'.heap.size ∧ w4.heap.size < w'.heap.size ∧ RdNo w' w.heap.size A n N ∧ RdNo w' w4.heap.size (some ⟨g4, 0, none⟩) n N ∧ Below w.heap.size w w') (first | (with_reducible assumption) | (refine ⟨?_, ?_, ?_, ?_, ?_, ?_, ?_, ?_, ?_, ?_, ?_, ?_, ?_, ?_, ?_, ?_, ?_, ?_, ?_⟩ <;> first | (show RdNo _ _ _ _ _; assumption) | (with_reducible assumption) | omega | (simp [go_sem, *]; done) | (simp [*]; omega) | ((repeat (first | (with_reducible exact Below.refl _ _) | (with_reducible assumption) | (with_reducible refine Below.drew ?_) | (with_reducible refine below_drewN ?_ _) | ((with_reducible refine Below.setCell ?_ ?_ _); rotate_left; focus (first | (simp; done) | omega | (simp; omega))) | ((with_reducible refine Below.alloc ?_ ?_ _); rotate_left; focus (first | exact Nat.le_refl _ | omega | (simp; done) | (simp; omega))))); first | done | (simp [*]; done))))
    (first
    | (go_at_call 17; refine (toRule_any _ s A n c N (RdNo.more (show RdNo w5.drew w.heap.size A n N from ha5) hB5.size) hn2).mono ?_; rintro e w6 ⟨g6, rfl, row6, low6, hb6⟩; have hbl6 : Below w5.heap.size w5 w6 := ⟨hb6.os, hb6.tape, hb6.output, hb6.size, hb6.block⟩; obtain ⟨hc6, -⟩ := keepc hbl6; have hs6 := hbl6.size; have lt6 := row6.lt; have hg6 : RdNo w6 w6.heap.size (some ⟨g6, 0, none⟩) n N := RdNo.row row6 lt6 (Nat.le_refl _) (by omega); have hx6 : RdNo w6 w6.heap.size (some ⟨g4, 0, none⟩) n N := (hg5.below (hbl6.mono (by omega))).more (by omega); have hS6 : ((fun w' => w'.cell? ⟨w.heap.size, 0, none⟩ = some (.int .i64 s.nm) ∧ w'.cell? ⟨w.heap.size, 1, none⟩ = some (.int .i64 s.fr) ∧ w'.cell? ⟨w.heap.size, 2, none⟩ = some (.int .i64 s.to) ∧ w'.cell? ⟨w.heap.size, 3, none⟩ = some (.int .i64 s.jo) ∧ w'.cell? ⟨w.heap.size, 4, none⟩ = some (.int .i64 s.ra) ∧ w'.cell? ⟨w.heap.size, 5, none⟩ = some (.int .i64 s.mo) ∧ w'.cell? ⟨w.heap.size, 6, none⟩ = some (.slice A n c) ∧ w'.cell? ⟨w4.heap.size, 0, none⟩ = some (.int .i64 s.nm) ∧ w'.cell? ⟨w4.heap.size, 1, none⟩ = some (.int .i64 s.fr) ∧ w'.cell? ⟨w4.heap.size, 2, none⟩ = some (.int .i64 s.to) ∧ w'.cell? ⟨w4.heap.size, 3, none⟩ = some (.int .i64 s.jo) ∧ w'.cell? ⟨w4.heap.size, 4, none⟩ = some (.int .i64 s.ra) ∧ w'.cell? ⟨w4.heap.size, 5, none⟩ = some (.int .i64 s.mo) ∧ w'.cell? ⟨w4.heap.size, 6, none⟩ = some (.slice (some ⟨g4, 0, none⟩) n n) ∧ w.heap.size < w'.heap.size ∧ w4.heap.size < w'.heap.size ∧ RdNo w' w.heap.size A n N ∧ RdNo w' w4.heap.size (some ⟨g4, 0, none⟩) n N ∧ Below w.heap.size w w')) w6 := ⟨by rw [hc6 _ _ (by omega)]; exact c0, by rw [hc6 _ _ (by omega)]; exact c1, by rw [hc6 _ _ (by omega)]; exact c2, by rw [hc6 _ _ (by omega)]; exact c3, by rw [hc6 _ _ (by omega)]; exact c4, by rw [hc6 _ _ (by omega)]; exact c5, by rw [hc6 _ _ (by omega)]; exact c6, by rw [hc6 _ _ (by omega)]; exact d0, by rw [hc6 _ _ (by omega)]; exact d1, by rw [hc6 _ _ (by omega)]; exact d2, by rw [hc6 _ _ (by omega)]; exact d3, by rw [hc6 _ _ (by omega)]; exact d4, by rw [hc6 _ _ (by omega)]; exact d5, by rw [hc6 _ _ (by omega)]; exact d6, by omega, by omega, ha5.below (hbl6.mono (by omega)), hg5.below (hbl6.mono (by omega)), hB5.trans (hbl6.mono (by omega))⟩; clear hc6 hb6 row6 low6)
    | (go_at_call 19; refine (eqRule_any _ s _ _ n _ _ N hx6 hg6).mono ?_; rintro e w7 ⟨rfl, hb7⟩; have hbl7 : Below w5.heap.size w5 w7 := hbl6.trans (hb7.mono (by omega)); obtain ⟨hc7, -⟩ := keepc hbl7; have hs7 := hbl7.size; have hS7 : ((fun w' => w'.cell? ⟨w.heap.size, 0, none⟩ = some (.int .i64 s.nm) ∧ w'.cell? ⟨w.heap.size, 1, none⟩ = some (.int .i64 s.fr) ∧ w'.cell? ⟨w.heap.size, 2, none⟩ = some (.int .i64 s.to) ∧ w'.cell? ⟨w.heap.size, 3, none⟩ = some (.int .i64 s.jo) ∧ w'.cell? ⟨w.heap.size, 4, none⟩ = some (.int .i64 s.ra) ∧ w'.cell? ⟨w.heap.size, 5, none⟩ = some (.int .i64 s.mo) ∧ w'.cell? ⟨w.heap.size, 6, none⟩ = some (.slice A n c) ∧ w'.cell? ⟨w4.heap.size, 0, none⟩ = some (.int .i64 s.nm) ∧ w'.cell? ⟨w4.heap.size, 1, none⟩ = some (.int .i64 s.fr) ∧ w'.cell? ⟨w4.heap.size, 2, none⟩ = some (.int .i64 s.to) ∧ w'.cell? ⟨w4.heap.size, 3, none⟩ = some (.int .i64 s.jo) ∧ w'.cell? ⟨w4.heap.size, 4, none⟩ = some (.int .i64 s.ra) ∧ w'.cell? ⟨w4.heap.size, 5, none⟩ = some (.int .i64 s.mo) ∧ w'.cell? ⟨w4.heap.size, 6, none⟩ = some (.slice (some ⟨g4, 0, none⟩) n n) ∧ w.heap.size < w'.heap.size ∧ w4.heap.size < w'.heap.size ∧ RdNo w' w.heap.size A n N ∧ RdNo w' w4.heap.size (some ⟨g4, 0, none⟩) n N ∧ Below w.heap.size w w')) w7 := ⟨by rw [hc7 _ _ (by omega)]; exact c0, by rw [hc7 _ _ (by omega)]; exact c1, by rw [hc7 _ _ (by omega)]; exact c2, by rw [hc7 _ _ (by omega)]; exact c3, by rw [hc7 _ _ (by omega)]; exact c4, by rw [hc7 _ _ (by omega)]; exact c5, by rw [hc7 _ _ (by omega)]; exact c6, by rw [hc7 _ _ (by omega)]; exact d0, by rw [hc7 _ _ (by omega)]; exact d1, by rw [hc7 _ _ (by omega)]; exact d2, by rw [hc7 _ _ (by omega)]; exact d3, by rw [hc7 _ _ (by omega)]; exact d4, by rw [hc7 _ _ (by omega)]; exact d5, by rw [hc7 _ _ (by omega)]; exact d6, by omega, by omega, ha5.below (hbl7.mono (by omega)), hg5.below (hbl7.mono (by omega)), hB5.trans (hbl7.mono (by omega))⟩; clear hc7 hb7))
  go_wp2_with fail
  go_ret
  exact ⟨rfl, hS7.2.2.2.2.2.2.2.2.2.2.2.2.2.2.2.2.2.2⟩
end Go.Proofs.Ytjnckhdmaebfdaa
