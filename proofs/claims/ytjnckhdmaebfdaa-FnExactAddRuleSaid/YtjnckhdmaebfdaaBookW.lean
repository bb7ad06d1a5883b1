/- The given statement of BookOk. No conditions. -/
import Derived.Test.YtjnckhdmaebfdaaBookOk
import Derived.Test.YtjnckhdmaebfdaaRuleW
namespace Go.Proofs.Ytjnckhdmaebfdaa
open Go.RowKit

instance : Inhabited Rn := ⟨Rn.zero⟩
theorem RdRu.arg {H : Type} {enc : TypeId × Value → H} {w : World} {base fuel : Nat} {spare : Nat → Bool} {held : Bool} {A : Option Addr} {len cap : Nat} {x : DataW H × List MemPlace}
    (hf : DataW.trod enc Try.prog w base spare held fuel 46 (Value.slice A len cap).cells.toList = some x) : ∃ R : Nat → Rn, RdRu w w.heap.size A len R := by
  rcases Go.Deep.open_slice Try.underlying46 hf with ⟨hcs, _⟩ | ⟨a, l, c, m, k, D, Pl, hcs, hb, hl, hm, hmm, rfl, hx⟩
  · simp [Value.cells] at hcs
    obtain ⟨rfl, rfl, rfl⟩ := hcs
    exact ⟨fun _ => Rn.zero, by omega, fun i hi => by omega⟩
  · simp [Value.cells] at hcs
    obtain ⟨rfl, rfl, rfl⟩ := hcs
    have hlm : len ≤ m := by rw [hmm]; split <;> omega
    have ce : Try.prog.cellsOf 24 = 7 := by kernel_rfl
    have each : ∀ i, i < m → ∃ r : Rn, (w.cell? (a.add (i * 7)) = some (.int .i64 r.s.nm) ∧ w.cell? (a.add (i * 7 + 1)) = some (.int .i64 r.s.fr) ∧ w.cell? (a.add (i * 7 + 2)) = some (.int .i64 r.s.to) ∧ w.cell? (a.add (i * 7 + 3)) = some (.int .i64 r.s.jo) ∧ w.cell? (a.add (i * 7 + 4)) = some (.int .i64 r.s.ra) ∧ w.cell? (a.add (i * 7 + 5)) = some (.int .i64 r.s.mo) ∧ w.cell? (a.add (i * 7 + 6)) = some (.slice r.A r.n r.c)) ∧ RdNo w w.heap.size r.A r.n r.N := by
      intro i hi
      obtain ⟨cs', h1, h2⟩ := hx i hi
      rw [ce] at h1
      obtain ⟨_, hlen, hcell⟩ := World.cells?_some h1
      obtain ⟨s, A', n, c', N, e, hn⟩ := ruleCells h2 hlen
      subst e
      have k0 := hcell 0 (by omega)
      have k1 := hcell 1 (by omega)
      have k2 := hcell 2 (by omega)
      have k3 := hcell 3 (by omega)
      have k4 := hcell 4 (by omega)
      have k5 := hcell 5 (by omega)
      have k6 := hcell 6 (by omega)
      simp only [Go.Deep.add_add] at k0 k1 k2 k3 k4 k5 k6
      exact ⟨⟨s, A', n, c', N⟩, ⟨by simpa using k0, by simpa using k1, by simpa using k2, by simpa using k3, by simpa using k4, by simpa using k5, by simpa using k6⟩, hn⟩
    obtain ⟨R, hR⟩ := Go.Deep.choose_lt each
    refine ⟨R, by unfold maxLen at hm; omega, fun i hi => ?_⟩
    obtain ⟨b, off, spot⟩ := a
    obtain ⟨h0, hn⟩ := hR i (by omega)
    have hs : spot = none := by simpa [Addr.add] using World.cell?_spot (hR 0 (by omega)).1.1
    subst hs
    have ha : ∀ j, Addr.add ⟨b, off, none⟩ j = ⟨b, off + j, none⟩ := by intro j; unfold Addr.add; split <;> simp_all
    simp only [ha] at h0
    exact ⟨⟨b, off, rfl, cell_lt h0.1, by simpa [Nat.add_assoc] using h0⟩, hn⟩

set_option maxRecDepth 8000 in
set_option maxHeartbeats 3200000 in
theorem walkBookOk (A : Option Addr) (m c : Nat) (R : Nat → Rn) (w : World) (hd : RdRu w w.heap.size A m R) :
    Calls Try.prog 6 #[.agg #[.slice A m c]] w fun e w' => e = .returned (.bool true) ∧ Below w.heap.size w w' := by
  have hmx := hd.1
  have hbx0 : Below w.heap.size w (w.alloc (.cells #[.slice A m c] 48)) := (Below.alloc (Below.refl w.heap.size w) (Nat.le_refl _) _)
  obtain ⟨W, hW⟩ : ∃ W : Nat, W = m + wtR R m := ⟨_, rfl⟩
  have SZ := fun (v : World) (hv : RdRu v v.heap.size A m R) => szBookFrom v A m c R 1048576 hv (by omega)
  simp only [← hW] at SZ
  by_cases t1 : (1048576 : Int) < (W : Int)
  · simp only [if_pos t1] at SZ
    go_enter Try.func6, Try.ntmps6
    go_wp2_with fail
    refine (SZ _ ((hd.below hbx0).more (by simp))).mono ?_
    rintro e w1 ⟨rfl, hb1⟩
    clear SZ
    go_wp2_with fail
    go_ret
    exact ⟨rfl, hbx0.trans (hb1.mono (by simp))⟩
  simp only [if_neg t1] at SZ
  have hm2 : m ≤ 1048576 := by omega
  have HN := Lib.hid (show ∀ i, i < m → (R i).n ≤ 1048576 from fun i hi => by have := wtR_at R hi; omega)
  obtain ⟨V, hV⟩ : ∃ V, V = bookB m R := ⟨_, rfl⟩
  have CS : ∀ (v : World) (g : Nat) (G : Nat → Nat), RdRu v v.heap.size (some ⟨g, 0, none⟩) m (mkR R G) → Calls Try.prog 28 #[.agg #[.slice (some ⟨g, 0, none⟩) m m]] v fun e w' => e = .returned (.bool V) ∧ Below v.heap.size v w' := fun v g G hh => by rw [hV, ← bookB_same (sameR_mk R G m)]; exact sBookOk v _ m m (mkR R G) hh (Nat.le_refl _) (by omega) (fun i hi => Nat.le_trans (HN.out i hi) (by omega))
  have CI : ∀ (v : World) (g : Nat) (G : Nat → Nat), RdRu v v.heap.size (some ⟨g, 0, none⟩) m (mkR R G) → Calls Try.prog 26 #[.agg #[.slice (some ⟨g, 0, none⟩) m m]] v fun e w' => e = .returned (.bool V) ∧ Below v.heap.size v w' := fun v g G hh => by rw [hV, ← bookB_same (sameR_mk R G m)]; exact iBookOk v _ m m (mkR R G) hh (Nat.le_refl _) (by omega) (fun i hi => Nat.le_trans (HN.out i hi) (by omega))
  clear hV
  obtain ⟨y, hy⟩ : ∃ y : Int, y = 1048576 - (W : Int) := ⟨_, rfl⟩
  rw [← hy] at SZ
  have t2 : ¬ y < 0 := by omega
  clear hy hW t1
  go_enter Try.func6, Try.ntmps6
  go_wp2_with fail
  refine (SZ _ ((hd.below hbx0).more (by simp))).mono ?_
  rintro e w1 ⟨rfl, hb1⟩
  clear SZ
  obtain ⟨hc1, -⟩ := keepc hb1
  have c0 : w1.cell? ⟨w.heap.size, 0, none⟩ = some (.slice A m c) := by rw [hc1 _ _ (by simp)]; simp [go_sem]
  have hB1 : Below w.heap.size w w1 := hbx0.trans (hb1.mono (by simp))
  have hz1 : w.heap.size < w1.heap.size := by have := hb1.size; simp at this; omega
  clear hc1 hb1 hbx0
  go_wp2_with fail
  refine (toBook_any w1 A m c R ((hd.below hB1).more hB1.size) hm2 HN.out).mono ?_
  rintro e w2 ⟨g2, G2, rfl, cop2, low2, hb2⟩
  obtain ⟨hc2, -⟩ := keepc hb2
  have hs2 := hb2.size
  have hg2 := cop2.rd hm2 HN.out
  have hB2 : Below w.heap.size w w2 := hB1.trans (hb2.mono (by omega))
  replace c0 : w2.cell? ⟨w.heap.size, 0, none⟩ = some (.slice A m c) := by rw [hc2 _ _ (by omega)]; exact c0
  clear cop2
  go_wp2_with fail
  refine (CS w2 g2 G2 hg2).mono ?_
  rintro e w3 ⟨rfl, hb3⟩
  obtain ⟨hc3, -⟩ := keepc hb3
  have hs3 := hb3.size
  have hB3 : Below w.heap.size w w3 := hB2.trans (hb3.mono (by omega))
  replace c0 : w3.cell? ⟨w.heap.size, 0, none⟩ = some (.slice A m c) := by rw [hc3 _ _ (by omega)]; exact c0
  clear hc3 hc2 hb2 hb3 hg2 low2 CS
  go_wp2_with fail
  refine (toBook_any w3 A m c R ((hd.below hB3).more hB3.size) hm2 HN.out).mono ?_
  rintro e w4 ⟨g4, G4, rfl, cop4, low4, hb4⟩
  obtain ⟨hc4, -⟩ := keepc hb4
  have hs4 := hb4.size
  have hg4 := cop4.rd hm2 HN.out
  have hB4 : Below w.heap.size w w4 := hB3.trans (hb4.mono (by omega))
  replace c0 : w4.cell? ⟨w.heap.size, 0, none⟩ = some (.slice A m c) := by rw [hc4 _ _ (by omega)]; exact c0
  clear cop4
  go_wp2_with fail
  have hbx : Below w4.heap.size w4 (w4.alloc (.cells #[.slice (some ⟨g4, 0, none⟩) m m] 37)) := (Below.refl _ _).alloc (Nat.le_refl _) _
  refine (CI _ g4 G4 ((hg4.below hbx).more (by simp))).mono ?_
  rintro e w5 ⟨rfl, hb5⟩
  clear CI
  obtain ⟨hc5, -⟩ := keepc hb5
  have hs5 := hb5.size
  simp at hs5
  have hz5 : w4.heap.size < w5.heap.size := by omega
  have d0 : w5.cell? ⟨w4.heap.size, 0, none⟩ = some (.slice (some ⟨g4, 0, none⟩) m m) := by rw [hc5 _ _ (by simp)]; simp [go_sem]
  have hbb := hbx.trans (hb5.mono (by simp))
  obtain ⟨hd5, -⟩ := keepc hbb
  replace c0 : w5.cell? ⟨w.heap.size, 0, none⟩ = some (.slice A m c) := by rw [hd5 _ _ (by omega)]; exact c0
  have hB5 : Below w.heap.size w w5 := hB4.trans (hbb.mono (by omega))
  have hg5 := hg4.below hbb
  have ha5 := hd.below hB5
  have hzw : w.heap.size < w5.heap.size := by omega
  clear hc5 hd5 hb5 hc4 low4 hg4 hd hb4
  go_wp2_with fail
  go_region_held3 (fun w' => w'.cell? ⟨w.heap.size, 0, none⟩ = some (.slice A m c) ∧ w'.cell? ⟨w4.heap.size, 0, none⟩ = some (.slice (some ⟨g4, 0, none⟩) m m) ∧ w.heap.size < w'.heap.size ∧ w4.heap.size < w'.heap.size ∧ RdRu w' w.heap.size A m R ∧ RdRu w' w4.heap.size (some ⟨g4, 0, none⟩) m (mkR R G4) ∧ Below w.heap.size w w') (first | (with_reducible assumption) | (refine ⟨?_, ?_, ?_, ?_, ?_, ?_, ?_⟩ <;> first | (show RdRu _ _ _ _ _; assumption) | (with_reducible assumption) | omega | (simp [go_sem, *]; done) | (simp [*]; omega) | ((repeat (first | (with_reducible exact Below.refl _ _) | (with_reducible assumption) | (with_reducible refine Below.drew ?_) | (with_reducible refine below_drewN ?_ _) | ((with_reducible refine Below.setCell ?_ ?_ _); rotate_left; focus (first | (simp; done) | omega | (simp; omega))) | ((with_reducible refine Below.alloc ?_ ?_ _); rotate_left; focus (first | exact Nat.le_refl _ | omega | (simp; done) | (simp; omega))))); first | done | (simp [*]; done))))
    (first
    | (go_at_call 29; refine (toBook_any _ A m c R (RdRu.more (show RdRu w5.drew w.heap.size A m R from ha5) hB5.size) hm2 HN.out).mono ?_; rintro e w6 ⟨g6, G6, rfl, cop6, low6, hb6⟩; have hbl6 : Below w5.heap.size w5 w6 := ⟨hb6.os, hb6.tape, hb6.output, hb6.size, hb6.block⟩; obtain ⟨hc6, -⟩ := keepc hbl6; have hs6 := hbl6.size; have hg6 := cop6.rd hm2 HN.out; have hx6 : RdRu w6 w6.heap.size (some ⟨g4, 0, none⟩) m (mkR R G4) := (hg5.below (hbl6.mono (by omega))).more (by omega); have hS6 : ((fun w' => w'.cell? ⟨w.heap.size, 0, none⟩ = some (.slice A m c) ∧ w'.cell? ⟨w4.heap.size, 0, none⟩ = some (.slice (some ⟨g4, 0, none⟩) m m) ∧ w.heap.size < w'.heap.size ∧ w4.heap.size < w'.heap.size ∧ RdRu w' w.heap.size A m R ∧ RdRu w' w4.heap.size (some ⟨g4, 0, none⟩) m (mkR R G4) ∧ Below w.heap.size w w')) w6 := ⟨by rw [hc6 _ _ (by omega)]; exact c0, by rw [hc6 _ _ (by omega)]; exact d0, by omega, by omega, ha5.below (hbl6.mono (by omega)), hg5.below (hbl6.mono (by omega)), hB5.trans (hbl6.mono (by omega))⟩; clear hc6 hb6 low6 cop6)
    | (go_at_call 30; refine (eqBook_any _ _ _ m _ _ (mkR R G4) (mkR R G6) hx6 hg6 (fun _ _ => ⟨rfl, rfl, rfl⟩)).mono ?_; rintro e w7 ⟨rfl, hb7⟩; have hbl7 : Below w5.heap.size w5 w7 := hbl6.trans (hb7.mono (by omega)); obtain ⟨hc7, -⟩ := keepc hbl7; have hs7 := hbl7.size; have hS7 : ((fun w' => w'.cell? ⟨w.heap.size, 0, none⟩ = some (.slice A m c) ∧ w'.cell? ⟨w4.heap.size, 0, none⟩ = some (.slice (some ⟨g4, 0, none⟩) m m) ∧ w.heap.size < w'.heap.size ∧ w4.heap.size < w'.heap.size ∧ RdRu w' w.heap.size A m R ∧ RdRu w' w4.heap.size (some ⟨g4, 0, none⟩) m (mkR R G4) ∧ Below w.heap.size w w')) w7 := ⟨by rw [hc7 _ _ (by omega)]; exact c0, by rw [hc7 _ _ (by omega)]; exact d0, by omega, by omega, ha5.below (hbl7.mono (by omega)), hg5.below (hbl7.mono (by omega)), hB5.trans (hbl7.mono (by omega))⟩; clear hc7 hb7))
  go_wp2_with fail
  go_ret
  exact ⟨rfl, hS7.2.2.2.2.2.2⟩
end Go.Proofs.Ytjnckhdmaebfdaa
