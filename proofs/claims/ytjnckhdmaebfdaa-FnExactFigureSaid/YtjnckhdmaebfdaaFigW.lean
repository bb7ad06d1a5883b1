/- The given statement of Figure. No conditions. -/
import Derived.Test.YtjnckhdmaebfdaaFig
import Derived.Test.YtjnckhdmaebfdaaEvalW
import Derived.Test.YtjnckhdmaebfdaaBookW
namespace Go.Proofs.Ytjnckhdmaebfdaa
open Go.RowKit

set_option linter.unusedVariables false
theorem figT_same {m : Nat} {R R' : Nat → Rn} (h : sameR R R' m) (name mo jo : Int) (vm : Nat) (V : Nat → Fr) : figT m R' name mo jo vm V = figT m R name mo jo vm V := by
  rw [figT, figT, bookB_same h, ruBest_same h _ _ _ m (Nat.le_refl _)]
  split
  · cases hq : ruBest R name mo jo m with
    | none => rfl
    | some j =>
      obtain ⟨h1, h2, h3⟩ := h j (ruBest_lt hq)
      dsimp only
      rw [h1, h2, h3]
  · rfl

set_option maxRecDepth 8000 in
set_option maxHeartbeats 6400000 in
theorem walkFigure (A : Option Addr) (m c : Nat) (R : Nat → Rn) (name mo jo : Int) (VA : Option Addr) (vm vc : Nat) (V : Nat → Fr) (w : World) (hd : RdRu w w.heap.size A m R) (hv : RdFr w w.heap.size VA vm V) :
    Calls Try.prog 14 #[.agg #[.slice A m c], .int .i64 name, .int .i64 mo, .int .i64 jo, .slice VA vm vc] w fun e w' => e = .returned (.bool true) ∧ Below w.heap.size w w' := by
  have hmx := hd.1
  have hvm := hv.1
  have hbx0 : Below w.heap.size w (w.alloc (.cells #[.slice A m c] 48)) := (Below.alloc (Below.refl w.heap.size w) (Nat.le_refl _) _)
  obtain ⟨W, hW⟩ : ∃ W : Nat, W = m + wtR R m := ⟨_, rfl⟩
  have SZ := fun (v : World) (hv : RdRu v v.heap.size A m R) => szBookFrom v A m c R 1048576 hv (by omega)
  simp only [← hW] at SZ
  by_cases t1 : (1048576 : Int) < (W : Int)
  · simp only [if_pos t1] at SZ
    go_enter Try.func14, Try.ntmps14
    go_wp2_with fail
    refine (SZ _ ((hd.below hbx0).more (by simp))).mono ?_
    rintro e w1 ⟨rfl, hb1⟩
    clear SZ
    go_wp2_with fail
    go_ret
    exact ⟨rfl, hbx0.trans (hb1.mono (by simp))⟩
  simp only [if_neg t1] at SZ
  have hm2 : m ≤ 1048576 := by omega
  have HN := Lib.hid (show ∀ i, i < m → (R i).n ≤ 1048576 from fun i hi => by have := wtR_at R hi; omega)
  obtain ⟨y, hy⟩ : ∃ y : Int, y = 1048576 - (W : Int) := ⟨_, rfl⟩
  rw [← hy] at SZ
  have t2 : ¬ y < 0 := by omega
  have t3 : y ≤ 1048576 := by omega
  clear hy hW t1
  have SF := fun (v : World) => szFracsFrom v VA vm vc y hvm ⟨by omega, t3⟩
  by_cases t4 : y < (vm : Int)
  · simp only [if_pos t4] at SF
    go_enter Try.func14, Try.ntmps14
    go_wp2_with fail
    refine (SZ _ ((hd.below hbx0).more (by simp))).mono ?_
    rintro e w1 ⟨rfl, hb1⟩
    clear SZ
    go_wp2_with fail
    refine (SF _).mono ?_
    rintro e w' ⟨rfl, rfl⟩
    go_wp2_with fail
    go_ret
    exact ⟨rfl, hbx0.trans (hb1.mono (by simp))⟩
  simp only [if_neg t4] at SF
  obtain ⟨y2, hy2⟩ : ∃ y2 : Int, y2 = y - (vm : Int) := ⟨_, rfl⟩
  rw [← hy2] at SF
  have t5 : ¬ y2 < 0 := by omega
  have hvm2 : vm ≤ 1048576 := by omega
  clear hy2
  obtain ⟨z, hz⟩ : ∃ z : Int, z = (match figT m R name mo jo vm V with | none => 0 | some p => p.1) := ⟨_, rfl⟩
  obtain ⟨aa, ha⟩ : ∃ z : Int, z = (match figT m R name mo jo vm V with | none => 0 | some p => p.2) := ⟨_, rfl⟩
  obtain ⟨bb, hbb⟩ : ∃ b : Bool, b = (figT m R name mo jo vm V).isSome := ⟨_, rfl⟩
  have hfv : figV (figT m R name mo jo vm V) = .tuple #[.int .i64 z, .int .i64 aa, .bool bb] := by rw [hz, ha, hbb]; rfl
  have CS : ∀ (v : World) (g h : Nat) (G : Nat → Nat), RdRu v v.heap.size (some ⟨g, 0, none⟩) m (mkR R G) → RdFr v v.heap.size (some ⟨h, 0, none⟩) vm V → Calls Try.prog 47 #[.agg #[.slice (some ⟨g, 0, none⟩) m m], .int .i64 name, .int .i64 mo, .int .i64 jo, .slice (some ⟨h, 0, none⟩) vm vm] v fun e w' => e = .returned (.tuple #[.int .i64 z, .int .i64 aa, .bool bb]) ∧ Below v.heap.size v w' := fun v g h G h1 h2 => by
    rw [← hfv, ← figT_same (sameR_mk R G m) name mo jo vm V]
    exact sFigure v _ m m (mkR R G) name mo jo _ vm vm V h1 (Nat.le_refl _) (by omega) (fun i hi => Nat.le_trans (HN.out i hi) (by omega)) h2
  have CI : ∀ (v : World) (g h : Nat) (G : Nat → Nat), RdRu v v.heap.size (some ⟨g, 0, none⟩) m (mkR R G) → RdFr v v.heap.size (some ⟨h, 0, none⟩) vm V → Calls Try.prog 42 #[.agg #[.slice (some ⟨g, 0, none⟩) m m], .int .i64 name, .int .i64 mo, .int .i64 jo, .slice (some ⟨h, 0, none⟩) vm vm] v fun e w' => e = .returned (.tuple #[.int .i64 z, .int .i64 aa, .bool bb]) ∧ Below v.heap.size v w' := fun v g h G h1 h2 => by
    rw [← hfv, ← figT_same (sameR_mk R G m) name mo jo vm V]
    exact iFigure v _ m m (mkR R G) name mo jo _ vm vm V h1 (Nat.le_refl _) (by omega) (fun i hi => Nat.le_trans (HN.out i hi) (by omega)) h2
  clear hz ha hbb hfv
  go_enter Try.func14, Try.ntmps14
  go_wp2_with fail
  refine (SZ _ ((hd.below hbx0).more (by simp))).mono ?_
  rintro e w1 ⟨rfl, hb1⟩
  clear SZ
  go_wp2_with fail
  refine (SF _).mono ?_
  rintro e w' ⟨rfl, rfl⟩
  clear SF
  have pA : Whole w1 w.heap.size 48 #[.slice A m c] := (Whole.new w 48 #[.slice A m c]).below hb1 (by simp)
  have hB1 : Below w.heap.size w w1 := hbx0.trans (hb1.mono (by simp))
  replace hd := (hd.below hB1).more hB1.size
  replace hv := (hv.below hB1).more hB1.size
  clear hb1 hbx0
  have pAq0 : w1.cell? ⟨w.heap.size, 0, none⟩ = some (.slice A m c) := pA.cell 0
  have pAz := pA.lt
  go_wp2_with fail
  refine (toBook_any w1 A m c R hd hm2 HN.out).mono ?_
  rintro e w2 ⟨g1, G1, rfl, cop1, low1, hb2⟩
  clear pAq0 pAz
  have hs2 := hb2.size
  replace pA := pA.below hb2 pA.lt
  replace hd := (hd.below hb2).more hs2
  replace hv := (hv.below hb2).more hs2
  have hB2 : Below w.heap.size w w2 := hB1.trans (hb2.mono hB1.size)
  have hg1 := cop1.rd hm2 HN.out
  clear cop1 low1
  have pAq0 : w2.cell? ⟨w.heap.size, 0, none⟩ = some (.slice A m c) := pA.cell 0
  have pAz := pA.lt
  go_wp2_with fail
  refine (toFracs w2 VA vm vc V hv (by omega)).mono ?_
  rintro e w3 ⟨f1, rfl, rowf1, lowf1, hb3⟩
  clear pAq0 pAz
  have hs3 := hb3.size
  replace pA := pA.below hb3 pA.lt
  replace hd := (hd.below hb3).more hs3
  replace hv := (hv.below hb3).more hs3
  replace hg1 := (hg1.below hb3).more hs3
  have hB3 : Below w.heap.size w w3 := hB2.trans (hb3.mono hB2.size)
  have ltf1 := rowf1.lt
  have hf1 : RdFr w3 w3.heap.size (some ⟨f1, 0, none⟩) vm V := RdFr.row rowf1 ltf1 (Nat.le_refl _) (by omega)
  clear rowf1 lowf1 ltf1
  have pAq0 : w3.cell? ⟨w.heap.size, 0, none⟩ = some (.slice A m c) := pA.cell 0
  have pAz := pA.lt
  go_wp2_with fail
  refine (CS w3 g1 f1 G1 hg1 hf1).mono ?_
  rintro e w4 ⟨rfl, hb4⟩
  clear pAq0 pAz
  have hs4 := hb4.size
  replace pA := pA.below hb4 pA.lt
  replace hd := (hd.below hb4).more hs4
  replace hv := (hv.below hb4).more hs4
  replace hg1 := (hg1.below hb4).more hs4
  replace hf1 := (hf1.below hb4).more hs4
  have hB4 : Below w.heap.size w w4 := hB3.trans (hb4.mono hB3.size)
  clear hg1 hf1 CS
  have pAq0 : w4.cell? ⟨w.heap.size, 0, none⟩ = some (.slice A m c) := pA.cell 0
  have pAz := pA.lt
  go_wp2_with fail
  refine (toBook_any w4 A m c R hd hm2 HN.out).mono ?_
  rintro e w5 ⟨g2, G2, rfl, cop2, low2, hb5⟩
  clear pAq0 pAz
  have hs5 := hb5.size
  replace pA := pA.below hb5 pA.lt
  replace hd := (hd.below hb5).more hs5
  replace hv := (hv.below hb5).more hs5
  have hB5 : Below w.heap.size w w5 := hB4.trans (hb5.mono hB4.size)
  have hg2 := cop2.rd hm2 HN.out
  clear cop2 low2
  have hx5 : Below w5.heap.size w5 (w5.alloc (.cells #[.slice (some ⟨g2, 0, none⟩) m m] 37)) := (by (repeat (first | (with_reducible exact Below.refl _ _) | (with_reducible assumption) | (with_reducible refine Below.drew ?_) | (with_reducible refine below_drewN ?_ _) | ((with_reducible refine Below.setCell ?_ ?_ _); rotate_left; focus (first | (simp; done) | omega | (simp; omega))) | ((with_reducible refine Below.alloc ?_ ?_ _); rotate_left; focus (first | exact Nat.le_refl _ | omega | (simp; done) | (simp; omega))))))
  have hy5 := hx5.size
  replace pA := pA.below hx5 pA.lt
  replace hd := (hd.below hx5).more hy5
  replace hv := (hv.below hx5).more hy5
  replace hg2 := (hg2.below hx5).more hy5
  have hA5 : Below w.heap.size w (w5.alloc (.cells #[.slice (some ⟨g2, 0, none⟩) m m] 37)) := hB5.trans (hx5.mono hB5.size)
  have pX : Whole (w5.alloc (.cells #[.slice (some ⟨g2, 0, none⟩) m m] 37)) (w5.heap.size) 37 #[.slice (some ⟨g2, 0, none⟩) m m] := (Whole.new w5 37 #[.slice (some ⟨g2, 0, none⟩) m m])
  obtain ⟨b5a, hbq5a⟩ : ∃ b, b = w5.heap.size := ⟨_, rfl⟩
  obtain ⟨u5, hu5⟩ : ∃ u, u = (w5.alloc (.cells #[.slice (some ⟨g2, 0, none⟩) m m] 37)) := ⟨_, rfl⟩
  rw [← hu5] at pA hd hv hg2 pX hA5 hy5
  rw [← hbq5a] at pX
  clear hx5
  go_upto_region 10 with fail
  rw [← hu5]
  rw [← hbq5a]
  clear hu5 hbq5a
  have pAq0 : u5.cell? ⟨w.heap.size, 0, none⟩ = some (.slice A m c) := pA.cell 0
  have pAz := pA.lt
  have pXq0 : u5.cell? ⟨b5a, 0, none⟩ = some (.slice (some ⟨g2, 0, none⟩) m m) := pX.cell 0
  have pXz := pX.lt
  go_wp2_with fail
  refine (toFracs u5 VA vm vc V hv (by omega)).mono ?_
  rintro e w6 ⟨f2, rfl, rowf2, lowf2, hb6⟩
  clear pAq0 pXq0 pAz pXz
  have hs6 := hb6.size
  replace pA := pA.below hb6 pA.lt
  replace pX := pX.below hb6 pX.lt
  replace hd := (hd.below hb6).more hs6
  replace hv := (hv.below hb6).more hs6
  replace hg2 := (hg2.below hb6).more hs6
  have hB6 : Below w.heap.size w w6 := hA5.trans (hb6.mono hA5.size)
  have ltf2 := rowf2.lt
  have hf2 : RdFr w6 w6.heap.size (some ⟨f2, 0, none⟩) vm V := RdFr.row rowf2 ltf2 (Nat.le_refl _) (by omega)
  clear rowf2 lowf2 ltf2
  have pAq0 : w6.cell? ⟨w.heap.size, 0, none⟩ = some (.slice A m c) := pA.cell 0
  have pAz := pA.lt
  have pXq0 : w6.cell? ⟨b5a, 0, none⟩ = some (.slice (some ⟨g2, 0, none⟩) m m) := pX.cell 0
  have pXz := pX.lt
  go_wp2_with fail
  refine (CI w6 g2 f2 G2 hg2 hf2).mono ?_
  rintro e w7 ⟨rfl, hb7⟩
  clear pAq0 pXq0 pAz pXz
  have hs7 := hb7.size
  replace pA := pA.below hb7 pA.lt
  replace pX := pX.below hb7 pX.lt
  replace hd := (hd.below hb7).more hs7
  replace hv := (hv.below hb7).more hs7
  replace hg2 := (hg2.below hb7).more hs7
  replace hf2 := (hf2.below hb7).more hs7
  have hB7 : Below w.heap.size w w7 := hB6.trans (hb7.mono hB6.size)
  clear CI
  have hwP := hB7.size
  have pAq0 : w7.cell? ⟨w.heap.size, 0, none⟩ = some (.slice A m c) := pA.cell 0
  have pAz := pA.lt
  have pXq0 : w7.cell? ⟨b5a, 0, none⟩ = some (.slice (some ⟨g2, 0, none⟩) m m) := pX.cell 0
  have pXz := pX.lt
  go_wp2_with fail
  go_region_held3 (fun w' => w'.cell? ⟨w.heap.size, 0, none⟩ = some (.slice A m c) ∧ w'.cell? ⟨b5a, 0, none⟩ = some (.slice (some ⟨g2, 0, none⟩) m m) ∧ w.heap.size < w'.heap.size ∧ b5a < w'.heap.size ∧ RdRu w' w7.heap.size A m R ∧ RdRu w' w7.heap.size (some ⟨g2, 0, none⟩) m (mkR R G2) ∧ Below w.heap.size w w') (first | (with_reducible assumption) | (refine ⟨?_, ?_, ?_, ?_, ?_, ?_, ?_⟩ <;> first | (show RdRu _ _ _ _ _; assumption) | (with_reducible assumption) | omega | (simp [go_sem, *]; done) | (simp [*]; omega) | ((repeat (first | (with_reducible exact Below.refl _ _) | (with_reducible assumption) | (with_reducible refine Below.drew ?_) | (with_reducible refine below_drewN ?_ _) | ((with_reducible refine Below.setCell ?_ ?_ _); rotate_left; focus (first | (simp; done) | omega | (simp; omega))) | ((with_reducible refine Below.alloc ?_ ?_ _); rotate_left; focus (first | exact Nat.le_refl _ | omega | (simp; done) | (simp; omega))))); first | done | (simp [*]; done))))
    (first
    | (go_at_call 29; refine (toBook_any _ A m c R (RdRu.more (show RdRu w7.drew w7.heap.size A m R from hd) (Nat.le_refl _)) hm2 HN.out).mono ?_; rintro e w8 ⟨g8, G8, rfl, cop8, low8, hb8⟩; have hbl8 : Below w7.heap.size w7 w8 := ⟨hb8.os, hb8.tape, hb8.output, hb8.size, hb8.block⟩; obtain ⟨hc8, -⟩ := keepc hbl8; have hs8 := hbl8.size; have hg8 := cop8.rd hm2 HN.out; have hx8 : RdRu w8 w8.heap.size (some ⟨g2, 0, none⟩) m (mkR R G2) := (hg2.below hbl8).more hs8; have hS8 : ((fun w' => w'.cell? ⟨w.heap.size, 0, none⟩ = some (.slice A m c) ∧ w'.cell? ⟨b5a, 0, none⟩ = some (.slice (some ⟨g2, 0, none⟩) m m) ∧ w.heap.size < w'.heap.size ∧ b5a < w'.heap.size ∧ RdRu w' w7.heap.size A m R ∧ RdRu w' w7.heap.size (some ⟨g2, 0, none⟩) m (mkR R G2) ∧ Below w.heap.size w w')) w8 := ⟨by rw [hc8 _ _ (by omega)]; exact pAq0, by rw [hc8 _ _ (by omega)]; exact pXq0, by omega, by omega, hd.below hbl8, hg2.below hbl8, hB7.trans (hbl8.mono (by omega))⟩; clear hc8 hb8 low8 cop8)
    | (go_at_call 30; refine (eqBook_any _ _ _ m _ _ (mkR R G2) (mkR R G8) hx8 hg8 (fun _ _ => ⟨rfl, rfl, rfl⟩)).mono ?_; rintro e w9 ⟨rfl, hb9⟩; have hbl9 : Below w7.heap.size w7 w9 := hbl8.trans (hb9.mono (by omega)); obtain ⟨hc9, -⟩ := keepc hbl9; have hs9 := hbl9.size; have hS9 : ((fun w' => w'.cell? ⟨w.heap.size, 0, none⟩ = some (.slice A m c) ∧ w'.cell? ⟨b5a, 0, none⟩ = some (.slice (some ⟨g2, 0, none⟩) m m) ∧ w.heap.size < w'.heap.size ∧ b5a < w'.heap.size ∧ RdRu w' w7.heap.size A m R ∧ RdRu w' w7.heap.size (some ⟨g2, 0, none⟩) m (mkR R G2) ∧ Below w.heap.size w w')) w9 := ⟨by rw [hc9 _ _ (by omega)]; exact pAq0, by rw [hc9 _ _ (by omega)]; exact pXq0, by omega, by omega, hd.below hbl9, hg2.below hbl9, hB7.trans (hbl9.mono (by omega))⟩; clear hc9 hb9))
  clear pAq0 pXq0 pAz pXz
  clear hS8 hS9 hg8 hx8 hbl8
  replace hv := (hv.below hbl9).more hs9
  replace hf2 := (hf2.below hbl9).more hs9
  have hB9 : Below w.heap.size w w9 := hB7.trans (hbl9.mono hwP)
  go_wp2_with fail
  refine (toFracs w9 VA vm vc V hv (by omega)).mono ?_
  rintro e w10 ⟨f3, rfl, rowf3, lowf3, hb10⟩
  have hs10 := hb10.size
  replace hv := (hv.below hb10).more hs10
  replace hf2 := (hf2.below hb10).more hs10
  have hB10 : Below w.heap.size w w10 := hB9.trans (hb10.mono hB9.size)
  have ltf3 := rowf3.lt
  have hf3 : RdFr w10 w10.heap.size (some ⟨f3, 0, none⟩) vm V := RdFr.row rowf3 ltf3 (Nat.le_refl _) (by omega)
  clear rowf3 lowf3 ltf3
  go_wp2_with fail
  refine (eqFracs w10 (some ⟨f2, 0, none⟩) (some ⟨f3, 0, none⟩) vm vm vm vm _ _ hf2 hf3 ⟨rfl, fun _ _ => rfl⟩).mono ?_
  rintro e w11 ⟨rfl, hb11⟩
  have hs11 := hb11.size
  replace hv := (hv.below hb11).more hs11
  replace hf2 := (hf2.below hb11).more hs11
  replace hf3 := (hf3.below hb11).more hs11
  have hB11 : Below w.heap.size w w11 := hB10.trans (hb11.mono hB10.size)
  go_wp2_with fail
  go_ret
  exact ⟨rfl, hB11⟩
end Go.Proofs.Ytjnckhdmaebfdaa
