/- The given statement of AddRule. No conditions. -/
import Derived.Test.YtjnckhdmaebfdaaMarkB
import Derived.Test.YtjnckhdmaebfdaaIAdd
import Derived.Test.YtjnckhdmaebfdaaBookW
import Derived.Deep.DeepCutAuto
namespace Go.Proofs.Ytjnckhdmaebfdaa
open Go.RowKit

set_option linter.unusedVariables false
set_option linter.unusedSimpArgs false
theorem Mid.whole {lo hi b : Nat} {w w' : World} {T : TypeId} {cs : Array Value} (h : Whole w b T cs) (hm : Mid lo hi w w') (hb : hi ≤ b) : Whole w' b T cs := (hm.2 b hb (Whole.lt h)).trans h
theorem addR_same2 {R R' : Nat → Rn} {m : Nat} {r r' : Rn} (h : sameR R R' m) (hr : r'.s = r.s ∧ r'.n = r.n ∧ r'.N = r.N) : sameR (addR R m r) (addR R' m r') (m + 1) := fun i hi => by
  by_cases e : i = m
  · subst e
    rw [addR_same, addR_same]
    exact hr
  · rw [addR_lt R r (by omega), addR_lt R' r' (by omega)]
    exact h i (by omega)
theorem addOk_same {R R' : Nat → Rn} {m : Nat} {r r' : Rn} (h : sameR R R' m) (hr : r'.s = r.s ∧ r'.n = r.n ∧ r'.N = r.N) : addOk R' m r' = addOk R m r := by
  rw [addOk, addOk, bookB_same h, bookB_same (addR_same2 h hr)]
theorem addN_same {R R' : Nat → Rn} {m : Nat} {r r' : Rn} (h : sameR R R' m) (hr : r'.s = r.s ∧ r'.n = r.n ∧ r'.N = r.N) : addN R' m r' = addN R m r := by rw [addN, addN, addOk_same h hr]
theorem addN_le (R : Nat → Rn) (m : Nat) (r : Rn) : addN R m r ≤ m + 1 := by rw [addN]; split <;> omega
theorem wtR_same {R R' : Nat → Rn} : ∀ {k : Nat}, sameR R R' k → wtR R' k = wtR R k
  | 0, _ => rfl
  | k + 1, h => by rw [wtR, wtR, wtR_same (k := k) (fun i hi => h i (by omega)), (h k (by omega)).2.1]
theorem wtR_add (R : Nat → Rn) (m : Nat) (r : Rn) : wtR (addR R m r) (m + 1) = wtR R m + r.n := by
  rw [wtR, addR_same]
  congr 1
  exact wtR_same (fun i hi => by rw [addR_lt R r hi]; exact ⟨rfl, rfl, rfl⟩)
theorem OwF.under {w : World} {base m : Nat} {v : Value} {R : Nat → Rn} (h : OwF w base v m R) {b : Nat} (hb : b < base) (o : Nat) (u : Value) : OwF (w.setCell ⟨b, o, none⟩ u) base v m R :=
  ⟨h.1.kept (row := some b) (grown_setCell (grown_refl _ _) rfl u) (fun q hq e => by injection e with e; have := (h.1.lt q hq).1; omega), fun i hi => (h.2.1 i hi).kept (row := some b) (grown_setCell (grown_refl _ _) rfl u) (fun q hq e => by injection e with e; have := ((h.2.1 i hi).lt q hq).1; omega), h.2.2⟩
/-- One cell of an older block. -/
def Box1 (w : World) (B q : Nat) (v : Value) : Prop := q < B ∧ w.cell? ⟨q, 0, none⟩ = some v
theorem Box1.below {w w' : World} {B q : Nat} {v : Value} (h : Box1 w B q v) (hb : Below B w w') : Box1 w' B q v := ⟨h.1, (hb.cell (p := ⟨q, 0, none⟩) h.1).trans h.2⟩
theorem Box1.more {w : World} {B q : Nat} {v : Value} (h : Box1 w B q v) {B' : Nat} (hB : B ≤ B') : Box1 w B' q v := ⟨Nat.lt_of_lt_of_le h.1 hB, h.2⟩
theorem sameR.via {Q X Y : Nat → Rn} {k : Nat} (h : sameR Q X k) (h' : sameR Q Y k) : sameR X Y k := fun i hi => ⟨(h' i hi).1.trans (h i hi).1.symm, (h' i hi).2.1.trans (h i hi).2.1.symm, (h' i hi).2.2.trans (h i hi).2.2.symm⟩
/-- What AddRule leaves, as a function. -/
def AddF (w : World) (Q : Nat → Rn) (an : Nat) (ok : Bool) (e : Ending) (w' : World) : Prop :=
  ∃ (X : Nat → Rn) (B : Option Addr) (cc : Nat), e = .returned (.tuple #[.agg #[.slice B an cc], .bool ok]) ∧ sameR Q X an ∧ OwF w' w.heap.size (.slice B an cc) an X ∧ Below w.heap.size w w'
theorem Added.fn {w w' : World} {R R' : Nat → Rn} {m : Nat} {r r' : Rn} {e : Ending} (h : sameR R R' m) (hr : r'.s = r.s ∧ r'.n = r.n ∧ r'.N = r.N) (ha : Added w R' m r' e w') : AddF w (addR R m r) (addN R m r) (addOk R m r) e w' := by
  obtain ⟨xs, B, cc, he, hl, hs, own, hb⟩ := ha
  rw [addN_same h hr] at hl
  rw [addOk_same h hr] at he
  have hf := own.fn
  rw [hl] at he hf
  refine ⟨_, B, cc, he, fun i hi => ?_, hf, hb⟩
  have h1 := hs i (by omega)
  have h2 := addR_same2 h hr i (by have := addN_le R m r; omega)
  exact ⟨h1.1.trans h2.1, h1.2.1.trans h2.2.1, h1.2.2.trans h2.2.2⟩

theorem sAddF (w : World) (g h m n : Nat) (G : Nat → Nat) (R : Nat → Rn) (r : Rn) (hd : RdRu w w.heap.size (some ⟨g, 0, none⟩) m (mkR R G)) (hr : RdNo w w.heap.size (some ⟨h, 0, none⟩) r.n r.N) (hm : m ≤ 1048576) (hn : ∀ i, i < m → (R i).n ≤ 1048576) (hn' : r.n ≤ 1048576) :
    Calls Try.prog 38 #[.agg #[.slice (some ⟨g, 0, none⟩) m m], .agg #[.int .i64 r.s.nm, .int .i64 r.s.fr, .int .i64 r.s.to, .int .i64 r.s.jo, .int .i64 r.s.ra, .int .i64 r.s.mo, .slice (some ⟨h, 0, none⟩) r.n r.n]] w (AddF w (addR R m r) (addN R m r) (addOk R m r)) :=
  (sAddRule w _ m m (mkR R G) ⟨r.s, some ⟨h, 0, none⟩, r.n, r.n, r.N⟩ hd hr hm (Nat.le_refl _) (by omega) (fun i hi => hn i hi) hn' (fun i hi e => by cases e) (fun e => by cases e)).mono fun e w' ha => Added.fn (r := r) (r' := ⟨r.s, some ⟨h, 0, none⟩, r.n, r.n, r.N⟩) (sameR_mk R G m) ⟨rfl, rfl, rfl⟩ ha

theorem iAddF (w : World) (g h m n : Nat) (G : Nat → Nat) (R : Nat → Rn) (r : Rn) (hd : RdRu w w.heap.size (some ⟨g, 0, none⟩) m (mkR R G)) (hr : RdNo w w.heap.size (some ⟨h, 0, none⟩) r.n r.N) (hm : m ≤ 1048576) (hn : ∀ i, i < m → (R i).n ≤ 1048576) (hn' : r.n ≤ 1048576) :
    Calls Try.prog 39 #[.agg #[.slice (some ⟨g, 0, none⟩) m m], .agg #[.int .i64 r.s.nm, .int .i64 r.s.fr, .int .i64 r.s.to, .int .i64 r.s.jo, .int .i64 r.s.ra, .int .i64 r.s.mo, .slice (some ⟨h, 0, none⟩) r.n r.n]] w (AddF w (addR R m r) (addN R m r) (addOk R m r)) :=
  (iAddRule w _ m m (mkR R G) ⟨r.s, some ⟨h, 0, none⟩, r.n, r.n, r.N⟩ hd hr hm (Nat.le_refl _) (by omega) (fun i hi => hn i hi) hn' (fun i hi e => by cases e) (fun e => by cases e)).mono fun e w' ha => Added.fn (r := r) (r' := ⟨r.s, some ⟨h, 0, none⟩, r.n, r.n, r.N⟩) (sameR_mk R G m) ⟨rfl, rfl, rfl⟩ ha

set_option maxRecDepth 8000 in
set_option maxHeartbeats 6400000 in
theorem walkAddRule (A : Option Addr) (m c : Nat) (R : Nat → Rn) (s : Ru) (A2 : Option Addr) (n c2 : Nat) (N : Nat → No) (w : World) (hd : RdRu w w.heap.size A m R) (hr : RdNo w w.heap.size A2 n N) :
    Calls Try.prog 11 #[.agg #[.slice A m c], .agg #[.int .i64 s.nm, .int .i64 s.fr, .int .i64 s.to, .int .i64 s.jo, .int .i64 s.ra, .int .i64 s.mo, .slice A2 n c2]] w fun e w' => e = .returned (.bool true) ∧ Below w.heap.size w w' := by
  have hmx := hd.1
  have hnx := hr.1
  have hbx0 : Below w.heap.size w ((w.alloc (.cells #[.slice A m c] 48)).alloc (.cells #[.int .i64 s.nm, .int .i64 s.fr, .int .i64 s.to, .int .i64 s.jo, .int .i64 s.ra, .int .i64 s.mo, .slice A2 n c2] 24)) := (by (repeat (first | (with_reducible exact Below.refl _ _) | (with_reducible assumption) | (with_reducible refine Below.drew ?_) | (with_reducible refine below_drewN ?_ _) | ((with_reducible refine Below.setCell ?_ ?_ _); rotate_left; focus (first | (simp; done) | omega | (simp; omega))) | ((with_reducible refine Below.alloc ?_ ?_ _); rotate_left; focus (first | exact Nat.le_refl _ | omega | (simp; done) | (simp; omega))))))
  obtain ⟨W, hW⟩ : ∃ W : Nat, W = m + wtR R m := ⟨_, rfl⟩
  have SZ := fun (v : World) (hv : RdRu v v.heap.size A m R) => szBookFrom v A m c R 1048576 hv (by omega)
  simp only [← hW] at SZ
  by_cases t1 : (1048576 : Int) < (W : Int)
  · simp only [if_pos t1] at SZ
    go_enter Try.func11, Try.ntmps11
    go_wp2_with fail
    refine (SZ _ ((hd.below hbx0).more hbx0.size)).mono ?_
    rintro e w1 ⟨rfl, hb1⟩
    clear SZ
    go_wp2_with fail
    go_ret
    exact ⟨rfl, hbx0.trans (hb1.mono hbx0.size)⟩
  simp only [if_neg t1] at SZ
  have hm2 : m ≤ 1048576 := by omega
  have HN := Lib.hid (show ∀ i, i < m → (R i).n ≤ 1048576 from fun i hi => by have := wtR_at R hi; omega)
  obtain ⟨y, hy⟩ : ∃ y : Int, y = 1048576 - (W : Int) := ⟨_, rfl⟩
  rw [← hy] at SZ
  have t2 : ¬ y < 0 := by omega
  have t3 : y ≤ 1048576 := by omega
  have HW := Lib.hid (show m + wtR R m ≤ 1048576 by omega)
  clear hy hW t1
  have SF := fun (v : World) => szRuleFrom v s A2 n c2 y hnx ⟨by omega, t3⟩
  have pA0 : Whole ((w.alloc (.cells #[.slice A m c] 48)).alloc (.cells #[.int .i64 s.nm, .int .i64 s.fr, .int .i64 s.to, .int .i64 s.jo, .int .i64 s.ra, .int .i64 s.mo, .slice A2 n c2] 24)) w.heap.size 48 #[.slice A m c] := (Whole.new w 48 #[.slice A m c]).alloc _
  have pR0 : Whole ((w.alloc (.cells #[.slice A m c] 48)).alloc (.cells #[.int .i64 s.nm, .int .i64 s.fr, .int .i64 s.to, .int .i64 s.jo, .int .i64 s.ra, .int .i64 s.mo, .slice A2 n c2] 24)) (w.heap.size + 1) 24 #[.int .i64 s.nm, .int .i64 s.fr, .int .i64 s.to, .int .i64 s.jo, .int .i64 s.ra, .int .i64 s.mo, .slice A2 n c2] := by have k := Whole.new (w.alloc (.cells #[.slice A m c] 48)) 24 #[.int .i64 s.nm, .int .i64 s.fr, .int .i64 s.to, .int .i64 s.jo, .int .i64 s.ra, .int .i64 s.mo, .slice A2 n c2]; simpa using k
  by_cases t4 : y < (n : Int)
  · simp only [if_pos t4] at SF
    go_enter Try.func11, Try.ntmps11
    go_wp2_with fail
    refine (SZ _ ((hd.below hbx0).more hbx0.size)).mono ?_
    rintro e w1 ⟨rfl, hb1⟩
    clear SZ
    have pA := pA0.below hb1 pA0.lt
    have pR := pR0.below hb1 pR0.lt
    have hB1 : Below w.heap.size w w1 := hbx0.trans (hb1.mono hbx0.size)
    replace hd := (hd.below hB1).more hB1.size
    replace hr := (hr.below hB1).more hB1.size
    clear hb1 hbx0 pA0 pR0
    have pAq0 : w1.cell? ⟨w.heap.size, 0, none⟩ = some (.slice A m c) := pA.cell 0
    have pAz := pA.lt
    have pRq0 : w1.cell? ⟨(w.heap.size + 1), 0, none⟩ = some (.int .i64 s.nm) := pR.cell 0
    have pRq1 : w1.cell? ⟨(w.heap.size + 1), 1, none⟩ = some (.int .i64 s.fr) := pR.cell 1
    have pRq2 : w1.cell? ⟨(w.heap.size + 1), 2, none⟩ = some (.int .i64 s.to) := pR.cell 2
    have pRq3 : w1.cell? ⟨(w.heap.size + 1), 3, none⟩ = some (.int .i64 s.jo) := pR.cell 3
    have pRq4 : w1.cell? ⟨(w.heap.size + 1), 4, none⟩ = some (.int .i64 s.ra) := pR.cell 4
    have pRq5 : w1.cell? ⟨(w.heap.size + 1), 5, none⟩ = some (.int .i64 s.mo) := pR.cell 5
    have pRq6 : w1.cell? ⟨(w.heap.size + 1), 6, none⟩ = some (.slice A2 n c2) := pR.cell 6
    have pRz := pR.lt
    go_wp2_with fail
    refine (SF w1).mono ?_
    rintro e w2 ⟨rfl, hb2⟩
    clear pAq0 pRq0 pRq1 pRq2 pRq3 pRq4 pRq5 pRq6 pAz pRz
    have hs2 := hb2.size
    replace pA := pA.below hb2 pA.lt
    replace pR := pR.below hb2 pR.lt
    replace hd := (hd.below hb2).more hs2
    replace hr := (hr.below hb2).more hs2
    have hB2 : Below w.heap.size w w2 := hB1.trans (hb2.mono hB1.size)
    clear SF
    have pAq0 : w2.cell? ⟨w.heap.size, 0, none⟩ = some (.slice A m c) := pA.cell 0
    have pAz := pA.lt
    have pRq0 : w2.cell? ⟨(w.heap.size + 1), 0, none⟩ = some (.int .i64 s.nm) := pR.cell 0
    have pRq1 : w2.cell? ⟨(w.heap.size + 1), 1, none⟩ = some (.int .i64 s.fr) := pR.cell 1
    have pRq2 : w2.cell? ⟨(w.heap.size + 1), 2, none⟩ = some (.int .i64 s.to) := pR.cell 2
    have pRq3 : w2.cell? ⟨(w.heap.size + 1), 3, none⟩ = some (.int .i64 s.jo) := pR.cell 3
    have pRq4 : w2.cell? ⟨(w.heap.size + 1), 4, none⟩ = some (.int .i64 s.ra) := pR.cell 4
    have pRq5 : w2.cell? ⟨(w.heap.size + 1), 5, none⟩ = some (.int .i64 s.mo) := pR.cell 5
    have pRq6 : w2.cell? ⟨(w.heap.size + 1), 6, none⟩ = some (.slice A2 n c2) := pR.cell 6
    have pRz := pR.lt
    go_wp2_with fail
    go_ret
    exact ⟨rfl, hB2⟩
  simp only [if_neg t4] at SF
  obtain ⟨y2, hy2⟩ : ∃ y2 : Int, y2 = y - (n : Int) := ⟨_, rfl⟩
  rw [← hy2] at SF
  have t5 : ¬ y2 < 0 := by omega
  have hn2 : n ≤ 1048576 := by omega
  clear hy2
  obtain ⟨ok, hok⟩ : ∃ b, b = addOk R m ⟨s, A2, n, c2, N⟩ := ⟨_, rfl⟩
  obtain ⟨an, han⟩ : ∃ k, k = addN R m ⟨s, A2, n, c2, N⟩ := ⟨_, rfl⟩
  obtain ⟨Q, hQ⟩ : ∃ Q, Q = addR R m ⟨s, A2, n, c2, N⟩ := ⟨_, rfl⟩
  have han1 : an ≤ m + 1 := by rw [han]; exact addN_le _ _ _
  have HQ := Lib.hid (show ∀ X : Nat → Rn, sameR Q X an → an + wtR X an ≤ 4194304 from fun X hX => by
    have k1 := wtR_same hX
    have k2 := wtR_mono Q han1
    have k3 : wtR Q (m + 1) = wtR R m + n := by rw [hQ]; exact wtR_add R m _
    have k4 := HW.out
    omega)
  have CS : ∀ (v : World) (g h : Nat) (G : Nat → Nat), RdRu v v.heap.size (some ⟨g, 0, none⟩) m (mkR R G) → RdNo v v.heap.size (some ⟨h, 0, none⟩) n N → Calls Try.prog 38 #[.agg #[.slice (some ⟨g, 0, none⟩) m m], .agg #[.int .i64 s.nm, .int .i64 s.fr, .int .i64 s.to, .int .i64 s.jo, .int .i64 s.ra, .int .i64 s.mo, .slice (some ⟨h, 0, none⟩) n n]] v (AddF v Q an ok) := fun v g h G h1 h2 => by
    rw [hQ, han, hok]
    exact sAddF v g h m n G R ⟨s, A2, n, c2, N⟩ h1 h2 hm2 HN.out hn2
  have CI : ∀ (v : World) (g h : Nat) (G : Nat → Nat), RdRu v v.heap.size (some ⟨g, 0, none⟩) m (mkR R G) → RdNo v v.heap.size (some ⟨h, 0, none⟩) n N → Calls Try.prog 39 #[.agg #[.slice (some ⟨g, 0, none⟩) m m], .agg #[.int .i64 s.nm, .int .i64 s.fr, .int .i64 s.to, .int .i64 s.jo, .int .i64 s.ra, .int .i64 s.mo, .slice (some ⟨h, 0, none⟩) n n]] v (AddF v Q an ok) := fun v g h G h1 h2 => by
    rw [hQ, han, hok]
    exact iAddF v g h m n G R ⟨s, A2, n, c2, N⟩ h1 h2 hm2 HN.out hn2
  clear hok han hQ
  go_enter Try.func11, Try.ntmps11
  go_wp2_with fail
  refine (SZ _ ((hd.below hbx0).more hbx0.size)).mono ?_
  rintro e w1 ⟨rfl, hb1⟩
  clear SZ
  have pA := pA0.below hb1 pA0.lt
  have pR := pR0.below hb1 pR0.lt
  have hB1 : Below w.heap.size w w1 := hbx0.trans (hb1.mono hbx0.size)
  replace hd := (hd.below hB1).more hB1.size
  replace hr := (hr.below hB1).more hB1.size
  clear hb1 hbx0 pA0 pR0
  have pAq0 : w1.cell? ⟨w.heap.size, 0, none⟩ = some (.slice A m c) := pA.cell 0
  have pAz := pA.lt
  have pRq0 : w1.cell? ⟨(w.heap.size + 1), 0, none⟩ = some (.int .i64 s.nm) := pR.cell 0
  have pRq1 : w1.cell? ⟨(w.heap.size + 1), 1, none⟩ = some (.int .i64 s.fr) := pR.cell 1
  have pRq2 : w1.cell? ⟨(w.heap.size + 1), 2, none⟩ = some (.int .i64 s.to) := pR.cell 2
  have pRq3 : w1.cell? ⟨(w.heap.size + 1), 3, none⟩ = some (.int .i64 s.jo) := pR.cell 3
  have pRq4 : w1.cell? ⟨(w.heap.size + 1), 4, none⟩ = some (.int .i64 s.ra) := pR.cell 4
  have pRq5 : w1.cell? ⟨(w.heap.size + 1), 5, none⟩ = some (.int .i64 s.mo) := pR.cell 5
  have pRq6 : w1.cell? ⟨(w.heap.size + 1), 6, none⟩ = some (.slice A2 n c2) := pR.cell 6
  have pRz := pR.lt
  go_wp2_with fail
  refine (SF w1).mono ?_
  rintro e w2 ⟨rfl, hb2⟩
  clear pAq0 pRq0 pRq1 pRq2 pRq3 pRq4 pRq5 pRq6 pAz pRz
  have hs2 := hb2.size
  replace pA := pA.below hb2 pA.lt
  replace pR := pR.below hb2 pR.lt
  replace hd := (hd.below hb2).more hs2
  replace hr := (hr.below hb2).more hs2
  have hB2 : Below w.heap.size w w2 := hB1.trans (hb2.mono hB1.size)
  clear SF
  have pAq0 : w2.cell? ⟨w.heap.size, 0, none⟩ = some (.slice A m c) := pA.cell 0
  have pAz := pA.lt
  have pRq0 : w2.cell? ⟨(w.heap.size + 1), 0, none⟩ = some (.int .i64 s.nm) := pR.cell 0
  have pRq1 : w2.cell? ⟨(w.heap.size + 1), 1, none⟩ = some (.int .i64 s.fr) := pR.cell 1
  have pRq2 : w2.cell? ⟨(w.heap.size + 1), 2, none⟩ = some (.int .i64 s.to) := pR.cell 2
  have pRq3 : w2.cell? ⟨(w.heap.size + 1), 3, none⟩ = some (.int .i64 s.jo) := pR.cell 3
  have pRq4 : w2.cell? ⟨(w.heap.size + 1), 4, none⟩ = some (.int .i64 s.ra) := pR.cell 4
  have pRq5 : w2.cell? ⟨(w.heap.size + 1), 5, none⟩ = some (.int .i64 s.mo) := pR.cell 5
  have pRq6 : w2.cell? ⟨(w.heap.size + 1), 6, none⟩ = some (.slice A2 n c2) := pR.cell 6
  have pRz := pR.lt
  have KU : ∀ v, Below w2.heap.size w2 v → (fun w' => w'.cell? ⟨w.heap.size, 0, none⟩ = some (.slice A m c) ∧ w'.cell? ⟨(w.heap.size + 1), 0, none⟩ = some (.int .i64 s.nm) ∧ w'.cell? ⟨(w.heap.size + 1), 1, none⟩ = some (.int .i64 s.fr) ∧ w'.cell? ⟨(w.heap.size + 1), 2, none⟩ = some (.int .i64 s.to) ∧ w'.cell? ⟨(w.heap.size + 1), 3, none⟩ = some (.int .i64 s.jo) ∧ w'.cell? ⟨(w.heap.size + 1), 4, none⟩ = some (.int .i64 s.ra) ∧ w'.cell? ⟨(w.heap.size + 1), 5, none⟩ = some (.int .i64 s.mo) ∧ w'.cell? ⟨(w.heap.size + 1), 6, none⟩ = some (.slice A2 n c2) ∧ w.heap.size < w'.heap.size ∧ w.heap.size + 1 < w'.heap.size ∧ ¬ w.heap.size = w'.heap.size ∧ ¬ w.heap.size + 1 = w'.heap.size ∧ Below w2.heap.size w2 w') v := fun v hb => ⟨((keepc hb).1 _ _ (by omega)).trans pAq0, ((keepc hb).1 _ _ (by omega)).trans pRq0, ((keepc hb).1 _ _ (by omega)).trans pRq1, ((keepc hb).1 _ _ (by omega)).trans pRq2, ((keepc hb).1 _ _ (by omega)).trans pRq3, ((keepc hb).1 _ _ (by omega)).trans pRq4, ((keepc hb).1 _ _ (by omega)).trans pRq5, ((keepc hb).1 _ _ (by omega)).trans pRq6, Nat.lt_of_lt_of_le pAz hb.size, Nat.lt_of_lt_of_le pRz hb.size, Nat.ne_of_lt (Nat.lt_of_lt_of_le pAz hb.size), Nat.ne_of_lt (Nat.lt_of_lt_of_le pRz hb.size), hb⟩
  have hBz := hB2.size
  go_upto_region 8 with fail
  go_cut [6, 7] (fun s6 s7 wx => ∃ (q : Nat) (X : Nat → Rn) (B : Option Addr) (cc : Nat), s6 = .pointer (some ⟨q, 0, none⟩) ∧ s7 = .bool ok ∧ sameR Q X an ∧ q < wx.heap.size ∧ wx.cell? ⟨q, 0, none⟩ = some (.slice B an cc) ∧ RdRu wx wx.heap.size B an X ∧ Below w2.heap.size w2 wx)
  case first =>
    go_region_held3 (fun w' => w'.cell? ⟨w.heap.size, 0, none⟩ = some (.slice A m c) ∧ w'.cell? ⟨(w.heap.size + 1), 0, none⟩ = some (.int .i64 s.nm) ∧ w'.cell? ⟨(w.heap.size + 1), 1, none⟩ = some (.int .i64 s.fr) ∧ w'.cell? ⟨(w.heap.size + 1), 2, none⟩ = some (.int .i64 s.to) ∧ w'.cell? ⟨(w.heap.size + 1), 3, none⟩ = some (.int .i64 s.jo) ∧ w'.cell? ⟨(w.heap.size + 1), 4, none⟩ = some (.int .i64 s.ra) ∧ w'.cell? ⟨(w.heap.size + 1), 5, none⟩ = some (.int .i64 s.mo) ∧ w'.cell? ⟨(w.heap.size + 1), 6, none⟩ = some (.slice A2 n c2) ∧ w.heap.size < w'.heap.size ∧ w.heap.size + 1 < w'.heap.size ∧ ¬ w.heap.size = w'.heap.size ∧ ¬ w.heap.size + 1 = w'.heap.size ∧ Below w2.heap.size w2 w') (first | (with_reducible assumption) | exact KU _ (by (repeat (first | (with_reducible exact Below.refl _ _) | (with_reducible assumption) | (with_reducible refine Below.drew ?_) | (with_reducible refine below_drewN ?_ _) | ((with_reducible refine Below.setCell ?_ ?_ _); rotate_left; focus (first | (simp; done) | omega | (simp; omega))) | ((with_reducible refine Below.alloc ?_ ?_ _); rotate_left; focus (first | exact Nat.le_refl _ | omega | (simp; done) | (simp; omega)))))))
      (first
        | (go_at_call 29; refine (toBook_any _ A m c R (RdRu.more (RdRu.below hd (show Below w2.heap.size w2 _ from (by (repeat (first | (with_reducible exact Below.refl _ _) | (with_reducible assumption) | (with_reducible refine Below.drew ?_) | (with_reducible refine below_drewN ?_ _) | ((with_reducible refine Below.setCell ?_ ?_ _); rotate_left; focus (first | (simp; done) | omega | (simp; omega))) | ((with_reducible refine Below.alloc ?_ ?_ _); rotate_left; focus (first | exact Nat.le_refl _ | omega | (simp; done) | (simp; omega)))))))) (by first | exact Nat.le_refl _ | (simp; done) | (simp; omega) | omega)) hm2 HN.out).mono ?_; rintro e wa ⟨ga, Ga, rfl, copa, -, hba⟩; obtain ⟨hca, hfa⟩ := keepc hba; have hqa := keepz hba; have hza := hba.size; (try simp only [World.size_alloc, World.size_drew] at hza); have hla : Below w2.heap.size w2 wa := (show Below w2.heap.size w2 _ from (by (repeat (first | (with_reducible exact Below.refl _ _) | (with_reducible assumption) | (with_reducible refine Below.drew ?_) | (with_reducible refine below_drewN ?_ _) | ((with_reducible refine Below.setCell ?_ ?_ _); rotate_left; focus (first | (simp; done) | omega | (simp; omega))) | ((with_reducible refine Below.alloc ?_ ?_ _); rotate_left; focus (first | exact Nat.le_refl _ | omega | (simp; done) | (simp; omega))))))).trans (hba.mono (by first | exact Nat.le_refl _ | (simp; done) | (simp; omega) | omega)); have hSa := KU wa hla; have hsa := hla.size; have hga := copa.rd hm2 HN.out; (try (have hxa : w2.heap.size < wa.heap.size := (by omega))); clear hba copa hza)
        | (go_at_call 17; refine (toRule_any _ s A2 n c2 N (RdNo.more (RdNo.below hr (show Below w2.heap.size w2 _ from (by (repeat (first | (with_reducible exact Below.refl _ _) | (with_reducible assumption) | (with_reducible refine Below.drew ?_) | (with_reducible refine below_drewN ?_ _) | ((with_reducible refine Below.setCell ?_ ?_ _); rotate_left; focus (first | (simp; done) | omega | (simp; omega))) | ((with_reducible refine Below.alloc ?_ ?_ _); rotate_left; focus (first | exact Nat.le_refl _ | omega | (simp; done) | (simp; omega)))))))) (by first | exact Nat.le_refl _ | (simp; done) | (simp; omega) | omega)) hn2).mono ?_; rintro e wb ⟨gb, rfl, rowb, -, hbb⟩; obtain ⟨hcb, hfb⟩ := keepc hbb; have hqb := keepz hbb; have hzb := hbb.size; (try simp only [World.size_alloc, World.size_drew] at hzb); have hab : Below wa.heap.size wa wb := (show Below wa.heap.size wa _ from (by (repeat (first | (with_reducible exact Below.refl _ _) | (with_reducible assumption) | (with_reducible refine Below.drew ?_) | (with_reducible refine below_drewN ?_ _) | ((with_reducible refine Below.setCell ?_ ?_ _); rotate_left; focus (first | (simp; done) | omega | (simp; omega))) | ((with_reducible refine Below.alloc ?_ ?_ _); rotate_left; focus (first | exact Nat.le_refl _ | omega | (simp; done) | (simp; omega))))))).trans (hbb.mono (by first | exact Nat.le_refl _ | (simp; done) | (simp; omega) | omega)); have hlb := hla.trans (hab.mono hsa); have hSb := KU wb hlb; have hsb := hab.size; have hgb : RdNo wb wb.heap.size (some ⟨gb, 0, none⟩) n N := RdNo.row rowb rowb.lt (Nat.le_refl _) (by omega); have hga2 := (hga.below hab).more hsb; (try (have hxb : w2.heap.size < wb.heap.size := (by omega))); (try (have hyb : wa.heap.size < wb.heap.size := (by omega))); clear hbb rowb hzb)
        | (go_at_call 38; refine (CS _ ga gb Ga (RdRu.more (RdRu.below hga2 (show Below wb.heap.size wb _ from (by (repeat (first | (with_reducible exact Below.refl _ _) | (with_reducible assumption) | (with_reducible refine Below.drew ?_) | (with_reducible refine below_drewN ?_ _) | ((with_reducible refine Below.setCell ?_ ?_ _); rotate_left; focus (first | (simp; done) | omega | (simp; omega))) | ((with_reducible refine Below.alloc ?_ ?_ _); rotate_left; focus (first | exact Nat.le_refl _ | omega | (simp; done) | (simp; omega)))))))) (by first | exact Nat.le_refl _ | (simp; done) | (simp; omega) | omega)) (RdNo.more (RdNo.below hgb (show Below wb.heap.size wb _ from (by (repeat (first | (with_reducible exact Below.refl _ _) | (with_reducible assumption) | (with_reducible refine Below.drew ?_) | (with_reducible refine below_drewN ?_ _) | ((with_reducible refine Below.setCell ?_ ?_ _); rotate_left; focus (first | (simp; done) | omega | (simp; omega))) | ((with_reducible refine Below.alloc ?_ ?_ _); rotate_left; focus (first | exact Nat.le_refl _ | omega | (simp; done) | (simp; omega)))))))) (by first | exact Nat.le_refl _ | (simp; done) | (simp; omega) | omega))).mono ?_; rintro e wd ⟨Xd, Bd, cd, rfl, hXd, ownd, hbd⟩; obtain ⟨hcd, hfd⟩ := keepc hbd; have hqd := keepz hbd; have hzd := hbd.size; (try simp only [World.size_alloc, World.size_drew] at hzd); have hbd2 : Below wb.heap.size wb wd := (show Below wb.heap.size wb _ from (by (repeat (first | (with_reducible exact Below.refl _ _) | (with_reducible assumption) | (with_reducible refine Below.drew ?_) | (with_reducible refine below_drewN ?_ _) | ((with_reducible refine Below.setCell ?_ ?_ _); rotate_left; focus (first | (simp; done) | omega | (simp; omega))) | ((with_reducible refine Below.alloc ?_ ?_ _); rotate_left; focus (first | exact Nat.le_refl _ | omega | (simp; done) | (simp; omega))))))).trans (hbd.mono (by first | exact Nat.le_refl _ | (simp; done) | (simp; omega) | omega)); have hld := hlb.trans (hbd2.mono (by omega)); have hSd := KU wd hld; have hsd := hbd2.size; clear hbd hzd))
    all_goals
      go_wp2_with fail
      go_meet
      refine ⟨_, Xd, Bd, cd, rfl, rfl, hXd, ?_, ?_, ?_, ?_⟩
      · first | omega | (simp; done) | (simp; omega) | (simp [*]; done)
      · simp [go_sem, *]
      · first | exact (OwF.under ownd (by first | omega | (simp; done) | (simp; omega)) _ _).rd | exact RdRu.more ((ownd.all (by (repeat (first | (with_reducible exact Below.refl _ _) | (with_reducible assumption) | (with_reducible refine Below.drew ?_) | (with_reducible refine below_drewN ?_ _) | ((with_reducible refine Below.setCell ?_ ?_ _); rotate_left; focus (first | (simp; done) | omega | (simp; omega))) | ((with_reducible refine Below.alloc ?_ ?_ _); rotate_left; focus (first | exact Nat.le_refl _ | omega | (simp; done) | (simp; omega))))))).rd) (Nat.le_refl _)
      · (repeat (first | (with_reducible exact Below.refl _ _) | (with_reducible assumption) | (with_reducible refine Below.drew ?_) | (with_reducible refine below_drewN ?_ _) | ((with_reducible refine Below.setCell ?_ ?_ _); rotate_left; focus (first | (simp; done) | omega | (simp; omega))) | ((with_reducible refine Below.alloc ?_ ?_ _); rotate_left; focus (first | exact Nat.le_refl _ | omega | (simp; done) | (simp; omega)))))
  case rest =>
    clear KU hBz
    clear pAq0 pRq0 pRq1 pRq2 pRq3 pRq4 pRq5 pRq6 pAz pRz
    obtain ⟨qw, X0, B0, cc0, rfl, rfl, hX0, qwz, qwq, rdX0, hbc8⟩ := hcut
    obtain ⟨wc8, hwc8⟩ : ∃ v, v = wc := ⟨_, rfl⟩
    rw [← hwc8] at qwz qwq rdX0 hbc8 ⊢
    clear hwc8 wc
    have hsc8 := hbc8.size
    have bX0 : Box1 wc8 wc8.heap.size qw (.slice B0 an cc0) := ⟨qwz, qwq⟩
    clear qwz qwq
    replace pA := pA.below hbc8 pA.lt
    replace pR := pR.below hbc8 pR.lt
    replace hd := (hd.below hbc8).more hsc8
    replace hr := (hr.below hbc8).more hsc8
    have hBc8 : Below w.heap.size w wc8 := hB2.trans (hbc8.mono hB2.size)
    have hpA : w.heap.size < wc8.heap.size := pA.lt
    have hpR : w.heap.size + 1 < wc8.heap.size := pR.lt
    have pAq0 : wc8.cell? ⟨w.heap.size, 0, none⟩ = some (.slice A m c) := pA.cell 0
    have pAz := pA.lt
    have pRq0 : wc8.cell? ⟨(w.heap.size + 1), 0, none⟩ = some (.int .i64 s.nm) := pR.cell 0
    have pRq1 : wc8.cell? ⟨(w.heap.size + 1), 1, none⟩ = some (.int .i64 s.fr) := pR.cell 1
    have pRq2 : wc8.cell? ⟨(w.heap.size + 1), 2, none⟩ = some (.int .i64 s.to) := pR.cell 2
    have pRq3 : wc8.cell? ⟨(w.heap.size + 1), 3, none⟩ = some (.int .i64 s.jo) := pR.cell 3
    have pRq4 : wc8.cell? ⟨(w.heap.size + 1), 4, none⟩ = some (.int .i64 s.ra) := pR.cell 4
    have pRq5 : wc8.cell? ⟨(w.heap.size + 1), 5, none⟩ = some (.int .i64 s.mo) := pR.cell 5
    have pRq6 : wc8.cell? ⟨(w.heap.size + 1), 6, none⟩ = some (.slice A2 n c2) := pR.cell 6
    have pRz := pR.lt
    have bX0q := bX0.2
    have bX0z := bX0.1
    go_wp2_with fail
    refine (toBook_any wc8 A m c R (hd.more (by omega)) hm2 HN.out).mono ?_
    rintro e w3 ⟨g4, G4, rfl, cop, low4, hb3⟩
    clear pAq0 pRq0 pRq1 pRq2 pRq3 pRq4 pRq5 pRq6 pAz pRz
    clear bX0q bX0z
    have hs3 := hb3.size
    replace pA := pA.below hb3 pA.lt
    replace pR := pR.below hb3 pR.lt
    replace hd := hd.below (hb3.mono (by omega))
    replace hr := hr.below (hb3.mono (by omega))
    replace rdX0 := rdX0.below (hb3.mono (by omega))
    replace bX0 := bX0.below (hb3.mono (by omega))
    have hB3 : Below w.heap.size w w3 := hBc8.trans (hb3.mono hBc8.size)
    have hg4 := cop.rd hm2 HN.out
    have hGlt := Lib.hid (fun i hi => (cop.2.1 i hi).2.lt)
    have hglt : g4 < w3.heap.size := cop.1.lt
    have hx3 : Below w3.heap.size w3 (w3.alloc (.cells #[.slice (some ⟨g4, 0, none⟩) m m] 37)) := (by (repeat (first | (with_reducible exact Below.refl _ _) | (with_reducible assumption) | (with_reducible refine Below.drew ?_) | (with_reducible refine below_drewN ?_ _) | ((with_reducible refine Below.setCell ?_ ?_ _); rotate_left; focus (first | (simp; done) | omega | (simp; omega))) | ((with_reducible refine Below.alloc ?_ ?_ _); rotate_left; focus (first | exact Nat.le_refl _ | omega | (simp; done) | (simp; omega))))))
    have hy3 := hx3.size
    replace pA := pA.below hx3 pA.lt
    replace pR := pR.below hx3 pR.lt
    replace hg4 := (hg4.below hx3).more hy3
    replace hd := hd.below (hx3.mono (by omega))
    replace hr := hr.below (hx3.mono (by omega))
    replace rdX0 := rdX0.below (hx3.mono (by omega))
    replace bX0 := bX0.below (hx3.mono (by omega))
    replace cop := cop.below hx3
    have hA3 : Below w.heap.size w (w3.alloc (.cells #[.slice (some ⟨g4, 0, none⟩) m m] 37)) := hB3.trans (hx3.mono hB3.size)
    have pX : Whole (w3.alloc (.cells #[.slice (some ⟨g4, 0, none⟩) m m] 37)) (w3.heap.size) 37 #[.slice (some ⟨g4, 0, none⟩) m m] := (Whole.new w3 37 #[.slice (some ⟨g4, 0, none⟩) m m])
    obtain ⟨b3a, hbq3a⟩ : ∃ b, b = w3.heap.size := ⟨_, rfl⟩
    obtain ⟨u3, hu3⟩ : ∃ u, u = (w3.alloc (.cells #[.slice (some ⟨g4, 0, none⟩) m m] 37)) := ⟨_, rfl⟩
    rw [← hu3] at pA pR hg4 hd hr rdX0 bX0 pX hA3 hy3 cop
    rw [← hbq3a] at pX
    have hltpX : b3a < u3.heap.size := pX.lt
    have HpX := Lib.hid hbq3a
    clear hx3
    go_upto_region 10 with fail
    rw [← hu3]
    rw [← hbq3a]
    clear hu3 hbq3a
    have pAq0 : u3.cell? ⟨w.heap.size, 0, none⟩ = some (.slice A m c) := pA.cell 0
    have pAz := pA.lt
    have pRq0 : u3.cell? ⟨(w.heap.size + 1), 0, none⟩ = some (.int .i64 s.nm) := pR.cell 0
    have pRq1 : u3.cell? ⟨(w.heap.size + 1), 1, none⟩ = some (.int .i64 s.fr) := pR.cell 1
    have pRq2 : u3.cell? ⟨(w.heap.size + 1), 2, none⟩ = some (.int .i64 s.to) := pR.cell 2
    have pRq3 : u3.cell? ⟨(w.heap.size + 1), 3, none⟩ = some (.int .i64 s.jo) := pR.cell 3
    have pRq4 : u3.cell? ⟨(w.heap.size + 1), 4, none⟩ = some (.int .i64 s.ra) := pR.cell 4
    have pRq5 : u3.cell? ⟨(w.heap.size + 1), 5, none⟩ = some (.int .i64 s.mo) := pR.cell 5
    have pRq6 : u3.cell? ⟨(w.heap.size + 1), 6, none⟩ = some (.slice A2 n c2) := pR.cell 6
    have pRz := pR.lt
    have pXq0 : u3.cell? ⟨b3a, 0, none⟩ = some (.slice (some ⟨g4, 0, none⟩) m m) := pX.cell 0
    have pXz := pX.lt
    have bX0q := bX0.2
    have bX0z := bX0.1
    go_wp2_with fail
    refine (toRule_any u3 s A2 n c2 N (hr.more (by omega)) hn2).mono ?_
    rintro e w4 ⟨h5, rfl, row5, low5, hb4⟩
    clear pAq0 pRq0 pRq1 pRq2 pRq3 pRq4 pRq5 pRq6 pXq0 pAz pRz pXz
    clear bX0q bX0z
    have hs4 := hb4.size
    replace pA := pA.below hb4 pA.lt
    replace pR := pR.below hb4 pR.lt
    replace pX := pX.below hb4 pX.lt
    replace hg4 := (hg4.below hb4).more hs4
    replace hd := hd.below (hb4.mono (by omega))
    replace hr := hr.below (hb4.mono (by omega))
    replace rdX0 := rdX0.below (hb4.mono (by omega))
    replace bX0 := bX0.below (hb4.mono (by omega))
    replace cop := cop.below hb4
    have hB4 : Below w.heap.size w w4 := hA3.trans (hb4.mono hA3.size)
    have hg5 : RdNo w4 w4.heap.size (some ⟨h5, 0, none⟩) n N := RdNo.row row5 row5.lt (Nat.le_refl _) (by omega)
    have h5lt : h5 < w4.heap.size := row5.lt
    have hx4 : Below w4.heap.size w4 (w4.alloc (.cells #[.int .i64 s.nm, .int .i64 s.fr, .int .i64 s.to, .int .i64 s.jo, .int .i64 s.ra, .int .i64 s.mo, .slice (some ⟨h5, 0, none⟩) n n] 29)) := (by (repeat (first | (with_reducible exact Below.refl _ _) | (with_reducible assumption) | (with_reducible refine Below.drew ?_) | (with_reducible refine below_drewN ?_ _) | ((with_reducible refine Below.setCell ?_ ?_ _); rotate_left; focus (first | (simp; done) | omega | (simp; omega))) | ((with_reducible refine Below.alloc ?_ ?_ _); rotate_left; focus (first | exact Nat.le_refl _ | omega | (simp; done) | (simp; omega))))))
    have hy4 := hx4.size
    replace pA := pA.below hx4 pA.lt
    replace pR := pR.below hx4 pR.lt
    replace pX := pX.below hx4 pX.lt
    replace hg4 := (hg4.below hx4).more hy4
    replace hg5 := (hg5.below hx4).more hy4
    replace hd := hd.below (hx4.mono (by omega))
    replace hr := hr.below (hx4.mono (by omega))
    replace rdX0 := rdX0.below (hx4.mono (by omega))
    replace bX0 := bX0.below (hx4.mono (by omega))
    replace cop := cop.below hx4
    replace row5 := row5.of_block (hx4.block _ row5.lt)
    have hA4 : Below w.heap.size w (w4.alloc (.cells #[.int .i64 s.nm, .int .i64 s.fr, .int .i64 s.to, .int .i64 s.jo, .int .i64 s.ra, .int .i64 s.mo, .slice (some ⟨h5, 0, none⟩) n n] 29)) := hB4.trans (hx4.mono hB4.size)
    have pY : Whole (w4.alloc (.cells #[.int .i64 s.nm, .int .i64 s.fr, .int .i64 s.to, .int .i64 s.jo, .int .i64 s.ra, .int .i64 s.mo, .slice (some ⟨h5, 0, none⟩) n n] 29)) (w4.heap.size) 29 #[.int .i64 s.nm, .int .i64 s.fr, .int .i64 s.to, .int .i64 s.jo, .int .i64 s.ra, .int .i64 s.mo, .slice (some ⟨h5, 0, none⟩) n n] := (Whole.new w4 29 #[.int .i64 s.nm, .int .i64 s.fr, .int .i64 s.to, .int .i64 s.jo, .int .i64 s.ra, .int .i64 s.mo, .slice (some ⟨h5, 0, none⟩) n n])
    obtain ⟨b4a, hbq4a⟩ : ∃ b, b = w4.heap.size := ⟨_, rfl⟩
    obtain ⟨u4, hu4⟩ : ∃ u, u = (w4.alloc (.cells #[.int .i64 s.nm, .int .i64 s.fr, .int .i64 s.to, .int .i64 s.jo, .int .i64 s.ra, .int .i64 s.mo, .slice (some ⟨h5, 0, none⟩) n n] 29)) := ⟨_, rfl⟩
    rw [← hu4] at pA pR pX hg4 hg5 hd hr rdX0 bX0 pY hA4 hy4 cop row5
    rw [← hbq4a] at pY
    have hltpY : b4a < u4.heap.size := pY.lt
    have HpY := Lib.hid hbq4a
    clear hx4
    go_upto_region 11 with fail
    rw [← hu4]
    rw [← hbq4a]
    clear hu4 hbq4a
    have pAq0 : u4.cell? ⟨w.heap.size, 0, none⟩ = some (.slice A m c) := pA.cell 0
    have pAz := pA.lt
    have pRq0 : u4.cell? ⟨(w.heap.size + 1), 0, none⟩ = some (.int .i64 s.nm) := pR.cell 0
    have pRq1 : u4.cell? ⟨(w.heap.size + 1), 1, none⟩ = some (.int .i64 s.fr) := pR.cell 1
    have pRq2 : u4.cell? ⟨(w.heap.size + 1), 2, none⟩ = some (.int .i64 s.to) := pR.cell 2
    have pRq3 : u4.cell? ⟨(w.heap.size + 1), 3, none⟩ = some (.int .i64 s.jo) := pR.cell 3
    have pRq4 : u4.cell? ⟨(w.heap.size + 1), 4, none⟩ = some (.int .i64 s.ra) := pR.cell 4
    have pRq5 : u4.cell? ⟨(w.heap.size + 1), 5, none⟩ = some (.int .i64 s.mo) := pR.cell 5
    have pRq6 : u4.cell? ⟨(w.heap.size + 1), 6, none⟩ = some (.slice A2 n c2) := pR.cell 6
    have pRz := pR.lt
    have pXq0 : u4.cell? ⟨b3a, 0, none⟩ = some (.slice (some ⟨g4, 0, none⟩) m m) := pX.cell 0
    have pXz := pX.lt
    have pYq0 : u4.cell? ⟨b4a, 0, none⟩ = some (.int .i64 s.nm) := pY.cell 0
    have pYq1 : u4.cell? ⟨b4a, 1, none⟩ = some (.int .i64 s.fr) := pY.cell 1
    have pYq2 : u4.cell? ⟨b4a, 2, none⟩ = some (.int .i64 s.to) := pY.cell 2
    have pYq3 : u4.cell? ⟨b4a, 3, none⟩ = some (.int .i64 s.jo) := pY.cell 3
    have pYq4 : u4.cell? ⟨b4a, 4, none⟩ = some (.int .i64 s.ra) := pY.cell 4
    have pYq5 : u4.cell? ⟨b4a, 5, none⟩ = some (.int .i64 s.mo) := pY.cell 5
    have pYq6 : u4.cell? ⟨b4a, 6, none⟩ = some (.slice (some ⟨h5, 0, none⟩) n n) := pY.cell 6
    have pYz := pY.lt
    have bX0q := bX0.2
    have bX0z := bX0.1
    go_wp2_with fail
    refine (CI u4 g4 h5 G4 hg4 hg5).mono ?_
    rintro e w5 ⟨X1, B1, cc1, rfl, hX1, own1, hb5⟩
    clear pAq0 pRq0 pRq1 pRq2 pRq3 pRq4 pRq5 pRq6 pXq0 pYq0 pYq1 pYq2 pYq3 pYq4 pYq5 pYq6 pAz pRz pXz pYz
    clear bX0q bX0z
    have hs5 := hb5.size
    replace pA := pA.below hb5 pA.lt
    replace pR := pR.below hb5 pR.lt
    replace pX := pX.below hb5 pX.lt
    replace pY := pY.below hb5 pY.lt
    replace hg4 := (hg4.below hb5).more hs5
    replace hg5 := (hg5.below hb5).more hs5
    replace hd := hd.below (hb5.mono (by omega))
    replace hr := hr.below (hb5.mono (by omega))
    replace rdX0 := rdX0.below (hb5.mono (by omega))
    replace bX0 := bX0.below (hb5.mono (by omega))
    replace cop := cop.below hb5
    replace row5 := row5.of_block (hb5.block _ row5.lt)
    have hB5 : Below w.heap.size w w5 := hA4.trans (hb5.mono hA4.size)
    have hx5 : Below w5.heap.size w5 (w5.alloc (.cells #[.slice B1 an cc1] 37)) := (by (repeat (first | (with_reducible exact Below.refl _ _) | (with_reducible assumption) | (with_reducible refine Below.drew ?_) | (with_reducible refine below_drewN ?_ _) | ((with_reducible refine Below.setCell ?_ ?_ _); rotate_left; focus (first | (simp; done) | omega | (simp; omega))) | ((with_reducible refine Below.alloc ?_ ?_ _); rotate_left; focus (first | exact Nat.le_refl _ | omega | (simp; done) | (simp; omega))))))
    have hy5 := hx5.size
    replace pA := pA.below hx5 pA.lt
    replace pR := pR.below hx5 pR.lt
    replace pX := pX.below hx5 pX.lt
    replace pY := pY.below hx5 pY.lt
    replace hg4 := (hg4.below hx5).more hy5
    replace hg5 := (hg5.below hx5).more hy5
    replace own1 := own1.all hx5
    replace hd := hd.below (hx5.mono (by omega))
    replace hr := hr.below (hx5.mono (by omega))
    replace rdX0 := rdX0.below (hx5.mono (by omega))
    replace bX0 := bX0.below (hx5.mono (by omega))
    replace cop := cop.below hx5
    replace row5 := row5.of_block (hx5.block _ row5.lt)
    have hA5 : Below w.heap.size w (w5.alloc (.cells #[.slice B1 an cc1] 37)) := hB5.trans (hx5.mono hB5.size)
    have pG : Whole (w5.alloc (.cells #[.slice B1 an cc1] 37)) (w5.heap.size) 37 #[.slice B1 an cc1] := (Whole.new w5 37 #[.slice B1 an cc1])
    obtain ⟨b5a, hbq5a⟩ : ∃ b, b = w5.heap.size := ⟨_, rfl⟩
    obtain ⟨u5, hu5⟩ : ∃ u, u = (w5.alloc (.cells #[.slice B1 an cc1] 37)) := ⟨_, rfl⟩
    rw [← hu5] at pA pR pX pY hg4 hg5 own1 hd hr rdX0 bX0 pG hA5 hy5 cop row5
    rw [← hbq5a] at pG
    have hltpG : b5a < u5.heap.size := pG.lt
    have HpG := Lib.hid hbq5a
    clear hx5
    go_upto_region 12 with fail
    rw [← hu5]
    rw [← hbq5a]
    clear hu5 hbq5a
    have hX10 := hX1.via hX0
    have pAq0 : u5.cell? ⟨w.heap.size, 0, none⟩ = some (.slice A m c) := pA.cell 0
    have pAz := pA.lt
    have pRq0 : u5.cell? ⟨(w.heap.size + 1), 0, none⟩ = some (.int .i64 s.nm) := pR.cell 0
    have pRq1 : u5.cell? ⟨(w.heap.size + 1), 1, none⟩ = some (.int .i64 s.fr) := pR.cell 1
    have pRq2 : u5.cell? ⟨(w.heap.size + 1), 2, none⟩ = some (.int .i64 s.to) := pR.cell 2
    have pRq3 : u5.cell? ⟨(w.heap.size + 1), 3, none⟩ = some (.int .i64 s.jo) := pR.cell 3
    have pRq4 : u5.cell? ⟨(w.heap.size + 1), 4, none⟩ = some (.int .i64 s.ra) := pR.cell 4
    have pRq5 : u5.cell? ⟨(w.heap.size + 1), 5, none⟩ = some (.int .i64 s.mo) := pR.cell 5
    have pRq6 : u5.cell? ⟨(w.heap.size + 1), 6, none⟩ = some (.slice A2 n c2) := pR.cell 6
    have pRz := pR.lt
    have pXq0 : u5.cell? ⟨b3a, 0, none⟩ = some (.slice (some ⟨g4, 0, none⟩) m m) := pX.cell 0
    have pXz := pX.lt
    have pYq0 : u5.cell? ⟨b4a, 0, none⟩ = some (.int .i64 s.nm) := pY.cell 0
    have pYq1 : u5.cell? ⟨b4a, 1, none⟩ = some (.int .i64 s.fr) := pY.cell 1
    have pYq2 : u5.cell? ⟨b4a, 2, none⟩ = some (.int .i64 s.to) := pY.cell 2
    have pYq3 : u5.cell? ⟨b4a, 3, none⟩ = some (.int .i64 s.jo) := pY.cell 3
    have pYq4 : u5.cell? ⟨b4a, 4, none⟩ = some (.int .i64 s.ra) := pY.cell 4
    have pYq5 : u5.cell? ⟨b4a, 5, none⟩ = some (.int .i64 s.mo) := pY.cell 5
    have pYq6 : u5.cell? ⟨b4a, 6, none⟩ = some (.slice (some ⟨h5, 0, none⟩) n n) := pY.cell 6
    have pYz := pY.lt
    have pGq0 : u5.cell? ⟨b5a, 0, none⟩ = some (.slice B1 an cc1) := pG.cell 0
    have pGz := pG.lt
    have bX0q := bX0.2
    have bX0z := bX0.1
    go_wp2_with fail
    refine (eqBook_any u5 B1 B0 an cc1 cc0 X1 X0 own1.rd (rdX0.more (by omega)) hX10).mono ?_
    rintro e w6 ⟨rfl, hb6⟩
    clear pAq0 pRq0 pRq1 pRq2 pRq3 pRq4 pRq5 pRq6 pXq0 pYq0 pYq1 pYq2 pYq3 pYq4 pYq5 pYq6 pGq0 pAz pRz pXz pYz pGz
    clear bX0q bX0z
    have hs6 := hb6.size
    replace pA := pA.below hb6 pA.lt
    replace pR := pR.below hb6 pR.lt
    replace pX := pX.below hb6 pX.lt
    replace pY := pY.below hb6 pY.lt
    replace pG := pG.below hb6 pG.lt
    replace hg4 := (hg4.below hb6).more hs6
    replace hg5 := (hg5.below hb6).more hs6
    replace own1 := own1.all hb6
    replace hd := hd.below (hb6.mono (by omega))
    replace hr := hr.below (hb6.mono (by omega))
    replace rdX0 := rdX0.below (hb6.mono (by omega))
    replace bX0 := bX0.below (hb6.mono (by omega))
    replace cop := cop.below hb6
    replace row5 := row5.of_block (hb6.block _ row5.lt)
    have hB6 : Below w.heap.size w w6 := hA5.trans (hb6.mono hA5.size)
    have pAq0 : w6.cell? ⟨w.heap.size, 0, none⟩ = some (.slice A m c) := pA.cell 0
    have pAz := pA.lt
    have pRq0 : w6.cell? ⟨(w.heap.size + 1), 0, none⟩ = some (.int .i64 s.nm) := pR.cell 0
    have pRq1 : w6.cell? ⟨(w.heap.size + 1), 1, none⟩ = some (.int .i64 s.fr) := pR.cell 1
    have pRq2 : w6.cell? ⟨(w.heap.size + 1), 2, none⟩ = some (.int .i64 s.to) := pR.cell 2
    have pRq3 : w6.cell? ⟨(w.heap.size + 1), 3, none⟩ = some (.int .i64 s.jo) := pR.cell 3
    have pRq4 : w6.cell? ⟨(w.heap.size + 1), 4, none⟩ = some (.int .i64 s.ra) := pR.cell 4
    have pRq5 : w6.cell? ⟨(w.heap.size + 1), 5, none⟩ = some (.int .i64 s.mo) := pR.cell 5
    have pRq6 : w6.cell? ⟨(w.heap.size + 1), 6, none⟩ = some (.slice A2 n c2) := pR.cell 6
    have pRz := pR.lt
    have pXq0 : w6.cell? ⟨b3a, 0, none⟩ = some (.slice (some ⟨g4, 0, none⟩) m m) := pX.cell 0
    have pXz := pX.lt
    have pYq0 : w6.cell? ⟨b4a, 0, none⟩ = some (.int .i64 s.nm) := pY.cell 0
    have pYq1 : w6.cell? ⟨b4a, 1, none⟩ = some (.int .i64 s.fr) := pY.cell 1
    have pYq2 : w6.cell? ⟨b4a, 2, none⟩ = some (.int .i64 s.to) := pY.cell 2
    have pYq3 : w6.cell? ⟨b4a, 3, none⟩ = some (.int .i64 s.jo) := pY.cell 3
    have pYq4 : w6.cell? ⟨b4a, 4, none⟩ = some (.int .i64 s.ra) := pY.cell 4
    have pYq5 : w6.cell? ⟨b4a, 5, none⟩ = some (.int .i64 s.mo) := pY.cell 5
    have pYq6 : w6.cell? ⟨b4a, 6, none⟩ = some (.slice (some ⟨h5, 0, none⟩) n n) := pY.cell 6
    have pYz := pY.lt
    have pGq0 : w6.cell? ⟨b5a, 0, none⟩ = some (.slice B1 an cc1) := pG.cell 0
    have pGz := pG.lt
    have bX0q := bX0.2
    have bX0z := bX0.1
    have KU : ∀ v, Below w6.heap.size w6 v → (fun w' => w'.cell? ⟨b3a, 0, none⟩ = some (.slice (some ⟨g4, 0, none⟩) m m) ∧ w'.cell? ⟨w.heap.size, 0, none⟩ = some (.slice A m c) ∧ b3a < w'.heap.size ∧ w.heap.size < w'.heap.size ∧ Below w6.heap.size w6 w') v := fun v hb => ⟨((keepc hb).1 _ _ (by omega)).trans pXq0, ((keepc hb).1 _ _ (by omega)).trans pAq0, Nat.lt_of_lt_of_le pXz hb.size, Nat.lt_of_lt_of_le pAz hb.size, hb⟩
    have hdP := hd.more (show wc8.heap.size ≤ w6.heap.size by omega)
    have hrP := hr.more (show wc8.heap.size ≤ w6.heap.size by omega)
    have hBz14 := hB6.size
    go_wp2_with fail
    go_region_held3 (fun w' => w'.cell? ⟨b3a, 0, none⟩ = some (.slice (some ⟨g4, 0, none⟩) m m) ∧ w'.cell? ⟨w.heap.size, 0, none⟩ = some (.slice A m c) ∧ b3a < w'.heap.size ∧ w.heap.size < w'.heap.size ∧ Below w6.heap.size w6 w') (first | (with_reducible assumption) | exact KU _ (by (repeat (first | (with_reducible exact Below.refl _ _) | (with_reducible assumption) | (with_reducible refine Below.drew ?_) | (with_reducible refine below_drewN ?_ _) | ((with_reducible refine Below.setCell ?_ ?_ _); rotate_left; focus (first | (simp; done) | omega | (simp; omega))) | ((with_reducible refine Below.alloc ?_ ?_ _); rotate_left; focus (first | exact Nat.le_refl _ | omega | (simp; done) | (simp; omega)))))))
      (first
      | (go_at_call 29; refine (toBook_any _ A m c R (RdRu.more (RdRu.below hdP (show Below w6.heap.size w6 _ from (by (repeat (first | (with_reducible exact Below.refl _ _) | (with_reducible assumption) | (with_reducible refine Below.drew ?_) | (with_reducible refine below_drewN ?_ _) | ((with_reducible refine Below.setCell ?_ ?_ _); rotate_left; focus (first | (simp; done) | omega | (simp; omega))) | ((with_reducible refine Below.alloc ?_ ?_ _); rotate_left; focus (first | exact Nat.le_refl _ | omega | (simp; done) | (simp; omega)))))))) (by first | exact Nat.le_refl _ | (simp; done) | (simp; omega) | omega)) hm2 HN.out).mono ?_; rintro e wa ⟨ga, Ga, rfl, copa, -, hba⟩; have hla : Below w6.heap.size w6 wa := (show Below w6.heap.size w6 _ from (by (repeat (first | (with_reducible exact Below.refl _ _) | (with_reducible assumption) | (with_reducible refine Below.drew ?_) | (with_reducible refine below_drewN ?_ _) | ((with_reducible refine Below.setCell ?_ ?_ _); rotate_left; focus (first | (simp; done) | omega | (simp; omega))) | ((with_reducible refine Below.alloc ?_ ?_ _); rotate_left; focus (first | exact Nat.le_refl _ | omega | (simp; done) | (simp; omega))))))).trans (hba.mono (by first | exact Nat.le_refl _ | (simp; done) | (simp; omega) | omega)); have hSa := KU wa hla; have hsa := hla.size; have hga := copa.rd hm2 HN.out; have hgx := (hg4.below hla).more hsa; clear hba copa)
      | (go_at_call 30; refine (eqBook_any _ _ _ m _ _ (mkR R G4) (mkR R Ga) hgx hga (fun _ _ => ⟨rfl, rfl, rfl⟩)).mono ?_; rintro e w14 ⟨rfl, hbb⟩; have hl14 : Below w6.heap.size w6 w14 := hla.trans (hbb.mono hsa); have hSb := KU w14 hl14; have hs14 := hl14.size; clear hbb))
    clear pAq0 pRq0 pRq1 pRq2 pRq3 pRq4 pRq5 pRq6 pXq0 pYq0 pYq1 pYq2 pYq3 pYq4 pYq5 pYq6 pGq0 pAz pRz pXz pYz pGz
    clear bX0q bX0z
    clear hSa hSb hga hgx hla hsa KU hdP hrP
    replace pA := pA.below hl14 pA.lt
    replace pR := pR.below hl14 pR.lt
    replace pX := pX.below hl14 pX.lt
    replace pY := pY.below hl14 pY.lt
    replace pG := pG.below hl14 pG.lt
    replace hg4 := (hg4.below hl14).more hs14
    replace hg5 := (hg5.below hl14).more hs14
    replace own1 := own1.all hl14
    replace hd := hd.below (hl14.mono (by omega))
    replace hr := hr.below (hl14.mono (by omega))
    replace rdX0 := rdX0.below (hl14.mono (by omega))
    replace bX0 := bX0.below (hl14.mono (by omega))
    replace cop := cop.below hl14
    replace row5 := row5.of_block (hl14.block _ row5.lt)
    have hBr14 : Below w.heap.size w w14 := hB6.trans (hl14.mono hBz14)
    have pAq0 : w14.cell? ⟨w.heap.size, 0, none⟩ = some (.slice A m c) := pA.cell 0
    have pAz := pA.lt
    have pRq0 : w14.cell? ⟨(w.heap.size + 1), 0, none⟩ = some (.int .i64 s.nm) := pR.cell 0
    have pRq1 : w14.cell? ⟨(w.heap.size + 1), 1, none⟩ = some (.int .i64 s.fr) := pR.cell 1
    have pRq2 : w14.cell? ⟨(w.heap.size + 1), 2, none⟩ = some (.int .i64 s.to) := pR.cell 2
    have pRq3 : w14.cell? ⟨(w.heap.size + 1), 3, none⟩ = some (.int .i64 s.jo) := pR.cell 3
    have pRq4 : w14.cell? ⟨(w.heap.size + 1), 4, none⟩ = some (.int .i64 s.ra) := pR.cell 4
    have pRq5 : w14.cell? ⟨(w.heap.size + 1), 5, none⟩ = some (.int .i64 s.mo) := pR.cell 5
    have pRq6 : w14.cell? ⟨(w.heap.size + 1), 6, none⟩ = some (.slice A2 n c2) := pR.cell 6
    have pRz := pR.lt
    have pXq0 : w14.cell? ⟨b3a, 0, none⟩ = some (.slice (some ⟨g4, 0, none⟩) m m) := pX.cell 0
    have pXz := pX.lt
    have pYq0 : w14.cell? ⟨b4a, 0, none⟩ = some (.int .i64 s.nm) := pY.cell 0
    have pYq1 : w14.cell? ⟨b4a, 1, none⟩ = some (.int .i64 s.fr) := pY.cell 1
    have pYq2 : w14.cell? ⟨b4a, 2, none⟩ = some (.int .i64 s.to) := pY.cell 2
    have pYq3 : w14.cell? ⟨b4a, 3, none⟩ = some (.int .i64 s.jo) := pY.cell 3
    have pYq4 : w14.cell? ⟨b4a, 4, none⟩ = some (.int .i64 s.ra) := pY.cell 4
    have pYq5 : w14.cell? ⟨b4a, 5, none⟩ = some (.int .i64 s.mo) := pY.cell 5
    have pYq6 : w14.cell? ⟨b4a, 6, none⟩ = some (.slice (some ⟨h5, 0, none⟩) n n) := pY.cell 6
    have pYz := pY.lt
    have pGq0 : w14.cell? ⟨b5a, 0, none⟩ = some (.slice B1 an cc1) := pG.cell 0
    have pGz := pG.lt
    have bX0q := bX0.2
    have bX0z := bX0.1
    have KU : ∀ v, Below w14.heap.size w14 v → (fun w' => w'.cell? ⟨b4a, 0, none⟩ = some (.int .i64 s.nm) ∧ w'.cell? ⟨b4a, 1, none⟩ = some (.int .i64 s.fr) ∧ w'.cell? ⟨b4a, 2, none⟩ = some (.int .i64 s.to) ∧ w'.cell? ⟨b4a, 3, none⟩ = some (.int .i64 s.jo) ∧ w'.cell? ⟨b4a, 4, none⟩ = some (.int .i64 s.ra) ∧ w'.cell? ⟨b4a, 5, none⟩ = some (.int .i64 s.mo) ∧ w'.cell? ⟨b4a, 6, none⟩ = some (.slice (some ⟨h5, 0, none⟩) n n) ∧ w'.cell? ⟨(w.heap.size + 1), 0, none⟩ = some (.int .i64 s.nm) ∧ w'.cell? ⟨(w.heap.size + 1), 1, none⟩ = some (.int .i64 s.fr) ∧ w'.cell? ⟨(w.heap.size + 1), 2, none⟩ = some (.int .i64 s.to) ∧ w'.cell? ⟨(w.heap.size + 1), 3, none⟩ = some (.int .i64 s.jo) ∧ w'.cell? ⟨(w.heap.size + 1), 4, none⟩ = some (.int .i64 s.ra) ∧ w'.cell? ⟨(w.heap.size + 1), 5, none⟩ = some (.int .i64 s.mo) ∧ w'.cell? ⟨(w.heap.size + 1), 6, none⟩ = some (.slice A2 n c2) ∧ b4a < w'.heap.size ∧ w.heap.size + 1 < w'.heap.size ∧ Below w14.heap.size w14 w') v := fun v hb => ⟨((keepc hb).1 _ _ (by omega)).trans pYq0, ((keepc hb).1 _ _ (by omega)).trans pYq1, ((keepc hb).1 _ _ (by omega)).trans pYq2, ((keepc hb).1 _ _ (by omega)).trans pYq3, ((keepc hb).1 _ _ (by omega)).trans pYq4, ((keepc hb).1 _ _ (by omega)).trans pYq5, ((keepc hb).1 _ _ (by omega)).trans pYq6, ((keepc hb).1 _ _ (by omega)).trans pRq0, ((keepc hb).1 _ _ (by omega)).trans pRq1, ((keepc hb).1 _ _ (by omega)).trans pRq2, ((keepc hb).1 _ _ (by omega)).trans pRq3, ((keepc hb).1 _ _ (by omega)).trans pRq4, ((keepc hb).1 _ _ (by omega)).trans pRq5, ((keepc hb).1 _ _ (by omega)).trans pRq6, Nat.lt_of_lt_of_le pYz hb.size, Nat.lt_of_lt_of_le pRz hb.size, hb⟩
    have hdP := hd.more (show wc8.heap.size ≤ w14.heap.size by omega)
    have hrP := hr.more (show wc8.heap.size ≤ w14.heap.size by omega)
    have hBz16 := hBr14.size
    go_wp2_with fail
    go_region_held3 (fun w' => w'.cell? ⟨b4a, 0, none⟩ = some (.int .i64 s.nm) ∧ w'.cell? ⟨b4a, 1, none⟩ = some (.int .i64 s.fr) ∧ w'.cell? ⟨b4a, 2, none⟩ = some (.int .i64 s.to) ∧ w'.cell? ⟨b4a, 3, none⟩ = some (.int .i64 s.jo) ∧ w'.cell? ⟨b4a, 4, none⟩ = some (.int .i64 s.ra) ∧ w'.cell? ⟨b4a, 5, none⟩ = some (.int .i64 s.mo) ∧ w'.cell? ⟨b4a, 6, none⟩ = some (.slice (some ⟨h5, 0, none⟩) n n) ∧ w'.cell? ⟨(w.heap.size + 1), 0, none⟩ = some (.int .i64 s.nm) ∧ w'.cell? ⟨(w.heap.size + 1), 1, none⟩ = some (.int .i64 s.fr) ∧ w'.cell? ⟨(w.heap.size + 1), 2, none⟩ = some (.int .i64 s.to) ∧ w'.cell? ⟨(w.heap.size + 1), 3, none⟩ = some (.int .i64 s.jo) ∧ w'.cell? ⟨(w.heap.size + 1), 4, none⟩ = some (.int .i64 s.ra) ∧ w'.cell? ⟨(w.heap.size + 1), 5, none⟩ = some (.int .i64 s.mo) ∧ w'.cell? ⟨(w.heap.size + 1), 6, none⟩ = some (.slice A2 n c2) ∧ b4a < w'.heap.size ∧ w.heap.size + 1 < w'.heap.size ∧ Below w14.heap.size w14 w') (first | (with_reducible assumption) | exact KU _ (by (repeat (first | (with_reducible exact Below.refl _ _) | (with_reducible assumption) | (with_reducible refine Below.drew ?_) | (with_reducible refine below_drewN ?_ _) | ((with_reducible refine Below.setCell ?_ ?_ _); rotate_left; focus (first | (simp; done) | omega | (simp; omega))) | ((with_reducible refine Below.alloc ?_ ?_ _); rotate_left; focus (first | exact Nat.le_refl _ | omega | (simp; done) | (simp; omega)))))))
      (first
      | (go_at_call 17; refine (toRule_any _ s A2 n c2 N (RdNo.more (RdNo.below hrP (show Below w14.heap.size w14 _ from (by (repeat (first | (with_reducible exact Below.refl _ _) | (with_reducible assumption) | (with_reducible refine Below.drew ?_) | (with_reducible refine below_drewN ?_ _) | ((with_reducible refine Below.setCell ?_ ?_ _); rotate_left; focus (first | (simp; done) | omega | (simp; omega))) | ((with_reducible refine Below.alloc ?_ ?_ _); rotate_left; focus (first | exact Nat.le_refl _ | omega | (simp; done) | (simp; omega)))))))) (by first | exact Nat.le_refl _ | (simp; done) | (simp; omega) | omega)) hn2).mono ?_; rintro e wa ⟨ga, rfl, rowa, -, hba⟩; have hla : Below w14.heap.size w14 wa := (show Below w14.heap.size w14 _ from (by (repeat (first | (with_reducible exact Below.refl _ _) | (with_reducible assumption) | (with_reducible refine Below.drew ?_) | (with_reducible refine below_drewN ?_ _) | ((with_reducible refine Below.setCell ?_ ?_ _); rotate_left; focus (first | (simp; done) | omega | (simp; omega))) | ((with_reducible refine Below.alloc ?_ ?_ _); rotate_left; focus (first | exact Nat.le_refl _ | omega | (simp; done) | (simp; omega))))))).trans (hba.mono (by first | exact Nat.le_refl _ | (simp; done) | (simp; omega) | omega)); have hSa := KU wa hla; have hsa := hla.size; have hga : RdNo wa wa.heap.size (some ⟨ga, 0, none⟩) n N := RdNo.row rowa rowa.lt (Nat.le_refl _) (by omega); have hgx := (hg5.below hla).more hsa; clear hba rowa)
      | (go_at_call 19; refine (eqRule_any _ s _ _ n _ _ N hgx hga).mono ?_; rintro e w16 ⟨rfl, hbb⟩; have hl16 : Below w14.heap.size w14 w16 := hla.trans (hbb.mono hsa); have hSb := KU w16 hl16; have hs16 := hl16.size; clear hbb))
    clear pAq0 pRq0 pRq1 pRq2 pRq3 pRq4 pRq5 pRq6 pXq0 pYq0 pYq1 pYq2 pYq3 pYq4 pYq5 pYq6 pGq0 pAz pRz pXz pYz pGz
    clear bX0q bX0z
    clear hSa hSb hga hgx hla hsa KU hdP hrP
    replace pA := pA.below hl16 pA.lt
    replace pR := pR.below hl16 pR.lt
    replace pX := pX.below hl16 pX.lt
    replace pY := pY.below hl16 pY.lt
    replace pG := pG.below hl16 pG.lt
    replace hg4 := (hg4.below hl16).more hs16
    replace hg5 := (hg5.below hl16).more hs16
    replace own1 := own1.all hl16
    replace hd := hd.below (hl16.mono (by omega))
    replace hr := hr.below (hl16.mono (by omega))
    replace rdX0 := rdX0.below (hl16.mono (by omega))
    replace bX0 := bX0.below (hl16.mono (by omega))
    replace cop := cop.below hl16
    replace row5 := row5.of_block (hl16.block _ row5.lt)
    have hBr16 : Below w.heap.size w w16 := hBr14.trans (hl16.mono hBz16)
    have hlob : wc8.heap.size ≤ w16.heap.size := by omega
    have hBlo := hBc8.size
    clear hg4 hg5
    have pAq0 : w16.cell? ⟨w.heap.size, 0, none⟩ = some (.slice A m c) := pA.cell 0
    have pAz := pA.lt
    have pRq0 : w16.cell? ⟨(w.heap.size + 1), 0, none⟩ = some (.int .i64 s.nm) := pR.cell 0
    have pRq1 : w16.cell? ⟨(w.heap.size + 1), 1, none⟩ = some (.int .i64 s.fr) := pR.cell 1
    have pRq2 : w16.cell? ⟨(w.heap.size + 1), 2, none⟩ = some (.int .i64 s.to) := pR.cell 2
    have pRq3 : w16.cell? ⟨(w.heap.size + 1), 3, none⟩ = some (.int .i64 s.jo) := pR.cell 3
    have pRq4 : w16.cell? ⟨(w.heap.size + 1), 4, none⟩ = some (.int .i64 s.ra) := pR.cell 4
    have pRq5 : w16.cell? ⟨(w.heap.size + 1), 5, none⟩ = some (.int .i64 s.mo) := pR.cell 5
    have pRq6 : w16.cell? ⟨(w.heap.size + 1), 6, none⟩ = some (.slice A2 n c2) := pR.cell 6
    have pRz := pR.lt
    have pXq0 : w16.cell? ⟨b3a, 0, none⟩ = some (.slice (some ⟨g4, 0, none⟩) m m) := pX.cell 0
    have pXz := pX.lt
    have pYq0 : w16.cell? ⟨b4a, 0, none⟩ = some (.int .i64 s.nm) := pY.cell 0
    have pYq1 : w16.cell? ⟨b4a, 1, none⟩ = some (.int .i64 s.fr) := pY.cell 1
    have pYq2 : w16.cell? ⟨b4a, 2, none⟩ = some (.int .i64 s.to) := pY.cell 2
    have pYq3 : w16.cell? ⟨b4a, 3, none⟩ = some (.int .i64 s.jo) := pY.cell 3
    have pYq4 : w16.cell? ⟨b4a, 4, none⟩ = some (.int .i64 s.ra) := pY.cell 4
    have pYq5 : w16.cell? ⟨b4a, 5, none⟩ = some (.int .i64 s.mo) := pY.cell 5
    have pYq6 : w16.cell? ⟨b4a, 6, none⟩ = some (.slice (some ⟨h5, 0, none⟩) n n) := pY.cell 6
    have pYz := pY.lt
    have pGq0 : w16.cell? ⟨b5a, 0, none⟩ = some (.slice B1 an cc1) := pG.cell 0
    have pGz := pG.lt
    have bX0q := bX0.2
    have bX0z := bX0.1
    go_wp2_with fail
    refine (markBook w16 wc8.heap.size w3.heap.size g4 m R G4 1 cop low4 hglt hGlt.out hlob HW.out (by omega) (by omega)).mono ?_
    rintro e w17 ⟨⟨k1, rfl, hk1⟩, hm17⟩
    clear pAq0 pRq0 pRq1 pRq2 pRq3 pRq4 pRq5 pRq6 pXq0 pYq0 pYq1 pYq2 pYq3 pYq4 pYq5 pYq6 pGq0 pAz pRz pXz pYz pGz
    clear bX0q bX0z
    have hs17 := hm17.1.size
    clear pX
    replace hd := hd.below hm17.1
    replace hr := hr.below hm17.1
    replace rdX0 := rdX0.below hm17.1
    replace bX0 := bX0.below hm17.1
    replace pA := pA.below hm17.1 hpA
    replace pR := pR.below hm17.1 hpR
    have hyb : w3.heap.size ≤ b4a := by have := HpY.out; omega
    have hgb : w4.heap.size ≤ b5a := by have := HpG.out; omega
    replace pY := Mid.whole pY hm17 hyb
    replace pG := Mid.whole pG hm17 (by omega)
    replace own1 := own1.mid hm17 (by omega)
    replace row5 := row5.of_block (hm17.2 h5 (by omega) row5.lt)
    clear cop
    have hB17 : Below w.heap.size w w17 := hBr16.trans (hm17.1.mono hBlo)
    have hlob2 : wc8.heap.size ≤ w17.heap.size := by omega
    have pAq0 : w17.cell? ⟨w.heap.size, 0, none⟩ = some (.slice A m c) := pA.cell 0
    have pAz := pA.lt
    have pRq0 : w17.cell? ⟨(w.heap.size + 1), 0, none⟩ = some (.int .i64 s.nm) := pR.cell 0
    have pRq1 : w17.cell? ⟨(w.heap.size + 1), 1, none⟩ = some (.int .i64 s.fr) := pR.cell 1
    have pRq2 : w17.cell? ⟨(w.heap.size + 1), 2, none⟩ = some (.int .i64 s.to) := pR.cell 2
    have pRq3 : w17.cell? ⟨(w.heap.size + 1), 3, none⟩ = some (.int .i64 s.jo) := pR.cell 3
    have pRq4 : w17.cell? ⟨(w.heap.size + 1), 4, none⟩ = some (.int .i64 s.ra) := pR.cell 4
    have pRq5 : w17.cell? ⟨(w.heap.size + 1), 5, none⟩ = some (.int .i64 s.mo) := pR.cell 5
    have pRq6 : w17.cell? ⟨(w.heap.size + 1), 6, none⟩ = some (.slice A2 n c2) := pR.cell 6
    have pRz := pR.lt
    have pYq0 : w17.cell? ⟨b4a, 0, none⟩ = some (.int .i64 s.nm) := pY.cell 0
    have pYq1 : w17.cell? ⟨b4a, 1, none⟩ = some (.int .i64 s.fr) := pY.cell 1
    have pYq2 : w17.cell? ⟨b4a, 2, none⟩ = some (.int .i64 s.to) := pY.cell 2
    have pYq3 : w17.cell? ⟨b4a, 3, none⟩ = some (.int .i64 s.jo) := pY.cell 3
    have pYq4 : w17.cell? ⟨b4a, 4, none⟩ = some (.int .i64 s.ra) := pY.cell 4
    have pYq5 : w17.cell? ⟨b4a, 5, none⟩ = some (.int .i64 s.mo) := pY.cell 5
    have pYq6 : w17.cell? ⟨b4a, 6, none⟩ = some (.slice (some ⟨h5, 0, none⟩) n n) := pY.cell 6
    have pYz := pY.lt
    have pGq0 : w17.cell? ⟨b5a, 0, none⟩ = some (.slice B1 an cc1) := pG.cell 0
    have pGz := pG.lt
    have bX0q := bX0.2
    have bX0z := bX0.1
    go_wp2_with fail
    refine (markRuleM w17 wc8.heap.size w4.heap.size h5 n s _ k1 row5 (by omega) h5lt hlob2 hn2 (by omega) (by omega)).mono ?_
    rintro e w18 ⟨⟨k2, rfl, hk2⟩, hm18⟩
    clear pAq0 pRq0 pRq1 pRq2 pRq3 pRq4 pRq5 pRq6 pYq0 pYq1 pYq2 pYq3 pYq4 pYq5 pYq6 pGq0 pAz pRz pYz pGz
    clear bX0q bX0z
    have hs18 := hm18.1.size
    clear pY
    replace hd := hd.below hm18.1
    replace hr := hr.below hm18.1
    replace rdX0 := rdX0.below hm18.1
    replace bX0 := bX0.below hm18.1
    replace pA := pA.below hm18.1 hpA
    replace pR := pR.below hm18.1 hpR
    replace pG := Mid.whole pG hm18 hgb
    replace own1 := own1.mid hm18 (by omega)
    clear row5
    have hB18 : Below w.heap.size w w18 := hB17.trans (hm18.1.mono hBlo)
    have hk20 : ¬ k2 < 0 := by omega
    have pAq0 : w18.cell? ⟨w.heap.size, 0, none⟩ = some (.slice A m c) := pA.cell 0
    have pAz := pA.lt
    have pRq0 : w18.cell? ⟨(w.heap.size + 1), 0, none⟩ = some (.int .i64 s.nm) := pR.cell 0
    have pRq1 : w18.cell? ⟨(w.heap.size + 1), 1, none⟩ = some (.int .i64 s.fr) := pR.cell 1
    have pRq2 : w18.cell? ⟨(w.heap.size + 1), 2, none⟩ = some (.int .i64 s.to) := pR.cell 2
    have pRq3 : w18.cell? ⟨(w.heap.size + 1), 3, none⟩ = some (.int .i64 s.jo) := pR.cell 3
    have pRq4 : w18.cell? ⟨(w.heap.size + 1), 4, none⟩ = some (.int .i64 s.ra) := pR.cell 4
    have pRq5 : w18.cell? ⟨(w.heap.size + 1), 5, none⟩ = some (.int .i64 s.mo) := pR.cell 5
    have pRq6 : w18.cell? ⟨(w.heap.size + 1), 6, none⟩ = some (.slice A2 n c2) := pR.cell 6
    have pRz := pR.lt
    have pGq0 : w18.cell? ⟨b5a, 0, none⟩ = some (.slice B1 an cc1) := pG.cell 0
    have pGz := pG.lt
    have bX0q := bX0.2
    have bX0z := bX0.1
    go_wp2_with fail
    refine (eqBook_any w18 B1 B0 an cc1 cc0 X1 X0 own1.rd (rdX0.more (by omega)) hX10).mono ?_
    rintro e w19 ⟨rfl, hb19⟩
    clear pAq0 pRq0 pRq1 pRq2 pRq3 pRq4 pRq5 pRq6 pGq0 pAz pRz pGz
    clear bX0q bX0z
    have hs19 := hb19.size
    replace pA := pA.below hb19 pA.lt
    replace pR := pR.below hb19 pR.lt
    replace pG := pG.below hb19 pG.lt
    replace own1 := own1.all hb19
    replace hd := hd.below (hb19.mono (by omega))
    replace hr := hr.below (hb19.mono (by omega))
    replace rdX0 := rdX0.below (hb19.mono (by omega))
    replace bX0 := bX0.below (hb19.mono (by omega))
    have hB19 : Below w.heap.size w w19 := hB18.trans (hb19.mono hB18.size)
    have hW1 := HQ.out X1 hX1
    obtain ⟨mk, hmk⟩ : ∃ z, z = kAt X1 1 an := ⟨_, rfl⟩
    have hmk0 : ¬ mk < 0 := by rw [hmk, kAt]; omega
    have HMK := Lib.hid hmk
    clear hmk
    have hbase : u4.heap.size ≤ w19.heap.size := by omega
    have pAq0 : w19.cell? ⟨w.heap.size, 0, none⟩ = some (.slice A m c) := pA.cell 0
    have pAz := pA.lt
    have pRq0 : w19.cell? ⟨(w.heap.size + 1), 0, none⟩ = some (.int .i64 s.nm) := pR.cell 0
    have pRq1 : w19.cell? ⟨(w.heap.size + 1), 1, none⟩ = some (.int .i64 s.fr) := pR.cell 1
    have pRq2 : w19.cell? ⟨(w.heap.size + 1), 2, none⟩ = some (.int .i64 s.to) := pR.cell 2
    have pRq3 : w19.cell? ⟨(w.heap.size + 1), 3, none⟩ = some (.int .i64 s.jo) := pR.cell 3
    have pRq4 : w19.cell? ⟨(w.heap.size + 1), 4, none⟩ = some (.int .i64 s.ra) := pR.cell 4
    have pRq5 : w19.cell? ⟨(w.heap.size + 1), 5, none⟩ = some (.int .i64 s.mo) := pR.cell 5
    have pRq6 : w19.cell? ⟨(w.heap.size + 1), 6, none⟩ = some (.slice A2 n c2) := pR.cell 6
    have pRz := pR.lt
    have pGq0 : w19.cell? ⟨b5a, 0, none⟩ = some (.slice B1 an cc1) := pG.cell 0
    have pGz := pG.lt
    have bX0q := bX0.2
    have bX0z := bX0.1
    go_wp2_with fail
    refine (markBookF w19 u4.heap.size B1 an cc1 X1 1 own1 hbase hW1 (by omega) (by omega)).mono ?_
    rintro e w20 ⟨rfl, ownM, hkp, hb20⟩
    clear pAq0 pRq0 pRq1 pRq2 pRq3 pRq4 pRq5 pRq6 pGq0 pAz pRz pGz
    clear bX0q bX0z
    rw [← HMK.out]
    have hs20 := hb20.size
    replace pG := hkp _ _ _ pG (by decide) (by decide)
    replace pA := pA.below hb20 (by omega)
    replace pR := pR.below hb20 (by omega)
    replace hd := hd.below (hb20.mono (by omega))
    replace hr := hr.below (hb20.mono (by omega))
    replace rdX0 := rdX0.below (hb20.mono (by omega))
    replace bX0 := bX0.below (hb20.mono (by omega))
    have hB20 : Below w.heap.size w w20 := hB19.trans (hb20.mono (by omega))
    clear own1 hkp
    have CH := fun (v : World) (hv : OwF v u4.heap.size (.slice B1 an cc1) an (mkB X1 1 an)) => heldBookF v B1 an cc1 X1 1 hv.rd hW1 (by omega) (by omega)
    rw [← HMK.out] at CH
    have pAq0 : w20.cell? ⟨w.heap.size, 0, none⟩ = some (.slice A m c) := pA.cell 0
    have pAz := pA.lt
    have pRq0 : w20.cell? ⟨(w.heap.size + 1), 0, none⟩ = some (.int .i64 s.nm) := pR.cell 0
    have pRq1 : w20.cell? ⟨(w.heap.size + 1), 1, none⟩ = some (.int .i64 s.fr) := pR.cell 1
    have pRq2 : w20.cell? ⟨(w.heap.size + 1), 2, none⟩ = some (.int .i64 s.to) := pR.cell 2
    have pRq3 : w20.cell? ⟨(w.heap.size + 1), 3, none⟩ = some (.int .i64 s.jo) := pR.cell 3
    have pRq4 : w20.cell? ⟨(w.heap.size + 1), 4, none⟩ = some (.int .i64 s.ra) := pR.cell 4
    have pRq5 : w20.cell? ⟨(w.heap.size + 1), 5, none⟩ = some (.int .i64 s.mo) := pR.cell 5
    have pRq6 : w20.cell? ⟨(w.heap.size + 1), 6, none⟩ = some (.slice A2 n c2) := pR.cell 6
    have pRz := pR.lt
    have pGq0 : w20.cell? ⟨b5a, 0, none⟩ = some (.slice B1 an cc1) := pG.cell 0
    have pGz := pG.lt
    have bX0q := bX0.2
    have bX0z := bX0.1
    go_wp2_with fail
    refine (CH w20 ownM).mono ?_
    rintro e w21 ⟨rfl, hb21⟩
    clear pAq0 pRq0 pRq1 pRq2 pRq3 pRq4 pRq5 pRq6 pGq0 pAz pRz pGz
    clear bX0q bX0z
    have hs21 := hb21.size
    replace pA := pA.below hb21 pA.lt
    replace pR := pR.below hb21 pR.lt
    replace pG := pG.below hb21 pG.lt
    replace ownM := ownM.all hb21
    replace hd := hd.below (hb21.mono (by omega))
    replace hr := hr.below (hb21.mono (by omega))
    replace rdX0 := rdX0.below (hb21.mono (by omega))
    replace bX0 := bX0.below (hb21.mono (by omega))
    have hB21 : Below w.heap.size w w21 := hB20.trans (hb21.mono hB20.size)
    clear CH
    have hd9 := hd.more (show wc8.heap.size ≤ w21.heap.size by omega)
    have hr9 := hr.more (show wc8.heap.size ≤ w21.heap.size by omega)
    have pAq0 : w21.cell? ⟨w.heap.size, 0, none⟩ = some (.slice A m c) := pA.cell 0
    have pAz := pA.lt
    have pRq0 : w21.cell? ⟨(w.heap.size + 1), 0, none⟩ = some (.int .i64 s.nm) := pR.cell 0
    have pRq1 : w21.cell? ⟨(w.heap.size + 1), 1, none⟩ = some (.int .i64 s.fr) := pR.cell 1
    have pRq2 : w21.cell? ⟨(w.heap.size + 1), 2, none⟩ = some (.int .i64 s.to) := pR.cell 2
    have pRq3 : w21.cell? ⟨(w.heap.size + 1), 3, none⟩ = some (.int .i64 s.jo) := pR.cell 3
    have pRq4 : w21.cell? ⟨(w.heap.size + 1), 4, none⟩ = some (.int .i64 s.ra) := pR.cell 4
    have pRq5 : w21.cell? ⟨(w.heap.size + 1), 5, none⟩ = some (.int .i64 s.mo) := pR.cell 5
    have pRq6 : w21.cell? ⟨(w.heap.size + 1), 6, none⟩ = some (.slice A2 n c2) := pR.cell 6
    have pRz := pR.lt
    have pGq0 : w21.cell? ⟨b5a, 0, none⟩ = some (.slice B1 an cc1) := pG.cell 0
    have pGz := pG.lt
    have bX0q := bX0.2
    have bX0z := bX0.1
    have KU : ∀ v, Below w21.heap.size w21 v → (fun w' => w'.cell? ⟨w.heap.size, 0, none⟩ = some (.slice A m c) ∧ w'.cell? ⟨(w.heap.size + 1), 0, none⟩ = some (.int .i64 s.nm) ∧ w'.cell? ⟨(w.heap.size + 1), 1, none⟩ = some (.int .i64 s.fr) ∧ w'.cell? ⟨(w.heap.size + 1), 2, none⟩ = some (.int .i64 s.to) ∧ w'.cell? ⟨(w.heap.size + 1), 3, none⟩ = some (.int .i64 s.jo) ∧ w'.cell? ⟨(w.heap.size + 1), 4, none⟩ = some (.int .i64 s.ra) ∧ w'.cell? ⟨(w.heap.size + 1), 5, none⟩ = some (.int .i64 s.mo) ∧ w'.cell? ⟨(w.heap.size + 1), 6, none⟩ = some (.slice A2 n c2) ∧ w.heap.size < w'.heap.size ∧ w.heap.size + 1 < w'.heap.size ∧ ¬ w.heap.size = w'.heap.size ∧ ¬ w.heap.size + 1 = w'.heap.size ∧ Below w21.heap.size w21 w') v := fun v hb => ⟨((keepc hb).1 _ _ (by omega)).trans pAq0, ((keepc hb).1 _ _ (by omega)).trans pRq0, ((keepc hb).1 _ _ (by omega)).trans pRq1, ((keepc hb).1 _ _ (by omega)).trans pRq2, ((keepc hb).1 _ _ (by omega)).trans pRq3, ((keepc hb).1 _ _ (by omega)).trans pRq4, ((keepc hb).1 _ _ (by omega)).trans pRq5, ((keepc hb).1 _ _ (by omega)).trans pRq6, Nat.lt_of_lt_of_le pAz hb.size, Nat.lt_of_lt_of_le pRz hb.size, Nat.ne_of_lt (Nat.lt_of_lt_of_le pAz hb.size), Nat.ne_of_lt (Nat.lt_of_lt_of_le pRz hb.size), hb⟩
    have hBz := hB21.size
    go_upto_region 31 with fail
    go_cut [15, 16] (fun s15 s16 wx => ∃ (q : Nat) (X : Nat → Rn) (B : Option Addr) (cc : Nat), s15 = .pointer (some ⟨q, 0, none⟩) ∧ s16 = .bool ok ∧ sameR Q X an ∧ q < wx.heap.size ∧ wx.cell? ⟨q, 0, none⟩ = some (.slice B an cc) ∧ RdRu wx wx.heap.size B an X ∧ Below w21.heap.size w21 wx)
    case first =>
      go_region_held3 (fun w' => w'.cell? ⟨w.heap.size, 0, none⟩ = some (.slice A m c) ∧ w'.cell? ⟨(w.heap.size + 1), 0, none⟩ = some (.int .i64 s.nm) ∧ w'.cell? ⟨(w.heap.size + 1), 1, none⟩ = some (.int .i64 s.fr) ∧ w'.cell? ⟨(w.heap.size + 1), 2, none⟩ = some (.int .i64 s.to) ∧ w'.cell? ⟨(w.heap.size + 1), 3, none⟩ = some (.int .i64 s.jo) ∧ w'.cell? ⟨(w.heap.size + 1), 4, none⟩ = some (.int .i64 s.ra) ∧ w'.cell? ⟨(w.heap.size + 1), 5, none⟩ = some (.int .i64 s.mo) ∧ w'.cell? ⟨(w.heap.size + 1), 6, none⟩ = some (.slice A2 n c2) ∧ w.heap.size < w'.heap.size ∧ w.heap.size + 1 < w'.heap.size ∧ ¬ w.heap.size = w'.heap.size ∧ ¬ w.heap.size + 1 = w'.heap.size ∧ Below w21.heap.size w21 w') (first | (with_reducible assumption) | exact KU _ (by (repeat (first | (with_reducible exact Below.refl _ _) | (with_reducible assumption) | (with_reducible refine Below.drew ?_) | (with_reducible refine below_drewN ?_ _) | ((with_reducible refine Below.setCell ?_ ?_ _); rotate_left; focus (first | (simp; done) | omega | (simp; omega))) | ((with_reducible refine Below.alloc ?_ ?_ _); rotate_left; focus (first | exact Nat.le_refl _ | omega | (simp; done) | (simp; omega)))))))
        (first
          | (go_at_call 29; refine (toBook_any _ A m c R (RdRu.more (RdRu.below hd9 (show Below w21.heap.size w21 _ from (by (repeat (first | (with_reducible exact Below.refl _ _) | (with_reducible assumption) | (with_reducible refine Below.drew ?_) | (with_reducible refine below_drewN ?_ _) | ((with_reducible refine Below.setCell ?_ ?_ _); rotate_left; focus (first | (simp; done) | omega | (simp; omega))) | ((with_reducible refine Below.alloc ?_ ?_ _); rotate_left; focus (first | exact Nat.le_refl _ | omega | (simp; done) | (simp; omega)))))))) (by first | exact Nat.le_refl _ | (simp; done) | (simp; omega) | omega)) hm2 HN.out).mono ?_; rintro e wa ⟨ga, Ga, rfl, copa, -, hba⟩; obtain ⟨hca, hfa⟩ := keepc hba; have hqa := keepz hba; have hza := hba.size; (try simp only [World.size_alloc, World.size_drew] at hza); have hla : Below w21.heap.size w21 wa := (show Below w21.heap.size w21 _ from (by (repeat (first | (with_reducible exact Below.refl _ _) | (with_reducible assumption) | (with_reducible refine Below.drew ?_) | (with_reducible refine below_drewN ?_ _) | ((with_reducible refine Below.setCell ?_ ?_ _); rotate_left; focus (first | (simp; done) | omega | (simp; omega))) | ((with_reducible refine Below.alloc ?_ ?_ _); rotate_left; focus (first | exact Nat.le_refl _ | omega | (simp; done) | (simp; omega))))))).trans (hba.mono (by first | exact Nat.le_refl _ | (simp; done) | (simp; omega) | omega)); have hSa := KU wa hla; have hsa := hla.size; have hga := copa.rd hm2 HN.out; (try (have hxa : w21.heap.size < wa.heap.size := (by omega))); clear hba copa hza)
          | (go_at_call 17; refine (toRule_any _ s A2 n c2 N (RdNo.more (RdNo.below hr9 (show Below w21.heap.size w21 _ from (by (repeat (first | (with_reducible exact Below.refl _ _) | (with_reducible assumption) | (with_reducible refine Below.drew ?_) | (with_reducible refine below_drewN ?_ _) | ((with_reducible refine Below.setCell ?_ ?_ _); rotate_left; focus (first | (simp; done) | omega | (simp; omega))) | ((with_reducible refine Below.alloc ?_ ?_ _); rotate_left; focus (first | exact Nat.le_refl _ | omega | (simp; done) | (simp; omega)))))))) (by first | exact Nat.le_refl _ | (simp; done) | (simp; omega) | omega)) hn2).mono ?_; rintro e wb ⟨gb, rfl, rowb, -, hbb⟩; obtain ⟨hcb, hfb⟩ := keepc hbb; have hqb := keepz hbb; have hzb := hbb.size; (try simp only [World.size_alloc, World.size_drew] at hzb); have hab : Below wa.heap.size wa wb := (show Below wa.heap.size wa _ from (by (repeat (first | (with_reducible exact Below.refl _ _) | (with_reducible assumption) | (with_reducible refine Below.drew ?_) | (with_reducible refine below_drewN ?_ _) | ((with_reducible refine Below.setCell ?_ ?_ _); rotate_left; focus (first | (simp; done) | omega | (simp; omega))) | ((with_reducible refine Below.alloc ?_ ?_ _); rotate_left; focus (first | exact Nat.le_refl _ | omega | (simp; done) | (simp; omega))))))).trans (hbb.mono (by first | exact Nat.le_refl _ | (simp; done) | (simp; omega) | omega)); have hlb := hla.trans (hab.mono hsa); have hSb := KU wb hlb; have hsb := hab.size; have hgb : RdNo wb wb.heap.size (some ⟨gb, 0, none⟩) n N := RdNo.row rowb rowb.lt (Nat.le_refl _) (by omega); have hga2 := (hga.below hab).more hsb; (try (have hxb : w21.heap.size < wb.heap.size := (by omega))); (try (have hyb : wa.heap.size < wb.heap.size := (by omega))); clear hbb rowb hzb)
          | (go_at_call 39; refine (CI _ ga gb Ga (RdRu.more (RdRu.below hga2 (show Below wb.heap.size wb _ from (by (repeat (first | (with_reducible exact Below.refl _ _) | (with_reducible assumption) | (with_reducible refine Below.drew ?_) | (with_reducible refine below_drewN ?_ _) | ((with_reducible refine Below.setCell ?_ ?_ _); rotate_left; focus (first | (simp; done) | omega | (simp; omega))) | ((with_reducible refine Below.alloc ?_ ?_ _); rotate_left; focus (first | exact Nat.le_refl _ | omega | (simp; done) | (simp; omega)))))))) (by first | exact Nat.le_refl _ | (simp; done) | (simp; omega) | omega)) (RdNo.more (RdNo.below hgb (show Below wb.heap.size wb _ from (by (repeat (first | (with_reducible exact Below.refl _ _) | (with_reducible assumption) | (with_reducible refine Below.drew ?_) | (with_reducible refine below_drewN ?_ _) | ((with_reducible refine Below.setCell ?_ ?_ _); rotate_left; focus (first | (simp; done) | omega | (simp; omega))) | ((with_reducible refine Below.alloc ?_ ?_ _); rotate_left; focus (first | exact Nat.le_refl _ | omega | (simp; done) | (simp; omega)))))))) (by first | exact Nat.le_refl _ | (simp; done) | (simp; omega) | omega))).mono ?_; rintro e wd ⟨Xd, Bd, cd, rfl, hXd, ownd, hbd⟩; obtain ⟨hcd, hfd⟩ := keepc hbd; have hqd := keepz hbd; have hzd := hbd.size; (try simp only [World.size_alloc, World.size_drew] at hzd); have hbd2 : Below wb.heap.size wb wd := (show Below wb.heap.size wb _ from (by (repeat (first | (with_reducible exact Below.refl _ _) | (with_reducible assumption) | (with_reducible refine Below.drew ?_) | (with_reducible refine below_drewN ?_ _) | ((with_reducible refine Below.setCell ?_ ?_ _); rotate_left; focus (first | (simp; done) | omega | (simp; omega))) | ((with_reducible refine Below.alloc ?_ ?_ _); rotate_left; focus (first | exact Nat.le_refl _ | omega | (simp; done) | (simp; omega))))))).trans (hbd.mono (by first | exact Nat.le_refl _ | (simp; done) | (simp; omega) | omega)); have hld := hlb.trans (hbd2.mono (by omega)); have hSd := KU wd hld; have hsd := hbd2.size; clear hbd hzd))
      all_goals
        go_wp2_with fail
        go_meet
        refine ⟨_, Xd, Bd, cd, rfl, rfl, hXd, ?_, ?_, ?_, ?_⟩
        · first | omega | (simp; done) | (simp; omega) | (simp [*]; done)
        · simp [go_sem, *]
        · first | exact (OwF.under ownd (by first | omega | (simp; done) | (simp; omega)) _ _).rd | exact RdRu.more ((ownd.all (by (repeat (first | (with_reducible exact Below.refl _ _) | (with_reducible assumption) | (with_reducible refine Below.drew ?_) | (with_reducible refine below_drewN ?_ _) | ((with_reducible refine Below.setCell ?_ ?_ _); rotate_left; focus (first | (simp; done) | omega | (simp; omega))) | ((with_reducible refine Below.alloc ?_ ?_ _); rotate_left; focus (first | exact Nat.le_refl _ | omega | (simp; done) | (simp; omega))))))).rd) (Nat.le_refl _)
        · (repeat (first | (with_reducible exact Below.refl _ _) | (with_reducible assumption) | (with_reducible refine Below.drew ?_) | (with_reducible refine below_drewN ?_ _) | ((with_reducible refine Below.setCell ?_ ?_ _); rotate_left; focus (first | (simp; done) | omega | (simp; omega))) | ((with_reducible refine Below.alloc ?_ ?_ _); rotate_left; focus (first | exact Nat.le_refl _ | omega | (simp; done) | (simp; omega)))))
    case rest =>
      clear KU hBz
      clear pAq0 pRq0 pRq1 pRq2 pRq3 pRq4 pRq5 pRq6 pGq0 pAz pRz pGz
      clear bX0q bX0z
      obtain ⟨qh, X2, B2, cc2, rfl, rfl, hX2, qhz, qhq, rdX2, hbc31⟩ := hcut
      obtain ⟨wc31, hwc31⟩ : ∃ v, v = wc := ⟨_, rfl⟩
      rw [← hwc31] at qhz qhq rdX2 hbc31 ⊢
      clear hwc31 wc
      have hsc31 := hbc31.size
      have bX2 : Box1 wc31 wc31.heap.size qh (.slice B2 an cc2) := ⟨qhz, qhq⟩
      clear qhz qhq
      replace pA := pA.below hbc31 pA.lt
      replace pR := pR.below hbc31 pR.lt
      replace pG := pG.below hbc31 pG.lt
      replace ownM := ownM.all hbc31
      replace hd := hd.below (hbc31.mono (by omega))
      replace hr := hr.below (hbc31.mono (by omega))
      replace rdX0 := rdX0.below (hbc31.mono (by omega))
      replace bX0 := bX0.below (hbc31.mono (by omega))
      have hBc31 : Below w.heap.size w wc31 := hB21.trans (hbc31.mono hB21.size)
      clear hd9 hr9
      have hX20 := hX2.via hX0
      have pAq0 : wc31.cell? ⟨w.heap.size, 0, none⟩ = some (.slice A m c) := pA.cell 0
      have pAz := pA.lt
      have pRq0 : wc31.cell? ⟨(w.heap.size + 1), 0, none⟩ = some (.int .i64 s.nm) := pR.cell 0
      have pRq1 : wc31.cell? ⟨(w.heap.size + 1), 1, none⟩ = some (.int .i64 s.fr) := pR.cell 1
      have pRq2 : wc31.cell? ⟨(w.heap.size + 1), 2, none⟩ = some (.int .i64 s.to) := pR.cell 2
      have pRq3 : wc31.cell? ⟨(w.heap.size + 1), 3, none⟩ = some (.int .i64 s.jo) := pR.cell 3
      have pRq4 : wc31.cell? ⟨(w.heap.size + 1), 4, none⟩ = some (.int .i64 s.ra) := pR.cell 4
      have pRq5 : wc31.cell? ⟨(w.heap.size + 1), 5, none⟩ = some (.int .i64 s.mo) := pR.cell 5
      have pRq6 : wc31.cell? ⟨(w.heap.size + 1), 6, none⟩ = some (.slice A2 n c2) := pR.cell 6
      have pRz := pR.lt
      have pGq0 : wc31.cell? ⟨b5a, 0, none⟩ = some (.slice B1 an cc1) := pG.cell 0
      have pGz := pG.lt
      have bX0q := bX0.2
      have bX0z := bX0.1
      have bX2q := bX2.2
      have bX2z := bX2.1
      go_wp2_with fail
      refine (eqBook_any wc31 B2 B0 an cc2 cc0 X2 X0 rdX2 (rdX0.more (by omega)) hX20).mono ?_
      rintro e w32 ⟨rfl, hb32⟩
      clear pAq0 pRq0 pRq1 pRq2 pRq3 pRq4 pRq5 pRq6 pGq0 pAz pRz pGz
      clear bX0q bX0z bX2q bX2z
      have hs32 := hb32.size
      replace pA := pA.below hb32 pA.lt
      replace pR := pR.below hb32 pR.lt
      replace pG := pG.below hb32 pG.lt
      replace rdX2 := (rdX2.below hb32).more hs32
      replace bX2 := (bX2.below hb32).more hs32
      replace ownM := ownM.all hb32
      replace hd := hd.below (hb32.mono (by omega))
      replace hr := hr.below (hb32.mono (by omega))
      replace rdX0 := rdX0.below (hb32.mono (by omega))
      replace bX0 := bX0.below (hb32.mono (by omega))
      have hB32 : Below w.heap.size w w32 := hBc31.trans (hb32.mono hBc31.size)
      have CH := fun (v : World) (hv : OwF v u4.heap.size (.slice B1 an cc1) an (mkB X1 1 an)) => heldBookF v B1 an cc1 X1 1 hv.rd hW1 (by omega) (by omega)
      rw [← HMK.out] at CH
      have pAq0 : w32.cell? ⟨w.heap.size, 0, none⟩ = some (.slice A m c) := pA.cell 0
      have pAz := pA.lt
      have pRq0 : w32.cell? ⟨(w.heap.size + 1), 0, none⟩ = some (.int .i64 s.nm) := pR.cell 0
      have pRq1 : w32.cell? ⟨(w.heap.size + 1), 1, none⟩ = some (.int .i64 s.fr) := pR.cell 1
      have pRq2 : w32.cell? ⟨(w.heap.size + 1), 2, none⟩ = some (.int .i64 s.to) := pR.cell 2
      have pRq3 : w32.cell? ⟨(w.heap.size + 1), 3, none⟩ = some (.int .i64 s.jo) := pR.cell 3
      have pRq4 : w32.cell? ⟨(w.heap.size + 1), 4, none⟩ = some (.int .i64 s.ra) := pR.cell 4
      have pRq5 : w32.cell? ⟨(w.heap.size + 1), 5, none⟩ = some (.int .i64 s.mo) := pR.cell 5
      have pRq6 : w32.cell? ⟨(w.heap.size + 1), 6, none⟩ = some (.slice A2 n c2) := pR.cell 6
      have pRz := pR.lt
      have pGq0 : w32.cell? ⟨b5a, 0, none⟩ = some (.slice B1 an cc1) := pG.cell 0
      have pGz := pG.lt
      have bX0q := bX0.2
      have bX0z := bX0.1
      have bX2q := bX2.2
      have bX2z := bX2.1
      go_wp2_with fail
      refine (CH w32 ownM).mono ?_
      rintro e w33 ⟨rfl, hb33⟩
      clear pAq0 pRq0 pRq1 pRq2 pRq3 pRq4 pRq5 pRq6 pGq0 pAz pRz pGz
      clear bX0q bX0z bX2q bX2z
      have hs33 := hb33.size
      replace pA := pA.below hb33 pA.lt
      replace pR := pR.below hb33 pR.lt
      replace pG := pG.below hb33 pG.lt
      replace rdX2 := (rdX2.below hb33).more hs33
      replace bX2 := (bX2.below hb33).more hs33
      replace ownM := ownM.all hb33
      replace hd := hd.below (hb33.mono (by omega))
      replace hr := hr.below (hb33.mono (by omega))
      replace rdX0 := rdX0.below (hb33.mono (by omega))
      replace bX0 := bX0.below (hb33.mono (by omega))
      have hB33 : Below w.heap.size w w33 := hB32.trans (hb33.mono hB32.size)
      clear CH
      have pAq0 : w33.cell? ⟨w.heap.size, 0, none⟩ = some (.slice A m c) := pA.cell 0
      have pAz := pA.lt
      have pRq0 : w33.cell? ⟨(w.heap.size + 1), 0, none⟩ = some (.int .i64 s.nm) := pR.cell 0
      have pRq1 : w33.cell? ⟨(w.heap.size + 1), 1, none⟩ = some (.int .i64 s.fr) := pR.cell 1
      have pRq2 : w33.cell? ⟨(w.heap.size + 1), 2, none⟩ = some (.int .i64 s.to) := pR.cell 2
      have pRq3 : w33.cell? ⟨(w.heap.size + 1), 3, none⟩ = some (.int .i64 s.jo) := pR.cell 3
      have pRq4 : w33.cell? ⟨(w.heap.size + 1), 4, none⟩ = some (.int .i64 s.ra) := pR.cell 4
      have pRq5 : w33.cell? ⟨(w.heap.size + 1), 5, none⟩ = some (.int .i64 s.mo) := pR.cell 5
      have pRq6 : w33.cell? ⟨(w.heap.size + 1), 6, none⟩ = some (.slice A2 n c2) := pR.cell 6
      have pRz := pR.lt
      have pGq0 : w33.cell? ⟨b5a, 0, none⟩ = some (.slice B1 an cc1) := pG.cell 0
      have pGz := pG.lt
      have bX0q := bX0.2
      have bX0z := bX0.1
      have bX2q := bX2.2
      have bX2z := bX2.1
      go_wp2_with fail
      go_ret
      exact ⟨rfl, hB33⟩
end Go.Proofs.Ytjnckhdmaebfdaa
