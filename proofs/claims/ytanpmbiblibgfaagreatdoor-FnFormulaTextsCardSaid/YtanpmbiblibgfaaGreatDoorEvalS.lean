/- The value of a node, of the program and of the reference. Conditions: the node is good, the values before it can be read. -/
import Derived.Test.YtanpmbiblibgfaaGreatDoorEvalN
import Derived.Test.YtanpmbiblibgfaaGreatDoorFrS
import Derived.Test.YtanpmbiblibgfaaGreatDoorGa
import Derived.Test.YtanpmbiblibgfaaGreatDoorSFr
import Derived.Test.YtanpmbiblibgfaaGreatDoorSSum
import Derived.Test.YtanpmbiblibgfaaGreatDoorFCmp
import Derived.RegionTactic
import Derived.ChangeAlike
import Derived.BigRegion
import Derived.Deep.DeepCutAuto
namespace Go.Proofs.YtanpmbiblibgfaaGreatDoor
open Go.RowKit

set_option linter.unusedVariables false

set_option maxRecDepth 4000 in
set_option maxHeartbeats 800000 in
theorem sEvalNode1 (w : World) (x y z p q : Int) (KA VA : Option Addr) (m kc vc : Nat) (K V : Nat → Fr) (hK : RdFr w w.heap.size KA m K) (hV : RdFr w w.heap.size VA 8 V) :
    Calls Tryz.prog 38 #[.agg #[.int .i64 1, .int .i64 x, .int .i64 y, .int .i64 z, .int .i64 p, .int .i64 q], .slice KA m kc, .slice VA 8 vc] w fun e w' => e = .returned (vOpt (nodeV ⟨1, x, y, z, p, q⟩ K V)) ∧ Below w.heap.size w w' := by
  have e0 : nodeV ⟨1, x, y, z, p, q⟩ K V = some (p, q) := by rw [nodeV, if_pos rfl]
  rw [e0]
  clear e0 hK hV
  go_enter Tryz.func38, Tryz.ntmps38
  go_wp2_with fail
  refine bodyPost_ret (v := vOpt (some (p, q))) (by simp [results, Tryz.results38, go_sem, oN_some, oD_some, oB_some]) rfl ⟨rfl, (by (repeat (first | (with_reducible exact Below.refl _ _) | (with_reducible assumption) | (with_reducible refine Below.drew ?_) | (with_reducible refine below_drewN ?_ _) | ((with_reducible refine Below.setCell ?_ ?_ _); rotate_left; focus (first | (simp; done) | omega | (simp; omega))) | ((with_reducible refine Below.alloc ?_ ?_ _); rotate_left; focus (first | exact Nat.le_refl _ | omega | (simp; done) | (simp; omega))))))⟩

set_option maxRecDepth 4000 in
set_option maxHeartbeats 800000 in
theorem sEvalNode2 (w : World) (x y z p q : Int) (KA VA : Option Addr) (m kc vc : Nat) (K V : Nat → Fr) (hK : RdFr w w.heap.size KA m K) (hV : RdFr w w.heap.size VA 8 V) (hx : 0 ≤ x ∧ x ≤ 7) :
    Calls Tryz.prog 38 #[.agg #[.int .i64 2, .int .i64 x, .int .i64 y, .int .i64 z, .int .i64 p, .int .i64 q], .slice KA m kc, .slice VA 8 vc] w fun e w' => e = .returned (vOpt (nodeV ⟨2, x, y, z, p, q⟩ K V)) ∧ Below w.heap.size w w' := by
  obtain ⟨n1, rfl⟩ := Int.eq_ofNat_of_zero_le hx.1
  have h1 : n1 < 8 := by omega
  have h1' : (n1 : Int) < (8 : Nat) := by omega
  have h1'' : (n1 : Int) < 8 := by omega
  obtain ⟨b, off, rfl, hb, c10, c11⟩ := hV.2 n1 h1
  have e0 : nodeV ⟨2, (n1 : Int), y, z, p, q⟩ K V = some (V n1) := by rw [nodeV, if_neg (by simp), if_pos rfl]; simp
  rw [e0]
  obtain ⟨⟨vn, vd⟩, hv⟩ : ∃ v, v = V n1 := ⟨_, rfl⟩
  rw [← hv] at c10 c11 ⊢
  dsimp only at c10 c11
  have hne0 : ¬ b = w.heap.size := by omega
  have hne1 : ¬ b = w.heap.size + 1 := by omega
  clear e0 hv hK hV hx
  go_enter Tryz.func38, Tryz.ntmps38
  go_wp2_with fail
  refine bodyPost_ret (v := vOpt (some (vn, vd))) (by simp [results, Tryz.results38, go_sem, oN_some, oD_some, oB_some]) rfl ⟨rfl, (by (repeat (first | (with_reducible exact Below.refl _ _) | (with_reducible assumption) | (with_reducible refine Below.drew ?_) | (with_reducible refine below_drewN ?_ _) | ((with_reducible refine Below.setCell ?_ ?_ _); rotate_left; focus (first | (simp; done) | omega | (simp; omega))) | ((with_reducible refine Below.alloc ?_ ?_ _); rotate_left; focus (first | exact Nat.le_refl _ | omega | (simp; done) | (simp; omega))))))⟩

set_option maxRecDepth 4000 in
set_option maxHeartbeats 6400000 in
theorem sEvalNodeH (w : World) (k x y z p q : Int) (KA VA : Option Addr) (m kc vc : Nat) (K V : Nat → Fr) (hK : RdFr w w.heap.size KA m K) (hV : RdFr w w.heap.size VA 8 V) (h3k : 3 ≤ k) (hk9 : k ≤ 9) (hx : 0 ≤ x ∧ x < m) (hy : 0 ≤ y ∧ y < m) (hz : k = 9 → 0 ≤ z ∧ z < m) (hG : ∀ i, i < m → fracOkL (K i) = true) :
    Calls Tryz.prog 38 #[.agg #[.int .i64 k, .int .i64 x, .int .i64 y, .int .i64 z, .int .i64 p, .int .i64 q], .slice KA m kc, .slice VA 8 vc] w fun e w' => e = .returned (vOpt (nodeV ⟨k, x, y, z, p, q⟩ K V)) ∧ Below w.heap.size w w' := by
  have hm := hK.1
  obtain ⟨n1, rfl⟩ := Int.eq_ofNat_of_zero_le hx.1
  obtain ⟨n2, rfl⟩ := Int.eq_ofNat_of_zero_le hy.1
  have h1 : n1 < m := by omega
  have h2 : n2 < m := by omega
  have h1' : (n1 : Int) < m := by omega
  have h2' : (n2 : Int) < m := by omega
  obtain ⟨b, off, rfl, hb, c10, c11⟩ := hK.2 n1 h1
  obtain ⟨b2, off2, e2, -, c20, c21⟩ := hK.2 n2 h2
  obtain ⟨rfl, rfl⟩ : b = b2 ∧ off = off2 := by injection e2 with e; injection e with e1 e2; exact ⟨e1, e2⟩
  obtain ⟨U, hU⟩ : ∃ U, U = nodeV ⟨k, (n1 : Int), (n2 : Int), z, p, q⟩ K V := ⟨_, rfl⟩
  rw [← hU]
  simp only [nodeV, Int.toNat_natCast] at hU
  have gA := hG n1 h1
  have gB := hG n2 h2
  obtain ⟨⟨an, ad⟩, hA⟩ : ∃ v, v = K n1 := ⟨_, rfl⟩
  obtain ⟨⟨bn, bd⟩, hB⟩ : ∃ v, v = K n2 := ⟨_, rfl⟩
  rw [← hA] at c10 c11 gA
  rw [← hB] at c20 c21 gB
  rw [← hA, ← hB] at hU
  dsimp only at c10 c11 c20 c21
  have hz3 : ∃ cn cd : Int, (k = 9 → ∃ n3 : Nat, z = (n3 : Int) ∧ n3 < m ∧ K n3 = (cn, cd) ∧ w.cell? ⟨b, off + n3 * 2, none⟩ = some (.int .i64 cn) ∧ w.cell? ⟨b, off + n3 * 2 + 1, none⟩ = some (.int .i64 cd)) := by
    by_cases h9 : k = 9
    · obtain ⟨n3, rfl⟩ := Int.eq_ofNat_of_zero_le (hz h9).1
      have h3 : n3 < m := by have := (hz h9).2; omega
      obtain ⟨b3, off3, e3, -, c30, c31⟩ := hK.2 n3 h3
      obtain ⟨rfl, rfl⟩ : b = b3 ∧ off = off3 := by injection e3 with e; injection e with e1 e2; exact ⟨e1, e2⟩
      exact ⟨(K n3).1, (K n3).2, fun _ => ⟨n3, rfl, h3, rfl, c30, c31⟩⟩
    · exact ⟨0, 0, fun h => absurd h h9⟩
  obtain ⟨cn, cd, hz3⟩ := hz3
  have k1 : (k == 1) = false := by simp; omega
  have k2 : (k == 2) = false := by simp; omega
  obtain ⟨w0, hw0⟩ : ∃ w0, w0 = ((w.alloc (.cells #[.int .i64 k, .int .i64 (n1 : Int), .int .i64 (n2 : Int), .int .i64 z, .int .i64 p, .int .i64 q] 46)).alloc (.cells #[.int .i64 0, .int .i64 0] 33)) := ⟨_, rfl⟩
  have hbw : Below w.heap.size w w0 := by rw [hw0]; (repeat (first | (with_reducible exact Below.refl _ _) | (with_reducible assumption) | (with_reducible refine Below.drew ?_) | (with_reducible refine below_drewN ?_ _) | ((with_reducible refine Below.setCell ?_ ?_ _); rotate_left; focus (first | (simp; done) | omega | (simp; omega))) | ((with_reducible refine Below.alloc ?_ ?_ _); rotate_left; focus (first | exact Nat.le_refl _ | omega | (simp; done) | (simp; omega)))))
  have hb0 : b < w0.heap.size := by have := hbw.size; omega
  have pN : Whole w0 w.heap.size 46 #[.int .i64 k, .int .i64 (n1 : Int), .int .i64 (n2 : Int), .int .i64 z, .int .i64 p, .int .i64 q] := by rw [hw0]; exact (Whole.new w _ _).alloc _
  have pR : Whole w0 (w.heap.size + 1) 33 #[.int .i64 0, .int .i64 0] := by rw [hw0]; have := Whole.new (w.alloc (.cells #[.int .i64 k, .int .i64 (n1 : Int), .int .i64 (n2 : Int), .int .i64 z, .int .i64 p, .int .i64 q] 46)) 33 #[.int .i64 0, .int .i64 0]; simpa using this
  have d10 : w0.cell? ⟨b, off + n1 * 2, none⟩ = some (.int .i64 an) := (hbw.cell (p := ⟨b, _, none⟩) hb).trans c10
  have d11 : w0.cell? ⟨b, off + n1 * 2 + 1, none⟩ = some (.int .i64 ad) := (hbw.cell (p := ⟨b, _, none⟩) hb).trans c11
  have d20 : w0.cell? ⟨b, off + n2 * 2, none⟩ = some (.int .i64 bn) := (hbw.cell (p := ⟨b, _, none⟩) hb).trans c20
  have d21 : w0.cell? ⟨b, off + n2 * 2 + 1, none⟩ = some (.int .i64 bd) := (hbw.cell (p := ⟨b, _, none⟩) hb).trans c21
  have x1 : w0.cell? ⟨w.heap.size, 1, none⟩ = some (.int .i64 (n1 : Int)) := pN.cell 1
  have x2 : w0.cell? ⟨w.heap.size, 2, none⟩ = some (.int .i64 (n2 : Int)) := pN.cell 2
  have xl := pN.lt
  have hne1 : ¬ b = w0.heap.size := by omega
  have hne2 : ¬ b = w0.heap.size + 1 := by omega
  have hne3 : ¬ w.heap.size = w0.heap.size := by omega
  have hne4 : ¬ w.heap.size = w0.heap.size + 1 := by omega
  have HA := Lib.hid hA
  have HB := Lib.hid hB
  have HU := Lib.hid hU
  have HZ := Lib.hid hz3
  clear e2 hx hy hK hV hG hz c10 c11 c20 c21 hA hB hU hz3
  go_enter Tryz.func38, Tryz.ntmps38
  go_upto_region 6 with fail
  rw [← hw0]
  clear hw0
  obtain ⟨wc, hwc⟩ : ∃ wc, wc = ((w0.alloc (.cells #[.int .i64 an, .int .i64 ad] 33)).alloc (.cells #[.int .i64 bn, .int .i64 bd] 33)) := ⟨_, rfl⟩
  obtain ⟨ga, hga⟩ : ∃ ga, ga = w0.heap.size := ⟨_, rfl⟩
  obtain ⟨gb, hgb⟩ : ∃ gb, gb = w0.heap.size + 1 := ⟨_, rfl⟩
  obtain ⟨y1, y2, y3, y4⟩ := two_new w0 33 #[.int .i64 an, .int .i64 ad] #[.int .i64 bn, .int .i64 bd]
  rw [← hwc] at y1 y2 y3 y4
  rw [← hga] at y1
  rw [← hgb] at y2
  have pA := y1
  have pB := y2
  replace pN := y3 _ _ _ pN
  replace pR := y3 _ _ _ pR
  have hbc := y4 _ _ hbw (Nat.le_refl _)
  clear y1 y2 y3 y4
  go_upto_region 8 with fail
  rw [← hwc]
  rw [← hgb]
  rw [← hga]
  clear hwc hga hgb d10 d11 d20 d21 x1 x2 hne1 hne2 hne3 hne4 hbw xl hb0
  have hk9 : k = 3 ∨ k = 4 ∨ k = 5 ∨ k = 6 ∨ k = 7 ∨ k = 8 ∨ k = 9 := by omega
  rcases hk9 with hq | hq | hq | hq | hq | hq | hq
  · have hk : k = 3 := by omega
    have k3 : (k == 3) = true := by simp; omega
    have k4 : (k == 4) = false := by simp; omega
    have k5 : (k == 5) = false := by simp; omega
    have k6 : (k == 6) = false := by simp; omega
    have k7 : (k == 7) = false := by simp; omega
    have k8 : (k == 8) = false := by simp; omega
    have HV := Lib.hid (show U = addL (an, ad) (bn, bd) by rw [HU.out, if_neg (by omega), if_neg (by omega), if_pos hk])
    clear HU HZ hk
    obtain ⟨r, hr⟩ : ∃ r, r = addL (an, ad) (bn, bd) := ⟨_, rfl⟩
    have CC := fun (v : World) => sFracAdd an ad bn bd v
    rw [← hr] at CC
    have HVR := Lib.hid (show U = r by rw [HV.out, hr])
    clear hr HV
    have pAq0 : wc.cell? ⟨ga, 0, none⟩ = some (.int .i64 an) := pA.cell 0
    have pAq1 : wc.cell? ⟨ga, 1, none⟩ = some (.int .i64 ad) := pA.cell 1
    have pAz := pA.lt
    have pBq0 : wc.cell? ⟨gb, 0, none⟩ = some (.int .i64 bn) := pB.cell 0
    have pBq1 : wc.cell? ⟨gb, 1, none⟩ = some (.int .i64 bd) := pB.cell 1
    have pBz := pB.lt
    have pRq0 : wc.cell? ⟨w.heap.size + 1, 0, none⟩ = some (.int .i64 0) := pR.cell 0
    have pRq1 : wc.cell? ⟨w.heap.size + 1, 1, none⟩ = some (.int .i64 0) := pR.cell 1
    have pRz := pR.lt
    have pNq0 : wc.cell? ⟨w.heap.size, 0, none⟩ = some (.int .i64 k) := pN.cell 0
    have pNq3 : wc.cell? ⟨w.heap.size, 3, none⟩ = some (.int .i64 z) := pN.cell 3
    have pNz := pN.lt
    have pRf0 := pR.free 0
    have pRf1 := pR.free 1
    go_wp2_with fail
    refine (CC _).mono ?_
    rintro e w3 ⟨rfl, hb3⟩
    clear pAq0 pAq1 pBq0 pBq1 pRq0 pRq1 pAz pBz pRz pNq0 pNq3 pNz pRf0 pRf1
    replace pA := pA.below hb3 pA.lt
    replace pB := pB.below hb3 pB.lt
    replace pN := pN.below hb3 pN.lt
    replace pR := pR.below hb3 pR.lt
    have hB3 := hbc.trans (hb3.mono hbc.size)
    clear hb3 hbc CC
    have pAq0 : w3.cell? ⟨ga, 0, none⟩ = some (.int .i64 an) := pA.cell 0
    have pAq1 : w3.cell? ⟨ga, 1, none⟩ = some (.int .i64 ad) := pA.cell 1
    have pAz := pA.lt
    have pBq0 : w3.cell? ⟨gb, 0, none⟩ = some (.int .i64 bn) := pB.cell 0
    have pBq1 : w3.cell? ⟨gb, 1, none⟩ = some (.int .i64 bd) := pB.cell 1
    have pBz := pB.lt
    have pRq0 : w3.cell? ⟨w.heap.size + 1, 0, none⟩ = some (.int .i64 0) := pR.cell 0
    have pRq1 : w3.cell? ⟨w.heap.size + 1, 1, none⟩ = some (.int .i64 0) := pR.cell 1
    have pRz := pR.lt
    have pNq0 : w3.cell? ⟨w.heap.size, 0, none⟩ = some (.int .i64 k) := pN.cell 0
    have pNq3 : w3.cell? ⟨w.heap.size, 3, none⟩ = some (.int .i64 z) := pN.cell 3
    have pNz := pN.lt
    have pRf0 := pR.free 0
    have pRf1 := pR.free 1
    go_wp2_with fail
    refine bodyPost_ret (v := vOpt r) (by simp [results, Tryz.results38, go_sem, pRq0, pRq1]) rfl ⟨by rw [HVR.out], (by (repeat (first | (with_reducible exact Below.refl _ _) | (with_reducible assumption) | (with_reducible refine Below.drew ?_) | (with_reducible refine below_drewN ?_ _) | ((with_reducible refine Below.setCell ?_ ?_ _); rotate_left; focus (first | (simp; done) | omega | (simp; omega))) | ((with_reducible refine Below.alloc ?_ ?_ _); rotate_left; focus (first | exact Nat.le_refl _ | omega | (simp; done) | (simp; omega))))))⟩
  · have hk : k = 4 := by omega
    have k3 : (k == 3) = false := by simp; omega
    have k4 : (k == 4) = true := by simp; omega
    have k5 : (k == 5) = false := by simp; omega
    have k6 : (k == 6) = false := by simp; omega
    have k7 : (k == 7) = false := by simp; omega
    have k8 : (k == 8) = false := by simp; omega
    have HV := Lib.hid (show U = subL (an, ad) (bn, bd) by rw [HU.out, if_neg (by omega), if_neg (by omega), if_neg (by omega), if_pos hk])
    clear HU HZ hk
    obtain ⟨r, hr⟩ : ∃ r, r = subL (an, ad) (bn, bd) := ⟨_, rfl⟩
    have CC := fun (v : World) => sFracSub an ad bn bd v
    rw [← hr] at CC
    have HVR := Lib.hid (show U = r by rw [HV.out, hr])
    clear hr HV
    have pAq0 : wc.cell? ⟨ga, 0, none⟩ = some (.int .i64 an) := pA.cell 0
    have pAq1 : wc.cell? ⟨ga, 1, none⟩ = some (.int .i64 ad) := pA.cell 1
    have pAz := pA.lt
    have pBq0 : wc.cell? ⟨gb, 0, none⟩ = some (.int .i64 bn) := pB.cell 0
    have pBq1 : wc.cell? ⟨gb, 1, none⟩ = some (.int .i64 bd) := pB.cell 1
    have pBz := pB.lt
    have pRq0 : wc.cell? ⟨w.heap.size + 1, 0, none⟩ = some (.int .i64 0) := pR.cell 0
    have pRq1 : wc.cell? ⟨w.heap.size + 1, 1, none⟩ = some (.int .i64 0) := pR.cell 1
    have pRz := pR.lt
    have pNq0 : wc.cell? ⟨w.heap.size, 0, none⟩ = some (.int .i64 k) := pN.cell 0
    have pNq3 : wc.cell? ⟨w.heap.size, 3, none⟩ = some (.int .i64 z) := pN.cell 3
    have pNz := pN.lt
    have pRf0 := pR.free 0
    have pRf1 := pR.free 1
    go_wp2_with fail
    refine (CC _).mono ?_
    rintro e w3 ⟨rfl, hb3⟩
    clear pAq0 pAq1 pBq0 pBq1 pRq0 pRq1 pAz pBz pRz pNq0 pNq3 pNz pRf0 pRf1
    replace pA := pA.below hb3 pA.lt
    replace pB := pB.below hb3 pB.lt
    replace pN := pN.below hb3 pN.lt
    replace pR := pR.below hb3 pR.lt
    have hB3 := hbc.trans (hb3.mono hbc.size)
    clear hb3 hbc CC
    have pAq0 : w3.cell? ⟨ga, 0, none⟩ = some (.int .i64 an) := pA.cell 0
    have pAq1 : w3.cell? ⟨ga, 1, none⟩ = some (.int .i64 ad) := pA.cell 1
    have pAz := pA.lt
    have pBq0 : w3.cell? ⟨gb, 0, none⟩ = some (.int .i64 bn) := pB.cell 0
    have pBq1 : w3.cell? ⟨gb, 1, none⟩ = some (.int .i64 bd) := pB.cell 1
    have pBz := pB.lt
    have pRq0 : w3.cell? ⟨w.heap.size + 1, 0, none⟩ = some (.int .i64 0) := pR.cell 0
    have pRq1 : w3.cell? ⟨w.heap.size + 1, 1, none⟩ = some (.int .i64 0) := pR.cell 1
    have pRz := pR.lt
    have pNq0 : w3.cell? ⟨w.heap.size, 0, none⟩ = some (.int .i64 k) := pN.cell 0
    have pNq3 : w3.cell? ⟨w.heap.size, 3, none⟩ = some (.int .i64 z) := pN.cell 3
    have pNz := pN.lt
    have pRf0 := pR.free 0
    have pRf1 := pR.free 1
    go_wp2_with fail
    refine bodyPost_ret (v := vOpt r) (by simp [results, Tryz.results38, go_sem, pRq0, pRq1]) rfl ⟨by rw [HVR.out], (by (repeat (first | (with_reducible exact Below.refl _ _) | (with_reducible assumption) | (with_reducible refine Below.drew ?_) | (with_reducible refine below_drewN ?_ _) | ((with_reducible refine Below.setCell ?_ ?_ _); rotate_left; focus (first | (simp; done) | omega | (simp; omega))) | ((with_reducible refine Below.alloc ?_ ?_ _); rotate_left; focus (first | exact Nat.le_refl _ | omega | (simp; done) | (simp; omega))))))⟩
  · have hk : k = 5 := by omega
    have k3 : (k == 3) = false := by simp; omega
    have k4 : (k == 4) = false := by simp; omega
    have k5 : (k == 5) = true := by simp; omega
    have k6 : (k == 6) = false := by simp; omega
    have k7 : (k == 7) = false := by simp; omega
    have k8 : (k == 8) = false := by simp; omega
    have HV := Lib.hid (show U = mulL (an, ad) (bn, bd) by rw [HU.out, if_neg (by omega), if_neg (by omega), if_neg (by omega), if_neg (by omega), if_pos hk])
    clear HU HZ hk
    obtain ⟨r, hr⟩ : ∃ r, r = mulL (an, ad) (bn, bd) := ⟨_, rfl⟩
    have CC := fun (v : World) => sFracMul an ad bn bd v
    rw [← hr] at CC
    have HVR := Lib.hid (show U = r by rw [HV.out, hr])
    clear hr HV
    have pAq0 : wc.cell? ⟨ga, 0, none⟩ = some (.int .i64 an) := pA.cell 0
    have pAq1 : wc.cell? ⟨ga, 1, none⟩ = some (.int .i64 ad) := pA.cell 1
    have pAz := pA.lt
    have pBq0 : wc.cell? ⟨gb, 0, none⟩ = some (.int .i64 bn) := pB.cell 0
    have pBq1 : wc.cell? ⟨gb, 1, none⟩ = some (.int .i64 bd) := pB.cell 1
    have pBz := pB.lt
    have pRq0 : wc.cell? ⟨w.heap.size + 1, 0, none⟩ = some (.int .i64 0) := pR.cell 0
    have pRq1 : wc.cell? ⟨w.heap.size + 1, 1, none⟩ = some (.int .i64 0) := pR.cell 1
    have pRz := pR.lt
    have pNq0 : wc.cell? ⟨w.heap.size, 0, none⟩ = some (.int .i64 k) := pN.cell 0
    have pNq3 : wc.cell? ⟨w.heap.size, 3, none⟩ = some (.int .i64 z) := pN.cell 3
    have pNz := pN.lt
    have pRf0 := pR.free 0
    have pRf1 := pR.free 1
    go_wp2_with fail
    refine (CC _).mono ?_
    rintro e w3 ⟨rfl, hb3⟩
    clear pAq0 pAq1 pBq0 pBq1 pRq0 pRq1 pAz pBz pRz pNq0 pNq3 pNz pRf0 pRf1
    replace pA := pA.below hb3 pA.lt
    replace pB := pB.below hb3 pB.lt
    replace pN := pN.below hb3 pN.lt
    replace pR := pR.below hb3 pR.lt
    have hB3 := hbc.trans (hb3.mono hbc.size)
    clear hb3 hbc CC
    have pAq0 : w3.cell? ⟨ga, 0, none⟩ = some (.int .i64 an) := pA.cell 0
    have pAq1 : w3.cell? ⟨ga, 1, none⟩ = some (.int .i64 ad) := pA.cell 1
    have pAz := pA.lt
    have pBq0 : w3.cell? ⟨gb, 0, none⟩ = some (.int .i64 bn) := pB.cell 0
    have pBq1 : w3.cell? ⟨gb, 1, none⟩ = some (.int .i64 bd) := pB.cell 1
    have pBz := pB.lt
    have pRq0 : w3.cell? ⟨w.heap.size + 1, 0, none⟩ = some (.int .i64 0) := pR.cell 0
    have pRq1 : w3.cell? ⟨w.heap.size + 1, 1, none⟩ = some (.int .i64 0) := pR.cell 1
    have pRz := pR.lt
    have pNq0 : w3.cell? ⟨w.heap.size, 0, none⟩ = some (.int .i64 k) := pN.cell 0
    have pNq3 : w3.cell? ⟨w.heap.size, 3, none⟩ = some (.int .i64 z) := pN.cell 3
    have pNz := pN.lt
    have pRf0 := pR.free 0
    have pRf1 := pR.free 1
    go_wp2_with fail
    refine bodyPost_ret (v := vOpt r) (by simp [results, Tryz.results38, go_sem, pRq0, pRq1]) rfl ⟨by rw [HVR.out], (by (repeat (first | (with_reducible exact Below.refl _ _) | (with_reducible assumption) | (with_reducible refine Below.drew ?_) | (with_reducible refine below_drewN ?_ _) | ((with_reducible refine Below.setCell ?_ ?_ _); rotate_left; focus (first | (simp; done) | omega | (simp; omega))) | ((with_reducible refine Below.alloc ?_ ?_ _); rotate_left; focus (first | exact Nat.le_refl _ | omega | (simp; done) | (simp; omega))))))⟩
  · have hk : k = 6 := by omega
    have k3 : (k == 3) = false := by simp; omega
    have k4 : (k == 4) = false := by simp; omega
    have k5 : (k == 5) = false := by simp; omega
    have k6 : (k == 6) = true := by simp; omega
    have k7 : (k == 7) = false := by simp; omega
    have k8 : (k == 8) = false := by simp; omega
    have HV := Lib.hid (show U = divL (an, ad) (bn, bd) by rw [HU.out, if_neg (by omega), if_neg (by omega), if_neg (by omega), if_neg (by omega), if_neg (by omega), if_pos hk])
    clear HU HZ hk
    obtain ⟨r, hr⟩ : ∃ r, r = divL (an, ad) (bn, bd) := ⟨_, rfl⟩
    have CC := fun (v : World) => sFracDiv an ad bn bd v
    rw [← hr] at CC
    have HVR := Lib.hid (show U = r by rw [HV.out, hr])
    clear hr HV
    have pAq0 : wc.cell? ⟨ga, 0, none⟩ = some (.int .i64 an) := pA.cell 0
    have pAq1 : wc.cell? ⟨ga, 1, none⟩ = some (.int .i64 ad) := pA.cell 1
    have pAz := pA.lt
    have pBq0 : wc.cell? ⟨gb, 0, none⟩ = some (.int .i64 bn) := pB.cell 0
    have pBq1 : wc.cell? ⟨gb, 1, none⟩ = some (.int .i64 bd) := pB.cell 1
    have pBz := pB.lt
    have pRq0 : wc.cell? ⟨w.heap.size + 1, 0, none⟩ = some (.int .i64 0) := pR.cell 0
    have pRq1 : wc.cell? ⟨w.heap.size + 1, 1, none⟩ = some (.int .i64 0) := pR.cell 1
    have pRz := pR.lt
    have pNq0 : wc.cell? ⟨w.heap.size, 0, none⟩ = some (.int .i64 k) := pN.cell 0
    have pNq3 : wc.cell? ⟨w.heap.size, 3, none⟩ = some (.int .i64 z) := pN.cell 3
    have pNz := pN.lt
    have pRf0 := pR.free 0
    have pRf1 := pR.free 1
    go_wp2_with fail
    refine (CC _).mono ?_
    rintro e w3 ⟨rfl, hb3⟩
    clear pAq0 pAq1 pBq0 pBq1 pRq0 pRq1 pAz pBz pRz pNq0 pNq3 pNz pRf0 pRf1
    replace pA := pA.below hb3 pA.lt
    replace pB := pB.below hb3 pB.lt
    replace pN := pN.below hb3 pN.lt
    replace pR := pR.below hb3 pR.lt
    have hB3 := hbc.trans (hb3.mono hbc.size)
    clear hb3 hbc CC
    have pAq0 : w3.cell? ⟨ga, 0, none⟩ = some (.int .i64 an) := pA.cell 0
    have pAq1 : w3.cell? ⟨ga, 1, none⟩ = some (.int .i64 ad) := pA.cell 1
    have pAz := pA.lt
    have pBq0 : w3.cell? ⟨gb, 0, none⟩ = some (.int .i64 bn) := pB.cell 0
    have pBq1 : w3.cell? ⟨gb, 1, none⟩ = some (.int .i64 bd) := pB.cell 1
    have pBz := pB.lt
    have pRq0 : w3.cell? ⟨w.heap.size + 1, 0, none⟩ = some (.int .i64 0) := pR.cell 0
    have pRq1 : w3.cell? ⟨w.heap.size + 1, 1, none⟩ = some (.int .i64 0) := pR.cell 1
    have pRz := pR.lt
    have pNq0 : w3.cell? ⟨w.heap.size, 0, none⟩ = some (.int .i64 k) := pN.cell 0
    have pNq3 : w3.cell? ⟨w.heap.size, 3, none⟩ = some (.int .i64 z) := pN.cell 3
    have pNz := pN.lt
    have pRf0 := pR.free 0
    have pRf1 := pR.free 1
    go_wp2_with fail
    refine bodyPost_ret (v := vOpt r) (by simp [results, Tryz.results38, go_sem, pRq0, pRq1]) rfl ⟨by rw [HVR.out], (by (repeat (first | (with_reducible exact Below.refl _ _) | (with_reducible assumption) | (with_reducible refine Below.drew ?_) | (with_reducible refine below_drewN ?_ _) | ((with_reducible refine Below.setCell ?_ ?_ _); rotate_left; focus (first | (simp; done) | omega | (simp; omega))) | ((with_reducible refine Below.alloc ?_ ?_ _); rotate_left; focus (first | exact Nat.le_refl _ | omega | (simp; done) | (simp; omega))))))⟩
  · have hk : k = 7 := by omega
    have k3 : (k == 3) = false := by simp; omega
    have k4 : (k == 4) = false := by simp; omega
    have k5 : (k == 5) = false := by simp; omega
    have k6 : (k == 6) = false := by simp; omega
    have k7 : (k == 7) = true := by simp; omega
    have k8 : (k == 8) = false := by simp; omega
    obtain ⟨cv, hcv⟩ : ∃ cv, cv = cmpL (bn, bd) (an, ad) := ⟨_, rfl⟩
    have CC := fun (v : World) => sFracCmp bn bd an ad v
    rw [← hcv] at CC
    obtain ⟨s1, s2, s3⟩ := cmpL_swap gA gB
    rw [← hcv] at s1 s2 s3
    by_cases hc : cv < 0
    · have HV0 : U = some (bn, bd) := by
        rw [HU.out, if_neg (by omega), if_neg (by omega), if_neg (by omega), if_neg (by omega), if_neg (by omega), if_neg (by omega), if_pos hk, if_neg (by intro h; exact s1.1 h hc)]
      have HV := Lib.hid HV0
      clear HV0
      clear HU HZ hk hcv s1 s2 s3
      have pAq0 : wc.cell? ⟨ga, 0, none⟩ = some (.int .i64 an) := pA.cell 0
      have pAq1 : wc.cell? ⟨ga, 1, none⟩ = some (.int .i64 ad) := pA.cell 1
      have pAz := pA.lt
      have pBq0 : wc.cell? ⟨gb, 0, none⟩ = some (.int .i64 bn) := pB.cell 0
      have pBq1 : wc.cell? ⟨gb, 1, none⟩ = some (.int .i64 bd) := pB.cell 1
      have pBz := pB.lt
      have pRq0 : wc.cell? ⟨w.heap.size + 1, 0, none⟩ = some (.int .i64 0) := pR.cell 0
      have pRq1 : wc.cell? ⟨w.heap.size + 1, 1, none⟩ = some (.int .i64 0) := pR.cell 1
      have pRz := pR.lt
      have pNq0 : wc.cell? ⟨w.heap.size, 0, none⟩ = some (.int .i64 k) := pN.cell 0
      have pNq3 : wc.cell? ⟨w.heap.size, 3, none⟩ = some (.int .i64 z) := pN.cell 3
      have pNz := pN.lt
      have pRf0 := pR.free 0
      have pRf1 := pR.free 1
      go_wp2_with fail
      refine (CC _).mono ?_
      rintro e w3 ⟨rfl, hb3⟩
      clear pAq0 pAq1 pBq0 pBq1 pRq0 pRq1 pAz pBz pRz pNq0 pNq3 pNz pRf0 pRf1
      replace pA := pA.below hb3 pA.lt
      replace pB := pB.below hb3 pB.lt
      replace pN := pN.below hb3 pN.lt
      replace pR := pR.below hb3 pR.lt
      have hB3 := hbc.trans (hb3.mono hbc.size)
      clear hb3 hbc CC
      have pAq0 : w3.cell? ⟨ga, 0, none⟩ = some (.int .i64 an) := pA.cell 0
      have pAq1 : w3.cell? ⟨ga, 1, none⟩ = some (.int .i64 ad) := pA.cell 1
      have pAz := pA.lt
      have pBq0 : w3.cell? ⟨gb, 0, none⟩ = some (.int .i64 bn) := pB.cell 0
      have pBq1 : w3.cell? ⟨gb, 1, none⟩ = some (.int .i64 bd) := pB.cell 1
      have pBz := pB.lt
      have pRq0 : w3.cell? ⟨w.heap.size + 1, 0, none⟩ = some (.int .i64 0) := pR.cell 0
      have pRq1 : w3.cell? ⟨w.heap.size + 1, 1, none⟩ = some (.int .i64 0) := pR.cell 1
      have pRz := pR.lt
      have pNq0 : w3.cell? ⟨w.heap.size, 0, none⟩ = some (.int .i64 k) := pN.cell 0
      have pNq3 : w3.cell? ⟨w.heap.size, 3, none⟩ = some (.int .i64 z) := pN.cell 3
      have pNz := pN.lt
      have pRf0 := pR.free 0
      have pRf1 := pR.free 1
      go_wp2_with fail
      refine bodyPost_ret (v := .tuple #[.agg #[.int .i64 ((bn, bd)).1, .int .i64 ((bn, bd)).2], .bool true]) (by simp [results, Tryz.results38, go_sem, pRq0, pRq1]) rfl ⟨by rw [HV.out]; rfl, (by (repeat (first | (with_reducible exact Below.refl _ _) | (with_reducible assumption) | (with_reducible refine Below.drew ?_) | (with_reducible refine below_drewN ?_ _) | ((with_reducible refine Below.setCell ?_ ?_ _); rotate_left; focus (first | (simp; done) | omega | (simp; omega))) | ((with_reducible refine Below.alloc ?_ ?_ _); rotate_left; focus (first | exact Nat.le_refl _ | omega | (simp; done) | (simp; omega))))))⟩
    · have HV0 : U = some (an, ad) := by
        rw [HU.out, if_neg (by omega), if_neg (by omega), if_neg (by omega), if_neg (by omega), if_neg (by omega), if_neg (by omega), if_pos hk, if_pos (by exact s1.2 hc)]
      have HV := Lib.hid HV0
      clear HV0
      clear HU HZ hk hcv s1 s2 s3
      have pAq0 : wc.cell? ⟨ga, 0, none⟩ = some (.int .i64 an) := pA.cell 0
      have pAq1 : wc.cell? ⟨ga, 1, none⟩ = some (.int .i64 ad) := pA.cell 1
      have pAz := pA.lt
      have pBq0 : wc.cell? ⟨gb, 0, none⟩ = some (.int .i64 bn) := pB.cell 0
      have pBq1 : wc.cell? ⟨gb, 1, none⟩ = some (.int .i64 bd) := pB.cell 1
      have pBz := pB.lt
      have pRq0 : wc.cell? ⟨w.heap.size + 1, 0, none⟩ = some (.int .i64 0) := pR.cell 0
      have pRq1 : wc.cell? ⟨w.heap.size + 1, 1, none⟩ = some (.int .i64 0) := pR.cell 1
      have pRz := pR.lt
      have pNq0 : wc.cell? ⟨w.heap.size, 0, none⟩ = some (.int .i64 k) := pN.cell 0
      have pNq3 : wc.cell? ⟨w.heap.size, 3, none⟩ = some (.int .i64 z) := pN.cell 3
      have pNz := pN.lt
      have pRf0 := pR.free 0
      have pRf1 := pR.free 1
      go_wp2_with fail
      refine (CC _).mono ?_
      rintro e w3 ⟨rfl, hb3⟩
      clear pAq0 pAq1 pBq0 pBq1 pRq0 pRq1 pAz pBz pRz pNq0 pNq3 pNz pRf0 pRf1
      replace pA := pA.below hb3 pA.lt
      replace pB := pB.below hb3 pB.lt
      replace pN := pN.below hb3 pN.lt
      replace pR := pR.below hb3 pR.lt
      have hB3 := hbc.trans (hb3.mono hbc.size)
      clear hb3 hbc CC
      have pAq0 : w3.cell? ⟨ga, 0, none⟩ = some (.int .i64 an) := pA.cell 0
      have pAq1 : w3.cell? ⟨ga, 1, none⟩ = some (.int .i64 ad) := pA.cell 1
      have pAz := pA.lt
      have pBq0 : w3.cell? ⟨gb, 0, none⟩ = some (.int .i64 bn) := pB.cell 0
      have pBq1 : w3.cell? ⟨gb, 1, none⟩ = some (.int .i64 bd) := pB.cell 1
      have pBz := pB.lt
      have pRq0 : w3.cell? ⟨w.heap.size + 1, 0, none⟩ = some (.int .i64 0) := pR.cell 0
      have pRq1 : w3.cell? ⟨w.heap.size + 1, 1, none⟩ = some (.int .i64 0) := pR.cell 1
      have pRz := pR.lt
      have pNq0 : w3.cell? ⟨w.heap.size, 0, none⟩ = some (.int .i64 k) := pN.cell 0
      have pNq3 : w3.cell? ⟨w.heap.size, 3, none⟩ = some (.int .i64 z) := pN.cell 3
      have pNz := pN.lt
      have pRf0 := pR.free 0
      have pRf1 := pR.free 1
      go_wp2_with fail
      refine bodyPost_ret (v := .tuple #[.agg #[.int .i64 ((an, ad)).1, .int .i64 ((an, ad)).2], .bool true]) (by simp [results, Tryz.results38, go_sem, pRq0, pRq1]) rfl ⟨by rw [HV.out]; rfl, (by (repeat (first | (with_reducible exact Below.refl _ _) | (with_reducible assumption) | (with_reducible refine Below.drew ?_) | (with_reducible refine below_drewN ?_ _) | ((with_reducible refine Below.setCell ?_ ?_ _); rotate_left; focus (first | (simp; done) | omega | (simp; omega))) | ((with_reducible refine Below.alloc ?_ ?_ _); rotate_left; focus (first | exact Nat.le_refl _ | omega | (simp; done) | (simp; omega))))))⟩
  · have hk : k = 8 := by omega
    have k3 : (k == 3) = false := by simp; omega
    have k4 : (k == 4) = false := by simp; omega
    have k5 : (k == 5) = false := by simp; omega
    have k6 : (k == 6) = false := by simp; omega
    have k7 : (k == 7) = false := by simp; omega
    have k8 : (k == 8) = true := by simp; omega
    obtain ⟨cv, hcv⟩ : ∃ cv, cv = cmpL (bn, bd) (an, ad) := ⟨_, rfl⟩
    have CC := fun (v : World) => sFracCmp bn bd an ad v
    rw [← hcv] at CC
    obtain ⟨s1, s2, s3⟩ := cmpL_swap gA gB
    rw [← hcv] at s1 s2 s3
    by_cases hc : 0 < cv
    · have HV0 : U = some (bn, bd) := by
        rw [HU.out, if_neg (by omega), if_neg (by omega), if_neg (by omega), if_neg (by omega), if_neg (by omega), if_neg (by omega), if_neg (by omega), if_pos hk, if_pos (s2 hc)]
      have HV := Lib.hid HV0
      clear HV0
      clear HU HZ hk hcv s1 s2 s3
      have pAq0 : wc.cell? ⟨ga, 0, none⟩ = some (.int .i64 an) := pA.cell 0
      have pAq1 : wc.cell? ⟨ga, 1, none⟩ = some (.int .i64 ad) := pA.cell 1
      have pAz := pA.lt
      have pBq0 : wc.cell? ⟨gb, 0, none⟩ = some (.int .i64 bn) := pB.cell 0
      have pBq1 : wc.cell? ⟨gb, 1, none⟩ = some (.int .i64 bd) := pB.cell 1
      have pBz := pB.lt
      have pRq0 : wc.cell? ⟨w.heap.size + 1, 0, none⟩ = some (.int .i64 0) := pR.cell 0
      have pRq1 : wc.cell? ⟨w.heap.size + 1, 1, none⟩ = some (.int .i64 0) := pR.cell 1
      have pRz := pR.lt
      have pNq0 : wc.cell? ⟨w.heap.size, 0, none⟩ = some (.int .i64 k) := pN.cell 0
      have pNq3 : wc.cell? ⟨w.heap.size, 3, none⟩ = some (.int .i64 z) := pN.cell 3
      have pNz := pN.lt
      have pRf0 := pR.free 0
      have pRf1 := pR.free 1
      go_wp2_with fail
      refine (CC _).mono ?_
      rintro e w3 ⟨rfl, hb3⟩
      clear pAq0 pAq1 pBq0 pBq1 pRq0 pRq1 pAz pBz pRz pNq0 pNq3 pNz pRf0 pRf1
      replace pA := pA.below hb3 pA.lt
      replace pB := pB.below hb3 pB.lt
      replace pN := pN.below hb3 pN.lt
      replace pR := pR.below hb3 pR.lt
      have hB3 := hbc.trans (hb3.mono hbc.size)
      clear hb3 hbc CC
      have pAq0 : w3.cell? ⟨ga, 0, none⟩ = some (.int .i64 an) := pA.cell 0
      have pAq1 : w3.cell? ⟨ga, 1, none⟩ = some (.int .i64 ad) := pA.cell 1
      have pAz := pA.lt
      have pBq0 : w3.cell? ⟨gb, 0, none⟩ = some (.int .i64 bn) := pB.cell 0
      have pBq1 : w3.cell? ⟨gb, 1, none⟩ = some (.int .i64 bd) := pB.cell 1
      have pBz := pB.lt
      have pRq0 : w3.cell? ⟨w.heap.size + 1, 0, none⟩ = some (.int .i64 0) := pR.cell 0
      have pRq1 : w3.cell? ⟨w.heap.size + 1, 1, none⟩ = some (.int .i64 0) := pR.cell 1
      have pRz := pR.lt
      have pNq0 : w3.cell? ⟨w.heap.size, 0, none⟩ = some (.int .i64 k) := pN.cell 0
      have pNq3 : w3.cell? ⟨w.heap.size, 3, none⟩ = some (.int .i64 z) := pN.cell 3
      have pNz := pN.lt
      have pRf0 := pR.free 0
      have pRf1 := pR.free 1
      go_wp2_with fail
      refine bodyPost_ret (v := .tuple #[.agg #[.int .i64 ((bn, bd)).1, .int .i64 ((bn, bd)).2], .bool true]) (by simp [results, Tryz.results38, go_sem, pRq0, pRq1]) rfl ⟨by rw [HV.out]; rfl, (by (repeat (first | (with_reducible exact Below.refl _ _) | (with_reducible assumption) | (with_reducible refine Below.drew ?_) | (with_reducible refine below_drewN ?_ _) | ((with_reducible refine Below.setCell ?_ ?_ _); rotate_left; focus (first | (simp; done) | omega | (simp; omega))) | ((with_reducible refine Below.alloc ?_ ?_ _); rotate_left; focus (first | exact Nat.le_refl _ | omega | (simp; done) | (simp; omega))))))⟩
    · have HV0 : U = some (an, ad) := by
        rw [HU.out, if_neg (by omega), if_neg (by omega), if_neg (by omega), if_neg (by omega), if_neg (by omega), if_neg (by omega), if_neg (by omega), if_pos hk]
        split
        · rename_i h; rw [s3 hc h]
        · rfl
      have HV := Lib.hid HV0
      clear HV0
      clear HU HZ hk hcv s1 s2 s3
      have pAq0 : wc.cell? ⟨ga, 0, none⟩ = some (.int .i64 an) := pA.cell 0
      have pAq1 : wc.cell? ⟨ga, 1, none⟩ = some (.int .i64 ad) := pA.cell 1
      have pAz := pA.lt
      have pBq0 : wc.cell? ⟨gb, 0, none⟩ = some (.int .i64 bn) := pB.cell 0
      have pBq1 : wc.cell? ⟨gb, 1, none⟩ = some (.int .i64 bd) := pB.cell 1
      have pBz := pB.lt
      have pRq0 : wc.cell? ⟨w.heap.size + 1, 0, none⟩ = some (.int .i64 0) := pR.cell 0
      have pRq1 : wc.cell? ⟨w.heap.size + 1, 1, none⟩ = some (.int .i64 0) := pR.cell 1
      have pRz := pR.lt
      have pNq0 : wc.cell? ⟨w.heap.size, 0, none⟩ = some (.int .i64 k) := pN.cell 0
      have pNq3 : wc.cell? ⟨w.heap.size, 3, none⟩ = some (.int .i64 z) := pN.cell 3
      have pNz := pN.lt
      have pRf0 := pR.free 0
      have pRf1 := pR.free 1
      go_wp2_with fail
      refine (CC _).mono ?_
      rintro e w3 ⟨rfl, hb3⟩
      clear pAq0 pAq1 pBq0 pBq1 pRq0 pRq1 pAz pBz pRz pNq0 pNq3 pNz pRf0 pRf1
      replace pA := pA.below hb3 pA.lt
      replace pB := pB.below hb3 pB.lt
      replace pN := pN.below hb3 pN.lt
      replace pR := pR.below hb3 pR.lt
      have hB3 := hbc.trans (hb3.mono hbc.size)
      clear hb3 hbc CC
      have pAq0 : w3.cell? ⟨ga, 0, none⟩ = some (.int .i64 an) := pA.cell 0
      have pAq1 : w3.cell? ⟨ga, 1, none⟩ = some (.int .i64 ad) := pA.cell 1
      have pAz := pA.lt
      have pBq0 : w3.cell? ⟨gb, 0, none⟩ = some (.int .i64 bn) := pB.cell 0
      have pBq1 : w3.cell? ⟨gb, 1, none⟩ = some (.int .i64 bd) := pB.cell 1
      have pBz := pB.lt
      have pRq0 : w3.cell? ⟨w.heap.size + 1, 0, none⟩ = some (.int .i64 0) := pR.cell 0
      have pRq1 : w3.cell? ⟨w.heap.size + 1, 1, none⟩ = some (.int .i64 0) := pR.cell 1
      have pRz := pR.lt
      have pNq0 : w3.cell? ⟨w.heap.size, 0, none⟩ = some (.int .i64 k) := pN.cell 0
      have pNq3 : w3.cell? ⟨w.heap.size, 3, none⟩ = some (.int .i64 z) := pN.cell 3
      have pNz := pN.lt
      have pRf0 := pR.free 0
      have pRf1 := pR.free 1
      go_wp2_with fail
      refine bodyPost_ret (v := .tuple #[.agg #[.int .i64 ((an, ad)).1, .int .i64 ((an, ad)).2], .bool true]) (by simp [results, Tryz.results38, go_sem, pRq0, pRq1]) rfl ⟨by rw [HV.out]; rfl, (by (repeat (first | (with_reducible exact Below.refl _ _) | (with_reducible assumption) | (with_reducible refine Below.drew ?_) | (with_reducible refine below_drewN ?_ _) | ((with_reducible refine Below.setCell ?_ ?_ _); rotate_left; focus (first | (simp; done) | omega | (simp; omega))) | ((with_reducible refine Below.alloc ?_ ?_ _); rotate_left; focus (first | exact Nat.le_refl _ | omega | (simp; done) | (simp; omega))))))⟩
  · have hk : k = 9 := by omega
    have k3 : (k == 3) = false := by simp; omega
    have k4 : (k == 4) = false := by simp; omega
    have k5 : (k == 5) = false := by simp; omega
    have k6 : (k == 6) = false := by simp; omega
    have k7 : (k == 7) = false := by simp; omega
    have k8 : (k == 8) = false := by simp; omega
    obtain ⟨n3, rfl, h3, hC, c30, c31⟩ := HZ.out hk
    have h3' : (n3 : Int) < m := by omega
    by_cases hc : 0 < an
    · have HV := Lib.hid (show U = some (bn, bd) by rw [HU.out, if_neg (by omega), if_neg (by omega), if_neg (by omega), if_neg (by omega), if_neg (by omega), if_neg (by omega), if_neg (by omega), if_neg (by omega), if_pos hc])
      have d30 : wc.cell? ⟨b, off + n3 * 2, none⟩ = some (.int .i64 cn) := (hbc.cell (p := ⟨b, _, none⟩) hb).trans c30
      have d31 : wc.cell? ⟨b, off + n3 * 2 + 1, none⟩ = some (.int .i64 cd) := (hbc.cell (p := ⟨b, _, none⟩) hb).trans c31
      have hnb : ¬ b = w.heap.size + 1 := by omega
      clear HU HZ hk hC c30 c31
      have pAq0 : wc.cell? ⟨ga, 0, none⟩ = some (.int .i64 an) := pA.cell 0
      have pAq1 : wc.cell? ⟨ga, 1, none⟩ = some (.int .i64 ad) := pA.cell 1
      have pAz := pA.lt
      have pBq0 : wc.cell? ⟨gb, 0, none⟩ = some (.int .i64 bn) := pB.cell 0
      have pBq1 : wc.cell? ⟨gb, 1, none⟩ = some (.int .i64 bd) := pB.cell 1
      have pBz := pB.lt
      have pRq0 : wc.cell? ⟨w.heap.size + 1, 0, none⟩ = some (.int .i64 0) := pR.cell 0
      have pRq1 : wc.cell? ⟨w.heap.size + 1, 1, none⟩ = some (.int .i64 0) := pR.cell 1
      have pRz := pR.lt
      have pNq0 : wc.cell? ⟨w.heap.size, 0, none⟩ = some (.int .i64 k) := pN.cell 0
      have pNq3 : wc.cell? ⟨w.heap.size, 3, none⟩ = some (.int .i64 (n3 : Int)) := pN.cell 3
      have pNz := pN.lt
      have pRf0 := pR.free 0
      have pRf1 := pR.free 1
      go_wp2_with fail
      refine bodyPost_ret (v := .tuple #[.agg #[.int .i64 ((bn, bd)).1, .int .i64 ((bn, bd)).2], .bool true]) (by simp [results, Tryz.results38, go_sem, pRq0, pRq1]) rfl ⟨by rw [HV.out]; rfl, (by (repeat (first | (with_reducible exact Below.refl _ _) | (with_reducible assumption) | (with_reducible refine Below.drew ?_) | (with_reducible refine below_drewN ?_ _) | ((with_reducible refine Below.setCell ?_ ?_ _); rotate_left; focus (first | (simp; done) | omega | (simp; omega))) | ((with_reducible refine Below.alloc ?_ ?_ _); rotate_left; focus (first | exact Nat.le_refl _ | omega | (simp; done) | (simp; omega))))))⟩
    · have HV := Lib.hid (show U = some (cn, cd) by rw [HU.out, if_neg (by omega), if_neg (by omega), if_neg (by omega), if_neg (by omega), if_neg (by omega), if_neg (by omega), if_neg (by omega), if_neg (by omega), if_neg hc]; simp only [Int.toNat_natCast]; rw [hC])
      have d30 : wc.cell? ⟨b, off + n3 * 2, none⟩ = some (.int .i64 cn) := (hbc.cell (p := ⟨b, _, none⟩) hb).trans c30
      have d31 : wc.cell? ⟨b, off + n3 * 2 + 1, none⟩ = some (.int .i64 cd) := (hbc.cell (p := ⟨b, _, none⟩) hb).trans c31
      have hnb : ¬ b = w.heap.size + 1 := by omega
      clear HU HZ hk hC c30 c31
      have pAq0 : wc.cell? ⟨ga, 0, none⟩ = some (.int .i64 an) := pA.cell 0
      have pAq1 : wc.cell? ⟨ga, 1, none⟩ = some (.int .i64 ad) := pA.cell 1
      have pAz := pA.lt
      have pBq0 : wc.cell? ⟨gb, 0, none⟩ = some (.int .i64 bn) := pB.cell 0
      have pBq1 : wc.cell? ⟨gb, 1, none⟩ = some (.int .i64 bd) := pB.cell 1
      have pBz := pB.lt
      have pRq0 : wc.cell? ⟨w.heap.size + 1, 0, none⟩ = some (.int .i64 0) := pR.cell 0
      have pRq1 : wc.cell? ⟨w.heap.size + 1, 1, none⟩ = some (.int .i64 0) := pR.cell 1
      have pRz := pR.lt
      have pNq0 : wc.cell? ⟨w.heap.size, 0, none⟩ = some (.int .i64 k) := pN.cell 0
      have pNq3 : wc.cell? ⟨w.heap.size, 3, none⟩ = some (.int .i64 (n3 : Int)) := pN.cell 3
      have pNz := pN.lt
      have pRf0 := pR.free 0
      have pRf1 := pR.free 1
      go_wp2_with fail
      refine bodyPost_ret (v := .tuple #[.agg #[.int .i64 ((cn, cd)).1, .int .i64 ((cn, cd)).2], .bool true]) (by simp [results, Tryz.results38, go_sem, pRq0, pRq1]) rfl ⟨by rw [HV.out]; rfl, (by (repeat (first | (with_reducible exact Below.refl _ _) | (with_reducible assumption) | (with_reducible refine Below.drew ?_) | (with_reducible refine below_drewN ?_ _) | ((with_reducible refine Below.setCell ?_ ?_ _); rotate_left; focus (first | (simp; done) | omega | (simp; omega))) | ((with_reducible refine Below.alloc ?_ ?_ _); rotate_left; focus (first | exact Nat.le_refl _ | omega | (simp; done) | (simp; omega))))))⟩

theorem sEvalNode (w : World) (s : No) (KA VA : Option Addr) (m kc vc : Nat) (K V : Nat → Fr) (hK : RdFr w w.heap.size KA m K) (hV : RdFr w w.heap.size VA 8 V) (hs : nodeB s (m : Int) = true) (hG : ∀ i, i < m → fracOkL (K i) = true) :
    Calls Tryz.prog 38 #[s.val, .slice KA m kc, .slice VA 8 vc] w fun e w' => e = .returned (vOpt (nodeV s K V)) ∧ Below w.heap.size w w' := by
  obtain ⟨k, x, y, z, p, q⟩ := s
  rcases nodeB_parts hs with ⟨hk, _⟩ | ⟨hk, h1, h2⟩ | ⟨h1, h2, h3, h4, h5, h6⟩ | ⟨hk, h3, h4, h5, h6, h7, h8⟩
  · obtain rfl : k = 1 := hk
    exact sEvalNode1 w x y z p q KA VA m kc vc K V hK hV
  · obtain rfl : k = 2 := hk
    exact sEvalNode2 w x y z p q KA VA m kc vc K V hK hV ⟨h1, h2⟩
  · exact sEvalNodeH w k x y z p q KA VA m kc vc K V hK hV h1 (by have : k ≤ 8 := h2; omega) ⟨h3, h4⟩ ⟨h5, h6⟩ (fun h => by have : k ≤ 8 := h2; omega) hG
  · obtain rfl : k = 9 := hk
    exact sEvalNodeH w 9 x y z p q KA VA m kc vc K V hK hV (by omega) (by omega) ⟨h3, h4⟩ ⟨h5, h6⟩ (fun _ => ⟨h7, h8⟩) hG
end Go.Proofs.YtanpmbiblibgfaaGreatDoor
