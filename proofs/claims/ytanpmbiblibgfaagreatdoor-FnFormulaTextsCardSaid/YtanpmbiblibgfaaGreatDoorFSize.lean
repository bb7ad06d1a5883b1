/- The size of a formula, of the program and of the reference. Conditions: the nodes can be read. -/
import Derived.Test.YtanpmbiblibgfaaGreatDoorFormOk
import Derived.Test.YtanpmbiblibgfaaGreatDoorEvalL
import Derived.Test.YtanpmbiblibgfaaGreatDoorGb
import Derived.Maps.AppendAt
import Derived.BigQuiet
import Derived.RegionTactic
namespace Go.Proofs.YtanpmbiblibgfaaGreatDoor
open Go.RowKit

set_option linter.unusedVariables false
/-- The places of a node's operands. -/
def opL (s : No) : List Int := if s.k = 9 then [s.a, s.b, s.c] else if 3 ≤ s.k ∧ s.k ≤ 8 then [s.a, s.b] else []
theorem opL_low {s : No} (h : s.k ≤ 2) : opL s = [] := by rw [opL, if_neg (by omega), if_neg (by omega)]
theorem opL_two {s : No} (h : 3 ≤ s.k) (h' : s.k ≤ 8) : opL s = [s.a, s.b] := by rw [opL, if_neg (by omega), if_pos ⟨h, h'⟩]
theorem opL_pick {s : No} (h : s.k = 9) : opL s = [s.a, s.b, s.c] := by rw [opL, if_pos h]
theorem opL_len (s : No) : (opL s).length ≤ 3 := by
  rw [opL]
  split
  · simp
  · split <;> simp
/-- Each operand's place lies ahead of the node's. -/
theorem opL_at {s : No} {m : Int} (h : nodeB s m = true) : ∀ j, j < (opL s).length → 0 ≤ (opL s).getD j 0 ∧ (opL s).getD j 0 < m := by
  rcases nodeB_parts h with ⟨h1, -⟩ | ⟨h1, -⟩ | ⟨h1, h2, a0, a1, b0, b1⟩ | ⟨h1, a0, a1, b0, b1, c0, c1⟩
  · rw [opL_low (by omega)]; intro j hj; simp at hj
  · rw [opL_low (by omega)]; intro j hj; simp at hj
  · rw [opL_two h1 h2]
    intro j hj
    match j, hj with
    | 0, _ => exact ⟨a0, a1⟩
    | 1, _ => exact ⟨b0, b1⟩
  · rw [opL_pick h1]
    intro j hj
    match j, hj with
    | 0, _ => exact ⟨a0, a1⟩
    | 1, _ => exact ⟨b0, b1⟩
    | 2, _ => exact ⟨c0, c1⟩
def m25 (a : Int) : Int := if 25 < a then 25 else a
/-- The size of a node whose operands have the sizes S. -/
def szV (s : No) (S : Nat → Int) : Int := m25 (if s.k = 9 then 1 + S s.a.toNat + S s.b.toNat + S s.c.toNat else if 3 ≤ s.k ∧ s.k ≤ 8 then 1 + S s.a.toNat + S s.b.toNat else 1)
/-- The sum over the first j operands O. -/
def szAcc (O : Nat → Int) (S : Nat → Int) : Nat → Int
  | 0 => 1
  | j + 1 => m25 (szAcc O S j + S (O j).toNat)
def szF (N : Nat → No) : Nat → List Int
  | 0 => []
  | k + 1 => szF N k ++ [szV (N k) (fun i => (szF N k).getD i 0)]
def szL (n : Nat) (N : Nat → No) : Int := if formB n N = true then (szF N n).getD (n - 1) 0 else 0
theorem m25_bd {a : Int} (h : 1 ≤ a) : 1 ≤ m25 a ∧ m25 a ≤ 25 := by rw [m25]; split <;> omega
theorem szAcc_bd {O S : Nat → Int} (h : ∀ i, 0 ≤ S i ∧ S i ≤ 25) : ∀ j, 1 ≤ szAcc O S j ∧ szAcc O S j ≤ 25
  | 0 => ⟨Int.le_refl _, by rw [szAcc]; omega⟩
  | j + 1 => by
    have := szAcc_bd h j (O := O)
    have := h (O j).toNat
    rw [szAcc]
    exact m25_bd (by omega)
theorem szAcc_all {s : No} {S : Nat → Int} (h : ∀ i, 0 ≤ S i ∧ S i ≤ 25) : szAcc (fun j => (opL s).getD j 0) S (opL s).length = szV s S := by
  have ha := h s.a.toNat
  have hb := h s.b.toNat
  have hc := h s.c.toNat
  by_cases h9 : s.k = 9
  · rw [opL_pick h9, szV, if_pos h9]
    show m25 (m25 (m25 (1 + S s.a.toNat) + S s.b.toNat) + S s.c.toNat) = _
    simp only [m25]
    repeat' split
    all_goals omega
  · by_cases h2 : 3 ≤ s.k ∧ s.k ≤ 8
    · rw [opL_two h2.1 h2.2, szV, if_neg h9, if_pos h2]
      show m25 (m25 (1 + S s.a.toNat) + S s.b.toNat) = _
      simp only [m25]
      repeat' split
      all_goals omega
    · rw [szV, if_neg h9, if_neg h2, opL, if_neg h9, if_neg h2]
      rfl
theorem szF_len (N : Nat → No) : ∀ k, (szF N k).length = k
  | 0 => rfl
  | k + 1 => by rw [szF, List.length_append, szF_len N k]; rfl
theorem szF_bd (N : Nat → No) : ∀ k i, 0 ≤ (szF N k).getD i 0 ∧ (szF N k).getD i 0 ≤ 25
  | 0, i => by simp [szF]
  | k + 1, i => by
    have ih := szF_bd N k
    rw [szF, List.getD_eq_getElem?_getD]
    rcases Nat.lt_or_ge i (szF N k).length with hl | hl
    · rw [List.getElem?_append_left hl, ← List.getD_eq_getElem?_getD]; exact ih i
    · rw [List.getElem?_append_right hl]
      by_cases e : i - (szF N k).length = 0
      · rw [e, ← szAcc_all ih]
        have := szAcc_bd ih (opL (N k)).length (O := fun j => (opL (N k)).getD j 0)
        show 0 ≤ szAcc _ _ _ ∧ szAcc _ _ _ ≤ 25
        omega
      · rw [List.getElem?_eq_none (by simp; omega)]; simp
theorem szF_last (N : Nat → No) (k : Nat) : szF N (k + 1) = szF N k ++ [szV (N k) (fun i => (szF N k).getD i 0)] := rfl
theorem RdI.cell {w : World} {B n b off : Nat} {z : Nat → Int} (h : RdI w B (some ⟨b, off, none⟩) n z) (i : Nat) (hi : i < n) : b < B ∧ w.cell? ⟨b, off + i, none⟩ = some (.int .i64 (z i)) := by
  obtain ⟨b', off', e, hb, hc⟩ := h.2 i hi
  injection e with e
  injection e with e1 e2
  subst e1 e2
  exact ⟨hb, hc⟩
theorem fs_block_base {w : World} {base e size m : Nat} {v : Value} {xs : List Value} (h : w.ownsRow base e size v m xs) : ∀ k, v.ownBlock = some k → base ≤ k := fun k hk => (h.lt k hk).1
theorem fs_drew {w : World} {base size n : Nat} {e : TypeId} {v : Value} {xs : List Value} (h : w.ownsRow base e size v n xs) : w.drew.ownsRow base e size v n xs := h
/-- An own slice of the numbers xs. -/
def OwnZ (w : World) (xs : List Int) (e : Ending) (w' : World) : Prop := ∃ (B : Option Addr) (cc : Nat), e = .returned (.slice B xs.length cc) ∧ w'.ownsRow w.heap.size 3 1 (.slice B xs.length cc) xs.length (xs.map (Value.int .i64)) ∧ Below w.heap.size w w'
theorem OwnZ.mk {w w' : World} {xs : List Int} {v : Value} (h : w'.ownsRow w.heap.size 3 1 v xs.length (xs.map (Value.int .i64))) (hb : Below w.heap.size w w') : OwnZ w xs (.returned v) w' := by
  obtain ⟨B, cc, rfl⟩ := (OwR.of_own h).form
  exact ⟨B, cc, rfl, h, hb⟩
theorem wpList_min2 {P : Program} {ops : Array Oper} {rest : List Oper} {o : Oper} {a : Act} {w : World} {Q : Exit → Act → World → Prop} (hg : o.guard = none) (x y : Operand) (ts : Array TypeId) (hop : o.op = Op.call { callee := Callee.builtin Builtin.min, args := #[x, y], argTypes := ts })
    (k : IntKind) (i j z : Int) (hx : a.eval x = .int k i) (hy : a.eval y = .int k j) (hz : (if j < i then j else i) = z) (hK : wpList P ops Q rest (a.put o.dst (.int k z)) w) :
    wpList P ops Q (o :: rest) a w := by
  refine wpList_plain hg fun K' hK' => ?_
  unfold Oper.wp
  simp [execOp, hop, resolve, invoke, builtin, hx, hy, run_min_int2, hz, Result.andThen]
  exact hK' _ _ hK
/-- The operands' slice. -/
def OpR (w : World) (xs : List Int) (e : Ending) (w' : World) : Prop := ∃ (B : Option Addr) (cc : Nat), e = .returned (.slice B xs.length cc) ∧ RdI w' w'.heap.size B xs.length (fun j => xs.getD j 0) ∧ Below w.heap.size w w'
set_option maxHeartbeats 800000 in
theorem iOperands9 (k x y z p q : Int) (hk : k = 9) (w : World) :
    Calls Tryz.prog 16 #[.agg #[.int .i64 k, .int .i64 x, .int .i64 y, .int .i64 z, .int .i64 p, .int .i64 q]] w (OpR w [x, y, z]) := by
  subst hk
  go_enter Tryz.func16, Tryz.ntmps16
  go_wp2_with fail
  refine bodyPost_ret (v := .slice (some ⟨w.heap.size + 1, 0, none⟩) 3 3) (by simp [results, Tryz.results16, go_sem]) rfl ⟨_, _, rfl, ⟨by simp, fun i hi => ⟨_, 0, rfl, by simp, ?_⟩⟩, (by (repeat (first | (with_reducible exact Below.refl _ _) | (with_reducible assumption) | (with_reducible refine Below.drew ?_) | (with_reducible refine below_drewN ?_ _) | ((with_reducible refine Below.setCell ?_ ?_ _); rotate_left; focus (first | (simp; done) | omega | (simp; omega))) | ((with_reducible refine Below.alloc ?_ ?_ _); rotate_left; focus (first | exact Nat.le_refl _ | omega | (simp; done) | (simp; omega))))))⟩
  match i, hi with
  | 0, _ => simp [go_sem]
  | 1, _ => simp [go_sem]
  | 2, _ => simp [go_sem]

set_option maxHeartbeats 800000 in
theorem iOperands2 (k x y z p q : Int) (hk : 3 ≤ k ∧ k ≤ 8) (w : World) :
    Calls Tryz.prog 16 #[.agg #[.int .i64 k, .int .i64 x, .int .i64 y, .int .i64 z, .int .i64 p, .int .i64 q]] w (OpR w [x, y]) := by
  have k9 : (k == 9) = false := by simp; omega
  have ki : inB k 3 8 = true := by rw [inB_iff]; exact hk
  go_enter Tryz.func16, Tryz.ntmps16
  go_wp2_with (go_at_call 30; refine (within_any _ _ _ _).mono ?_; rintro e w' ⟨rfl, rfl⟩)
  refine bodyPost_ret (v := .slice (some ⟨w.heap.size + 1, 0, none⟩) 2 2) (by simp [results, Tryz.results16, go_sem]) rfl ⟨_, _, rfl, ⟨by simp, fun i hi => ⟨_, 0, rfl, by simp, ?_⟩⟩, (by (repeat (first | (with_reducible exact Below.refl _ _) | (with_reducible assumption) | (with_reducible refine Below.drew ?_) | (with_reducible refine below_drewN ?_ _) | ((with_reducible refine Below.setCell ?_ ?_ _); rotate_left; focus (first | (simp; done) | omega | (simp; omega))) | ((with_reducible refine Below.alloc ?_ ?_ _); rotate_left; focus (first | exact Nat.le_refl _ | omega | (simp; done) | (simp; omega))))))⟩
  match i, hi with
  | 0, _ => simp [go_sem]
  | 1, _ => simp [go_sem]

set_option maxHeartbeats 800000 in
theorem iOperands0 (k x y z p q : Int) (hk : k < 3 ∨ 9 < k) (w : World) :
    Calls Tryz.prog 16 #[.agg #[.int .i64 k, .int .i64 x, .int .i64 y, .int .i64 z, .int .i64 p, .int .i64 q]] w (OpR w []) := by
  have k9 : (k == 9) = false := by simp; omega
  have ki : inB k 3 8 = false := by simp [inB]; omega
  go_enter Tryz.func16, Tryz.ntmps16
  go_wp2_with (go_at_call 30; refine (within_any _ _ _ _).mono ?_; rintro e w' ⟨rfl, rfl⟩)
  refine bodyPost_ret (v := .slice none 0 0) (by simp [results, Tryz.results16, go_sem]) rfl ⟨_, _, rfl, ⟨by simp, fun i hi => by simp at hi⟩, (by (repeat (first | (with_reducible exact Below.refl _ _) | (with_reducible assumption) | (with_reducible refine Below.drew ?_) | (with_reducible refine below_drewN ?_ _) | ((with_reducible refine Below.setCell ?_ ?_ _); rotate_left; focus (first | (simp; done) | omega | (simp; omega))) | ((with_reducible refine Below.alloc ?_ ?_ _); rotate_left; focus (first | exact Nat.le_refl _ | omega | (simp; done) | (simp; omega))))))⟩

theorem iOperands (s : No) (w : World) : Calls Tryz.prog 16 #[s.val] w (OpR w (opL s)) := by
  obtain ⟨k, x, y, z, p, q⟩ := s
  by_cases h9 : k = 9
  · rw [opL_pick h9]; exact iOperands9 k x y z p q h9 w
  · by_cases h2 : 3 ≤ k ∧ k ≤ 8
    · rw [opL_two h2.1 h2.2]; exact iOperands2 k x y z p q h2 w
    · have e : opL ⟨k, x, y, z, p, q⟩ = [] := by rw [opL, if_neg h9, if_neg h2]
      rw [e]
      exact iOperands0 k x y z p q (by omega) w

set_option maxRecDepth 8000 in
set_option maxHeartbeats 3200000 in
theorem iFormulaSize (w : World) (A : Option Addr) (n c : Nat) (N : Nat → No) (hN : RdNo w w.heap.size A n N) (hn : n ≤ 1099511627776) :
    Calls Tryz.prog 7 #[.slice A n c] w fun e w' => e = .returned (.int .i64 (szL n N)) ∧ Below w.heap.size w w' := by
  have hn1 := hN.1
  obtain ⟨i0, hi, hz0, hz1, hz2⟩ := info_parts int_inf
  have FO := fun (v : World) (hv : RdNo v v.heap.size A n N) => iFormulaOk v A n c N hv hn
  cases t1 : formB n N
  · have e0 : szL n N = 0 := by rw [szL, if_neg (by simp [t1])]
    rw [e0]
    rw [t1] at FO
    go_enter Tryz.func7, Tryz.ntmps7
    go_wp2_with fail
    refine (FO _ hN).mono ?_
    rintro e w1 ⟨rfl, hb1⟩
    go_wp2_with fail
    go_ret
    exact ⟨rfl, hb1⟩
  · skip
    have e0 : szL n N = (szF N n).getD (n - 1) 0 := by rw [szL, if_pos t1]
    rw [e0]
    clear e0
    have HNB := Lib.hid (formB_at t1)
    have hn30 := formB_len t1
    rw [t1] at FO
    obtain ⟨Z, hZ⟩ : ∃ Z, Z = szF N := ⟨_, rfl⟩
    have HS := Lib.hid (show ∀ k, Z (k + 1) = Z k ++ [szV (N k) (fun i => (Z k).getD i 0)] by rw [hZ]; exact szF_last N)
    have HL := Lib.hid (show ∀ k, (Z k).length = k by rw [hZ]; exact szF_len N)
    have HB := Lib.hid (show ∀ k i, 0 ≤ (Z k).getD i 0 ∧ (Z k).getD i 0 ≤ 25 by rw [hZ]; exact szF_bd N)
    have HZ0 := Lib.hid (show Z 0 = [] by rw [hZ]; rfl)
    rw [← hZ]
    clear hZ t1
    go_enter Tryz.func7, Tryz.ntmps7
    go_wp2_with fail
    refine (FO _ hN).mono ?_
    rintro e w1 ⟨rfl, hb1⟩
    clear FO
    go_wp2_with fail
    go_loopw [3, 15] (fun v i wr => ∃ (k : Nat) (xs : List Int), k ≤ n ∧ i = .int .i64 k ∧ Hid (xs = Z k) ∧ wr.ownsRow w.heap.size 3 1 v k (xs.map (Value.int .i64)) ∧ Below w.heap.size w wr) (fun _ i _ => n - (intOf i).toNat)
    case atStart => exact ⟨0, [], Nat.zero_le _, rfl, Lib.hid HZ0.out.symm, own_empty _ _ _ _ hb1.size, hb1.alloc hb1.size _⟩
    case round =>
      clear hb1
      obtain ⟨k, xs, hk, rfl, HX, hown, hbr⟩ := hrel
      have hs1 := hbr.size
      have hxl : Hid (xs.length = k) := Lib.hid (by rw [HX.out, HL.out])
      obtain ⟨B, cc, rfl⟩ := (OwR.of_own hown).form
      obtain ⟨X, hX⟩ : ∃ X : Nat → Int, X = fun i => xs.getD i 0 := ⟨_, rfl⟩
      have hKr : RdI wr wr.heap.size B k X := by rw [hX]; have h := hown; rw [← hxl.out] at h ⊢; exact RdI.own h (by have := hxl.out; omega)
      have HXB := Lib.hid (show ∀ i, 0 ≤ X i ∧ X i ≤ 25 by rw [hX, HX.out]; exact HB.out k)
      have HXX := Lib.hid hX
      clear hX
      obtain ⟨wo, hwo⟩ : ∃ wo, wo = wr := ⟨_, rfl⟩
      rw [← hwo] at hown hbr hs1 hKr ⊢
      clear hwo
      by_cases hlt : k < n
      · obtain ⟨b, off, rfl, hbB, g0, g1, g2, g3, g4, g5⟩ := (hN.below hbr).2 k hlt
        have hlt2 : (k : Int) < n := by omega
        have hbb : Below wo.heap.size wo (wo.alloc (.cells #[.int .i64 (N k).k, .int .i64 (N k).a, .int .i64 (N k).b, .int .i64 (N k).c, .int .i64 (N k).p, .int .i64 (N k).q] 46)) := (by (repeat (first | (with_reducible exact Below.refl _ _) | (with_reducible assumption) | (with_reducible refine Below.drew ?_) | (with_reducible refine below_drewN ?_ _) | ((with_reducible refine Below.setCell ?_ ?_ _); rotate_left; focus (first | (simp; done) | omega | (simp; omega))) | ((with_reducible refine Below.alloc ?_ ?_ _); rotate_left; focus (first | exact Nat.le_refl _ | omega | (simp; done) | (simp; omega))))))
        have hnb2 : ¬ b = wo.heap.size := by omega
        obtain ⟨O, hO⟩ : ∃ O : List Int, O = opL (N k) := ⟨_, rfl⟩
        have OC := fun (v : World) => iOperands (N k) v
        rw [← hO] at OC
        have HOA := Lib.hid (show ∀ j, j < O.length → 0 ≤ O.getD j 0 ∧ O.getD j 0 < (k : Int) by rw [hO]; exact opL_at (HNB.out k hlt))
        have HOL : O.length ≤ 3 := by rw [hO]; exact opL_len _
        have HSV := Lib.hid (show szAcc (fun j => O.getD j 0) X O.length = szV (N k) X by rw [hO]; exact szAcc_all HXB.out)
        clear hO
        obtain ⟨ol, hol⟩ : ∃ ol, ol = O.length := ⟨_, rfl⟩
        obtain ⟨OF, hOF⟩ : ∃ OF : Nat → Int, OF = fun j => O.getD j 0 := ⟨_, rfl⟩
        have OC2 : ∀ v : World, Calls Tryz.prog 16 #[(N k).val] v fun e w' => ∃ (B : Option Addr) (cc : Nat), e = .returned (.slice B ol cc) ∧ RdI w' w'.heap.size B ol OF ∧ Below v.heap.size v w' := by rw [hol, hOF]; exact OC
        have HOA2 := Lib.hid (show ∀ j, j < ol → 0 ≤ OF j ∧ OF j < (k : Int) by rw [hol, hOF]; exact HOA.out)
        have HSV2 := Lib.hid (show szAcc OF X ol = szV (N k) X by rw [hol, hOF]; exact HSV.out)
        rw [← hol] at HOL
        clear OC HOA HSV hol hOF
        have HAB := Lib.hid (szAcc_bd HXB.out (O := OF))
        have HAS := Lib.hid (show ∀ j, szAcc OF X (j + 1) = m25 (szAcc OF X j + X (OF j).toNat) from fun _ => rfl)
        obtain ⟨ac, hac⟩ : ∃ ac, ac = szAcc OF X := ⟨_, rfl⟩
        have HA0 := Lib.hid (show ac 0 = 1 by rw [hac]; rfl)
        rw [← hac] at HAB HAS HSV2
        clear hac
        go_wp2_with fail
        refine (OC2 _).mono ?_
        rintro e w3 ⟨OB, oc, rfl, hOr, hb3⟩
        have hb4 := hbb.trans (hb3.mono hbb.size)
        have hB3 := hbr.trans (hb4.mono hs1)
        have hs3 := hb4.size
        replace hown := hown.kept (grown_of_below hb4 none) (Classical.em _)
        replace hKr := (hKr.below hb4).more hs3
        clear hb3 hb4 hbb OC2 g0 g1 g2 g3 g4 g5 hbB hnb2
        skip
        go_wp2_with fail
        go_loopw [6, 22] (fun v i wq => ∃ j : Nat, j ≤ ol ∧ i = .int .i64 j ∧ v = .int .i64 (ac j) ∧ wq = w3) (fun _ i _ => ol - (intOf i).toNat)
        case atStart => exact ⟨0, Nat.zero_le _, rfl, by rw [HA0.out], rfl⟩
        case round =>
          obtain ⟨j, hj, rfl, rfl, rfl⟩ := hrel
          by_cases hjl : j < ol
          · obtain ⟨ob, ooff, rfl, hob, go⟩ := hOr.2 j hjl
            have hjl2 : (j : Int) < ol := by omega
            obtain ⟨p, hp⟩ := Int.eq_ofNat_of_zero_le (HOA2.out j hjl).1
            have hpk : p < k := by have := (HOA2.out j hjl).2; omega
            have hpk2 : (p : Int) < k := by omega
            obtain ⟨sb, soff, rfl, hsb, gs⟩ := hKr.2 p hpk
            rw [hp] at go
            have hab := HAB.out j
            have hxb := HXB.out p
            have has := HAS.out j
            rw [hp, Int.toNat_natCast] at has
            clear hp
            obtain ⟨xv, hxv⟩ : ∃ xv, xv = X p := ⟨_, rfl⟩
            rw [← hxv] at gs hxb has
            clear hxv
            obtain ⟨av, hav⟩ : ∃ av, av = ac j := ⟨_, rfl⟩
            rw [← hav] at hab has ⊢
            clear hav
            have wk : IntKind.i64.wrap (av + xv) = av + xv := IntWalk.i64_in _ ⟨by omega, by omega⟩
            by_cases h25 : 25 < av + xv
            · rw [m25, if_pos h25] at has
              have HAS2 := Lib.hid has
              clear has
              go_wp2_with fail
              go_roundw
              case rel => exact ⟨j + 1, by omega, by go_num, by rw [HAS2.out], trivial⟩
              case measure => simp [intOf]; omega
            · rw [m25, if_neg h25] at has
              have HAS2 := Lib.hid has
              clear has
              go_wp2_with fail
              go_roundw
              case rel => exact ⟨j + 1, by omega, by go_num, by rw [HAS2.out], trivial⟩
              case measure => simp [intOf]; omega
          · obtain rfl : j = ol := by omega
            rw [HSV2.out]
            obtain ⟨sv, hsv⟩ : ∃ sv, sv = szV (N k) X := ⟨_, rfl⟩
            have HK := Lib.hid (show Z (k + 1) = xs ++ [sv] by rw [HS.out, hsv, HXX.out, HX.out])
            rw [← hsv]
            clear hsv
            go_wp2_with (at_builtin; refine wpList_append_own_at _ rfl _ _ 44 rfl w.heap.size 3 i0 (.int .i64 0) 1 8 Tryz.underlying44 hi hz0 hz1 hz2 rfl (by decide) _ _ _ rfl (hown.alloc _) ⟨wr.heap.size, 0, none⟩ 1 1 [.int .i64 sv] rfl rfl ?c1 ?c2 ?c3 ?c4 ?c5 ?_)
            case c1 =>
              intro j u hj
              match j, hj with
              | 0, hj => simp at hj; subst hj; simp [Addr.add]
            case c2 => intro u hu; simp at hu; subst hu; rfl
            case c3 => unfold maxLen; omega
            case c4 => omega
            case c5 => simp; omega
            intro v' w5 hown5 hg5 _ hat5
            have hB5 := (hB3.alloc (by omega) (.cells #[.int .i64 sv] 3)).grown hg5 (by simp; omega) (fs_block_base hown)
            go_wp2
            go_roundw
            case rel =>
              refine ⟨k + 1, xs ++ [sv], by omega, by go_num, Lib.hid HK.out.symm, ?_, hB5⟩
              rw [List.map_append]
              exact hown5
            case measure => simp [intOf]; omega
      · obtain rfl : k = n := by omega
        obtain ⟨p, rfl⟩ : ∃ p, k = p + 1 := ⟨k - 1, by omega⟩
        obtain ⟨sb, soff, rfl, hsb, gs⟩ := hKr.2 p (by omega)
        have HF := Lib.hid (show (Z (p + 1)).getD (p + 1 - 1) 0 = X p by rw [HXX.out, HX.out]; rfl)
        have e1 : IntKind.i64.wrap ((p : Int) + 1 - 1) = p := by rw [show (p : Int) + 1 - 1 = p by omega]; exact IntWalk.i64_in _ ⟨by omega, by omega⟩
        go_wp2_with fail
        go_ret
        rw [HF.out]
        exact ⟨rfl, hbr⟩


end Go.Proofs.YtanpmbiblibgfaaGreatDoor
