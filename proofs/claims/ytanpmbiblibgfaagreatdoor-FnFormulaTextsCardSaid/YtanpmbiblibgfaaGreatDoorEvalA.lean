/- All values of a formula, of the program and of the reference. Conditions: nodes and variables can be read. -/
import Derived.Test.YtanpmbiblibgfaaGreatDoorEvalN
import Derived.Test.YtanpmbiblibgfaaGreatDoorEvalS
import Derived.Maps.AppendAt
namespace Go.Proofs.YtanpmbiblibgfaaGreatDoor
open Go.RowKit

set_option linter.unusedVariables false
theorem fr_cells_new (w : World) (xs : List Value) (t : TypeId) : ∀ j u, xs[j]? = some u → (w.alloc (.cells xs.toArray t)).cell? ((⟨w.heap.size, 0, none⟩ : Addr).add j) = some u := by
  intro j u hj
  have ha : Addr.add ⟨w.heap.size, 0, none⟩ j = ⟨w.heap.size, j, none⟩ := by unfold Addr.add; split <;> simp_all
  rw [ha, (Whole.new w t xs.toArray).cell j, List.getElem?_toArray, hj]
theorem updK_list (xs : List Fr) (x : Fr) : updK (fun i => xs.getD i Fr.zero) xs.length x = fun i => (xs ++ [x]).getD i Fr.zero := by
  funext i
  rw [updK]
  split
  · rename_i h
    subst h
    rw [List.getD_eq_getElem?_getD, List.getElem?_append_right (Nat.le_refl _)]
    simp
  · rename_i h
    rw [List.getD_eq_getElem?_getD, List.getD_eq_getElem?_getD]
    rcases Nat.lt_or_ge i xs.length with hl | hl
    · rw [List.getElem?_append_left hl]
    · rw [List.getElem?_eq_none hl, List.getElem?_eq_none (by simp; omega)]
theorem ev_block_base {w : World} {base e size m : Nat} {v : Value} {xs : List Value} (h : w.ownsRow base e size v m xs) : ∀ k, v.ownBlock = some k → base ≤ k := fun k hk => (h.lt k hk).1
def evN (r : Option (Nat → Fr)) (n : Nat) : Nat := if r.isSome = true then n else 0
def evK (r : Option (Nat → Fr)) : Nat → Fr := r.getD fun _ => (0, 0)
/-- An own slice of the values, and whether there are any. -/
def OwnV (w : World) (r : Option (Nat → Fr)) (n : Nat) (e : Ending) (w' : World) : Prop :=
  ∃ (B : Option Addr) (cc : Nat), e = .returned (.tuple #[.slice B (evN r n) cc, .bool r.isSome]) ∧ OwR w' w.heap.size 33 2 (.slice B (evN r n) cc) (evN r n) (frAt (evK r)) ∧ Below w.heap.size w w'
theorem OwnV.no {w w' : World} {n : Nat} {v : Value} (h : OwR w' w.heap.size 33 2 v 0 (frAt fun _ => (0, 0))) (hb : Below w.heap.size w w') : OwnV w none n (.returned (.tuple #[v, .bool false])) w' := by
  obtain ⟨B, cc, rfl⟩ := h.form
  exact ⟨B, cc, rfl, h, hb⟩
theorem OwnV.yes {w w' : World} {n : Nat} {v : Value} {K : Nat → Fr} (h : OwR w' w.heap.size 33 2 v n (frAt K)) (hb : Below w.heap.size w w') : OwnV w (some K) n (.returned (.tuple #[v, .bool true])) w' := by
  obtain ⟨B, cc, rfl⟩ := h.form
  exact ⟨B, cc, rfl, h, hb⟩

set_option maxHeartbeats 800000 in
theorem sVars (w : World) (A : Option Addr) (m c : Nat) (V : Nat → Fr) (h : RdFr w w.heap.size A m V) :
    Calls Tryz.prog 37 #[.slice A m c] w fun e w' => e = .returned (.bool (varsB V m)) ∧ Below w.heap.size w w' := by
  have hn := h.1
  go_enter Tryz.func37, Tryz.ntmps37
  go_wp2_with fail
  go_loopw [3] (fun i wr => ∃ k : Nat, k ≤ m ∧ i = .int .i64 k ∧ Hid (allUp (fun i => fracOkL (V i)) k = true) ∧ Below w.heap.size w wr) (fun i _ => m - (intOf i).toNat)
  case atStart => exact ⟨0, Nat.zero_le _, rfl, Lib.hid rfl, Below.refl _ _⟩
  case round =>
    obtain ⟨k, hk, rfl, HK, hbr⟩ := hrel
    have hs1 := hbr.size
    by_cases hlt : k < m
    · obtain ⟨b, off, rfl, hbB, c0, c1⟩ := (h.below hbr).2 k hlt
      have hlt2 : (k : Int) < m := by omega
      have CC := fun (v : World) => sFracOk (V k).1 (V k).2 v
      cases hq : fracOkL ((V k).1, (V k).2)
      · simp only [hq] at CC
        have HF := Lib.hid (show varsB V m = false by rw [varsB, allUp_no (P := fun i => fracOkL (V i)) hlt hq]; rfl)
        clear hq h
        go_wp2_with fail
        refine (CC _).mono ?_
        rintro e w1 ⟨rfl, hb1⟩
        go_wp2_with fail
        go_ret
        exact ⟨ret_bool HF.out.symm, hbr.trans (hb1.mono hs1)⟩
      · simp only [hq] at CC
        have HF := Lib.hid (show allUp (fun i => fracOkL (V i)) (k + 1) = true by rw [allUp, HK.out]; exact hq)
        clear hq HK
        go_wp2_with fail
        refine (CC _).mono ?_
        rintro e w1 ⟨rfl, hb1⟩
        go_wp2_with fail
        go_roundw
        case rel => exact ⟨k + 1, by omega, by go_num, HF, hbr.trans (hb1.mono hs1)⟩
        case measure => simp [intOf]; omega
    · obtain rfl : k = m := by omega
      by_cases h8 : k = 8
      · have HF := Lib.hid (show varsB V k = true by rw [varsB, HK.out, h8]; rfl)
        have h9 : ((k : Int) == 8) = true := by simp; omega
        clear h8
        go_wp2_with fail
        go_ret
        exact ⟨ret_bool HF.out.symm, hbr⟩
      · have HF := Lib.hid (show varsB V k = false by rw [varsB, HK.out]; simp [inB]; omega)
        have h9 : ((k : Int) == 8) = false := by simp; omega
        clear h8
        go_wp2_with fail
        go_ret
        exact ⟨ret_bool HF.out.symm, hbr⟩


set_option maxRecDepth 8000 in
set_option maxHeartbeats 6400000 in
theorem sEvalAll (w : World) (A VA : Option Addr) (n c m vc : Nat) (N : Nat → No) (V : Nat → Fr) (hN : RdNo w w.heap.size A n N) (hV : RdFr w w.heap.size VA m V) (hn : n ≤ 1099511627776) :
    Calls Tryz.prog 19 #[.slice A n c, .slice VA m vc] w (OwnV w (evAll n m N V) n) := by
  have hn1 := hN.1
  have hm1 := hV.1
  obtain ⟨i0, hi, hz0, hz1, hz2⟩ := info_parts fr_inf
  have hbx : Below w.heap.size w (w.alloc (.cells #[] 33)) := (by (repeat (first | (with_reducible exact Below.refl _ _) | (with_reducible assumption) | (with_reducible refine Below.drew ?_) | (with_reducible refine below_drewN ?_ _) | ((with_reducible refine Below.setCell ?_ ?_ _); rotate_left; focus (first | (simp; done) | omega | (simp; omega))) | ((with_reducible refine Below.alloc ?_ ?_ _); rotate_left; focus (first | exact Nat.le_refl _ | omega | (simp; done) | (simp; omega))))))
  have FO := fun (v : World) (hv : RdNo v v.heap.size A n N) => sFormulaOk v A n c N hv hn
  cases t1 : formB n N
  · have e0 : evAll n m N V = none := by rw [evAll, if_neg (by simp [varsB, t1])]
    rw [e0]
    clear e0
    have hE := own_empty w w.heap.size 33 2 (Nat.le_refl _)
    rw [t1] at FO
    go_enter Tryz.func19, Tryz.ntmps19
    go_wp2_with fail
    refine (FO _ ((hN.below hbx).more hbx.size)).mono ?_
    rintro e w1 ⟨rfl, hb1⟩
    replace hE := hE.kept (grown_of_below hb1 none) (Classical.em _)
    have hB1 := hbx.trans (hb1.mono hbx.size)
    go_wp2_with fail
    go_ret2
    exact OwnV.no ((OwR.of_own hE).congr fun j hj => by omega) hB1
  · skip
    have VC := fun (v : World) (hv : RdFr v v.heap.size VA m V) => sVars v VA m vc V hv
    cases t2 : varsB V m
    · have e0 : evAll n m N V = none := by rw [evAll, if_neg (by simp [t2])]
      rw [e0]
      clear e0
      rw [t2] at VC
      have hE := own_empty w w.heap.size 33 2 (Nat.le_refl _)
      rw [t1] at FO
      go_enter Tryz.func19, Tryz.ntmps19
      go_wp2_with fail
      refine (FO _ ((hN.below hbx).more hbx.size)).mono ?_
      rintro e w1 ⟨rfl, hb1⟩
      replace hE := hE.kept (grown_of_below hb1 none) (Classical.em _)
      have hB1 := hbx.trans (hb1.mono hbx.size)
      go_wp2_with fail
      refine (VC _ ((hV.below hB1).more hB1.size)).mono ?_
      rintro e w2 ⟨rfl, hb2⟩
      replace hE := hE.kept (grown_of_below hb2 none) (Classical.em _)
      have hB2 := hB1.trans (hb2.mono hB1.size)
      go_wp2_with fail
      go_ret2
      exact OwnV.no ((OwR.of_own hE).congr fun j hj => by omega) hB2
    · obtain rfl : m = 8 := varsB_len t2
      have tv := t2
      have e0 : evAll n 8 N V = evF N V n := by rw [evAll, if_pos (by simp [t1, tv])]
      rw [e0]
      have HG0 : ∀ (k : Nat) (K : Nat → Fr), k ≤ n → evF N V k = some K → ∀ i, i < k → fracOkL (K i) = true := fun k K hk h => evF_good (formB_at t1) (varsB_at tv) hk h
      have HG := Lib.hid HG0
      clear HG0
      have HNB := Lib.hid (formB_at t1)
      have hn30 := (formB_len t1).2
      clear e0 tv
      obtain ⟨U, hU⟩ : ∃ U, U = evF N V := ⟨_, rfl⟩
      have HS := Lib.hid (show ∀ k K, U k = some K → U (k + 1) = (nodeV (N k) K V).map (updK K k) from fun k K h => by rw [hU] at h ⊢; exact evF_succ h)
      have HT := Lib.hid (show ∀ k, U k = none → k ≤ n → U n = none from fun k h hk => by rw [hU] at h ⊢; exact evF_stop h hk)
      have HU0 := Lib.hid (show U 0 = some (fun _ => (0, 0)) by rw [hU]; rfl)
      rw [← hU] at HG ⊢
      clear hU
      rw [t2] at VC
      have hE := own_empty w w.heap.size 33 2 (Nat.le_refl _)
      rw [t1] at FO
      go_enter Tryz.func19, Tryz.ntmps19
      go_wp2_with fail
      refine (FO _ ((hN.below hbx).more hbx.size)).mono ?_
      rintro e w1 ⟨rfl, hb1⟩
      replace hE := hE.kept (grown_of_below hb1 none) (Classical.em _)
      have hB1 := hbx.trans (hb1.mono hbx.size)
      go_wp2_with fail
      refine (VC _ ((hV.below hB1).more hB1.size)).mono ?_
      rintro e w2 ⟨rfl, hb2⟩
      replace hE := hE.kept (grown_of_below hb2 none) (Classical.em _)
      have hB2 := hB1.trans (hb2.mono hB1.size)
      clear FO VC hb1 hb2 hB1 hbx t1 t2
      go_wp2_with fail
      go_loopw [6, 7] (fun v i wr => ∃ (k : Nat) (xs : List Fr), k ≤ n ∧ i = .int .i64 k ∧ Hid (xs.length = k ∧ U k = some (fun i => xs.getD i Fr.zero)) ∧ wr.ownsRow w.heap.size 33 2 v k (xs.flatMap Fr.cells) ∧ Below w.heap.size w wr) (fun _ i _ => n - (intOf i).toNat)
      case atStart => exact ⟨0, [], Nat.zero_le _, rfl, Lib.hid ⟨rfl, by rw [HU0.out]; rfl⟩, hE, hB2⟩
      case round =>
        clear hB2 hE
        obtain ⟨k, xs, hk, rfl, HX, hown, hbr⟩ := hrel
        have hs1 := hbr.size
        obtain ⟨B, cc, rfl⟩ := (OwR.of_own hown).form
        have hKr := RdFr.own (OwFr.list hown HX.out.1)
        by_cases hlt : k < n
        · obtain ⟨b, off, rfl, hbB, g0, g1, g2, g3, g4, g5⟩ := (hN.below hbr).2 k hlt
          have hlt2 : (k : Int) < n := by omega
          have hVr := (hV.below hbr).more hs1
          have hnb := HNB.out k hlt
          have hst := HS.out k _ HX.out.2
          obtain ⟨K, hK⟩ : ∃ K : Nat → Fr, K = fun i => xs.getD i Fr.zero := ⟨_, rfl⟩
          have hgd : ∀ i, i < k → fracOkL (K i) = true := by rw [hK]; exact HG.out k _ hk HX.out.2
          rw [← hK] at hKr hst
          have HXK := Lib.hid (show U k = some K by rw [hK]; exact HX.out.2)
          have HKX := Lib.hid hK
          clear hK
          have hbb : Below wr.heap.size wr wr := (by (repeat (first | (with_reducible exact Below.refl _ _) | (with_reducible assumption) | (with_reducible refine Below.drew ?_) | (with_reducible refine below_drewN ?_ _) | ((with_reducible refine Below.setCell ?_ ?_ _); rotate_left; focus (first | (simp; done) | omega | (simp; omega))) | ((with_reducible refine Below.alloc ?_ ?_ _); rotate_left; focus (first | exact Nat.le_refl _ | omega | (simp; done) | (simp; omega))))))
          have EV := fun (v : World) (h1 : RdFr v v.heap.size B k K) (h2 : RdFr v v.heap.size VA 8 V) => sEvalNode v (N k) B VA k cc vc K V h1 h2 hnb hgd
          have hKx := (hKr.below hbb).more hbb.size
          have hVx := (hVr.below hbb).more hbb.size
          skip
          skip
          cases hq : nodeV (N k) K V with
          | none =>
            simp only [hq, vOpt, oN_none, oD_none, oB_none] at EV
            have HF := Lib.hid (show U n = none from HT.out (k + 1) (by rw [hst, hq]; rfl) (by omega))
            clear hq hst
            go_wp2_with fail
            refine (EV _ hKx hVx).mono ?_
            rintro e w3 ⟨rfl, hb3⟩
            have hb4 := hbb.trans (hb3.mono hbb.size)
            have hB3 := hbr.trans (hb4.mono hs1)
            have hs3 := hb4.size
            have hE3 := own_empty (w3.alloc (.cells #[.int .i64 0, .int .i64 0] 33)) w.heap.size 33 2 (by simp; omega)
            go_wp2_with fail
            go_ret2
            rw [HF.out]
            exact OwnV.no ((OwR.of_own (by simpa using hE3)).congr fun j hj => by omega) ((hB3.alloc hB3.size _).alloc (by simp; have := hB3.size; omega) _)
          | some x =>
            obtain ⟨x1, x2⟩ := x
            simp only [hq, vOpt, oN_some, oD_some, oB_some] at EV
            have HF := Lib.hid (show U (k + 1) = some (updK K k (x1, x2)) by rw [hst, hq]; rfl)
            clear hq hst
            go_wp2_with fail
            refine (EV _ hKx hVx).mono ?_
            rintro e w3 ⟨rfl, hb3⟩
            have hb4 := hbb.trans (hb3.mono hbb.size)
            have hB3 := hbr.trans (hb4.mono hs1)
            have hs3 := hb4.size
            replace hown := hown.kept (grown_of_below hb4 none) (Classical.em _)
            clear hb3 hb4 hbb hKx hVx hKr hVr EV hgd hnb
            go_wp2_with (at_builtin; refine wpList_append_own_at _ rfl _ _ 25 rfl w.heap.size 33 i0 (.agg #[.int .i64 0, .int .i64 0]) 2 16 Tryz.underlying25 hi hz0 hz1 hz2 rfl (by decide) _ _ _ rfl ((hown.alloc (.cells #[.int .i64 x1, .int .i64 x2] 33)).alloc _) ⟨w3.heap.size + 1, 0, none⟩ 1 1 [.int .i64 x1, .int .i64 x2] rfl rfl ?c1 ?c2 ?c3 ?c4 ?c5 ?_)
            case c1 => have h := fr_cells_new (w3.alloc (.cells #[.int .i64 x1, .int .i64 x2] 33)) [.int .i64 x1, .int .i64 x2] 33; simpa using h
            case c2 => first | rfl | (intro u hu; simp at hu; rcases hu with rfl | rfl <;> rfl)
            case c3 => unfold maxLen; omega
            case c4 => omega
            case c5 => simp; omega
            intro v' w5 hown5 hg5 _ hat5
            have hB5 := ((hB3.alloc (by omega) (.cells #[.int .i64 x1, .int .i64 x2] 33)).alloc (by simp; omega) (.cells #[.int .i64 x1, .int .i64 x2] 33)).grown hg5 (by simp; omega) (ev_block_base hown)
            go_wp2
            go_roundw
            case rel =>
              refine ⟨k + 1, xs ++ [(x1, x2)], by omega, by go_num, Lib.hid ⟨by rw [List.length_append, HX.out.1]; rfl, ?_⟩, ?_, hB5⟩
              · rw [HF.out, HKX.out]; have := updK_list xs (x1, x2); rw [HX.out.1] at this; rw [this]
              · rw [List.flatMap_append]; exact hown5
            case measure => simp [intOf]; omega
        · obtain rfl : k = n := by omega
          go_wp2_with fail
          go_ret2
          rw [HX.out.2]
          exact OwnV.yes (OwFr.list hown HX.out.1) hbr
end Go.Proofs.YtanpmbiblibgfaaGreatDoor
