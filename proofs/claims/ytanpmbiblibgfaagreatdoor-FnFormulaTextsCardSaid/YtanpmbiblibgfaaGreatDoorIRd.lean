/- The reader of formulas, of the program. Conditions: the words can be read; the box holds an own row; the tables lie as the library lays them. -/
import Derived.Test.YtanpmbiblibgfaaGreatDoorFrI
import Derived.Test.YtanpmbiblibgfaaGreatDoorIPar
import Derived.Deep.RegionLaw
import Derived.Deep.AppendLies
import Derived.Deep.DeepCutAuto
import Derived.Deep.CutBlock
namespace Go.Proofs.YtanpmbiblibgfaaGreatDoor
open Go.RowKit Go.Lib
set_option linter.unusedVariables false
set_option linter.unusedSimpArgs false
set_option maxRecDepth 8000 in
set_option maxHeartbeats 12800000 in
theorem iNode (base : Nat) (w0 : World) (hE0 : ∀ w, Below base w0 w → LaidE w) (f : Nat) : ∀ (w : World) (rb : Nat) (A : Option Addr) (c : Nat) (ws : List (List UInt8)) (v : Value) (xs : List No), ws.length ≤ f → ws.length ≤ 24 → ws.length ≤ c → (∀ x ∈ ws, x.length ≤ 1000) → xs.length + ws.length ≤ 100 → WdR w base A ws → BoxR w base rb A ws.length c v xs → base ≤ rb → base ≤ w.heap.size → Below base w0 w →
    Calls Tryz.prog 18 #[.pointer (some ⟨rb, 0, none⟩)] w (NodeE base rb w v xs (rdN f ws xs.length)) := by
  induction f with
  | zero =>
    intro w rb A c ws v xs hf h24 hc hwl hx hW hbo hob hbw hB0
    obtain rfl : ws = [] := List.length_eq_zero_iff.1 (by omega)
    obtain ⟨pO, own⟩ := hbo
    have c0 : w.cell? ⟨rb, 0, none⟩ = some (.slice A 0 c) := pO.cell 0
    have zR := pO.lt
    go_enter Tryz.func18, Tryz.ntmps18
    go_wp2_with fail
    go_ret
    exact NodeE.none_ (FR.refl rb w v)
  | succ f ih =>
    intro w rb A c ws v xs hf h24 hc hwl hx hW hbo hob hbw hB0
    obtain ⟨pO, own⟩ := hbo
    cases ws with
    | nil =>
      have c0 : w.cell? ⟨rb, 0, none⟩ = some (.slice A 0 c) := pO.cell 0
      have zR := pO.lt
      clear ih
      go_enter Tryz.func18, Tryz.ntmps18
      go_wp2_with fail
      go_ret
      exact NodeE.none_ (FR.refl rb w v)
    | cons x wt =>
      obtain ⟨i0, hi, hz0, hz1, hz2⟩ := info_parts no_inf
      have hvb : ∀ q, v.ownBlock = some q → base ≤ q := fun q hq => (own.lt q hq).1
      obtain ⟨g, off, rfl, hgb, hxc⟩ := hW 0 x rfl
      have hWt := hW.tail
      have hxl := hwl x List.mem_cons_self
      have hwt := fun y hy => hwl y (List.mem_cons_of_mem _ hy)
      obtain ⟨t, rfl⟩ : ∃ t : ByteArray, x = t.data.toList := ⟨⟨x.toArray⟩, by simp⟩
      have htl : t.data.toList.length = t.size := Array.length_toList
      have hst : strV t.data.toList = .string t := congrArg Value.string (baList t).symm
      rw [hst, Nat.add_zero] at hxc
      simp only [List.length_cons] at hf h24 hc hx
      obtain ⟨d, rfl⟩ : ∃ d, c = d + 1 := ⟨c - 1, by omega⟩
      obtain ⟨n, hn⟩ : ∃ n, n = wt.length := ⟨_, rfl⟩
      have pO' : Whole w rb 52 #[.slice (some ⟨g, off, none⟩) (n + 1) (d + 1), v] := by rw [hn]; exact pO
      rw [← hn] at hf h24 hc hx
      have HN := Lib.hid hn
      clear pO hW hwl hn hst
      have FIN := Lib.hid (show ∀ A' : Option Addr, WdR w base A' wt → ∃ A'' : Option Addr, Value.slice A' n d = .slice A'' n d ∧ Whole (w.setCell ⟨rb, 0, none⟩ (.slice A' n d)) rb 52 #[.slice A'' n d, v] ∧ WdR (w.setCell ⟨rb, 0, none⟩ (.slice A' n d)) base A'' wt ∧ FR rb w (w.setCell ⟨rb, 0, none⟩ (.slice A' n d)) v v ∧ (w.setCell ⟨rb, 0, none⟩ (.slice A' n d)).ownsRow base 46 6 v xs.length (xs.flatMap No.cells) from fun A' h => ⟨A', rfl, by simpa using pO'.put 0 (.slice A' n d), h.below ((Below.refl base w).setCell hob _), (FR.refl rb w v).put 0 _, own.kept (row := some rb) (grown_setCell (grown_refl w _) (p := ⟨rb, 0, none⟩) rfl _) (.inr (own_apart own pO' (by decide)))⟩)
      have c0 : w.cell? ⟨rb, 0, none⟩ = some (.slice (some ⟨g, off, none⟩) (n + 1) (d + 1)) := pO'.cell 0
      have f0 := pO'.free 0
      have zR := pO'.lt
      have hgr : ¬ rb = g := by omega
      have hgz : g < w.heap.size := by omega
      have hne : ¬ w.heap.size = rb := by omega
      obtain ⟨AT, hAT⟩ : ∃ z, z = atW t.data.toList := ⟨_, rfl⟩
      obtain ⟨NM, hNM⟩ : ∃ z : ByteArray, z = ⟨(trimPrefix t.data.toList [118]).toArray⟩ := ⟨_, rfl⟩
      obtain ⟨VB, hVB⟩ : ∃ z, z = hasPrefix t.data.toList [118] := ⟨_, rfl⟩
      have IK := fun (gk : Nat) (w2 : World) (h : ∀ k : Nat, k < 7 → w2.cell? ⟨gk, k, none⟩ = some (strV (nameL ((k : Int) + 3)))) => iIndexK gk t w2 h
      have IC := fun (w2 : World) => iCutV t w2
      rw [← hAT] at IK
      rw [← hNM, ← hVB] at IC
      have HAT := Lib.hid hAT
      have HNM := Lib.hid hNM
      have HVB := Lib.hid hVB
      clear hAT hNM hVB
      go_enter Tryz.func18, Tryz.ntmps18
      go_upto_region 4 with fail
      go_cut [29] (fun s29 wx => ∃ A' : Option Addr, s29 = .slice A' n d ∧ Whole wx rb 52 #[.slice A' n d, v] ∧ WdR wx base A' wt ∧ FR rb w wx v v ∧ wx.ownsRow base 46 6 v xs.length (xs.flatMap No.cells))
      case first =>
        go_wp2_with fail
        · go_meet
          obtain rfl : d = 0 := by assumption
          obtain rfl : wt = [] := List.length_eq_zero_iff.1 (by have := HN.out; omega)
          exact FIN.out _ (fun j y hy => by simp at hy)
        · go_meet
          exact FIN.out _ hWt
      case rest =>
        obtain ⟨A', rfl, pR, hW1, fr, own1⟩ := hcut
        have hs1 := fr.size
        clear hWt c0 f0 hxc own pO' FIN
        have pN := Whole.new wc 46 #[.int .i64 1, .int .i64 0, .int .i64 0, .int .i64 0, .int .i64 0, .int .i64 0]
        go_wp2_with fail
        refine (iKindWords _).mono ?_
        rintro e w2 ⟨gk, rfl, hgk, hgz2, hgc, hb2⟩
        have IK2 := IK gk w2 hgc
        clear IK hgc
        go_wp2_with fail
        refine IK2.mono ?_
        rintro e w' ⟨rfl, hw'⟩
        obtain rfl := hw'.symm
        clear IK2
        go_wp2_with fail
        refine (IC _).mono ?_
        rintro e w' ⟨rfl, hw'⟩
        obtain rfl := hw'.symm
        clear IC
        go_upto_block 0 with fail
        have hbx := (Below.refl wc.heap.size wc).alloc (Nat.le_refl _) (.cells #[.int .i64 1, .int .i64 0, .int .i64 0, .int .i64 0, .int .i64 0, .int .i64 0] 46)
        have hb3 := hbx.trans (hb2.mono hbx.size)
        have st : StN base rb wc.heap.size w0 w w2 A' wt d v v xs #[.int .i64 1, .int .i64 0, .int .i64 0, .int .i64 0, .int .i64 0, .int .i64 0] := by
          have hn := HN.out
          have fr2 := fr.trans (FR.of_below hb3 rb v)
          have pR2 := pR.below hb3 pR.lt
          rw [hn] at pR2
          exact ⟨by omega, ⟨pR2, own1.kept (row := none) (grown_of_below hb3 none) (Classical.em _)⟩, hW1.below (hb3.mono (Nat.le_trans hbw hs1)), pN.below hb2 pN.lt, fr2, fun e => by have := (own1.lt _ e).2; omega, by have := pR.lt; omega, Nat.le_trans hbw hs1, hob, hs1, hB0.trans (fr2.below hob hvb hbw)⟩
        obtain ⟨nb, hnb⟩ : ∃ b, b = wc.heap.size := ⟨_, rfl⟩
        rw [← hnb] at st
        rw [← hnb]
        clear hnb hbx hb3 hb2 pN pR own1 fr hW1 hgk hgz2 hne hs1
        go_cut [8] (fun s8 wx => Mid1 base rb nb f w0 w v t.data.toList wt xs s8 wx)
        case first =>
          by_cases hk0 : kindW t.data.toList = 0
          · obtain rfl : AT = -1 := by rw [HAT.out, atW, if_pos hk0]
            rcases pre_v t.data.toList with ⟨r, hr, hv, htr⟩ | ⟨hno, hv, htr⟩
            · obtain rfl : VB = true := by rw [HVB.out]; exact hv
              have hnm : NM.data.toList = r := by rw [HNM.out, htr]
              have hnl : NM.size ≤ 281474976710656 := by
                have h1 : NM.data.toList.length = NM.size := Array.length_toList
                have h2 := congrArg List.length hr
                rw [hnm] at h1
                simp only [List.length_cons] at h2
                omega
              have IP := fun (u : World) (hu : LaidE u) => iParseUint NM hnl u hu
              rw [hnm] at IP
              have hcl := cls_v r
              rw [← hr] at hcl
              have st3 := st.put 0 (.int .i64 2)
              have n0 : w2.cell? ⟨nb, 0, none⟩ = some (.int .i64 1) := st.node.cell 0
              have fN := st.node.free 0
              have zN := st.node.lt
              have hE3 := hE0 _ st3.below
              cases hp : puL r with
              | none =>
                rw [hp] at hcl
                simp only [hp, Option.getD_none, Option.isSome_none] at IP
                have HC := Lib.hid (show cls t.data.toList = .bad from hcl)
                clear hcl hp hr hv htr hnm hnl hk0 ih
                go_wp2_with fail
                refine (IP _ hE3).mono ?_
                rintro e w5 ⟨rfl, hb5⟩
                have st5 := st3.under hb5
                clear IP st3 hE3 n0 fN zN hb5 st
                have n1 : w5.cell? ⟨nb, 1, none⟩ = some (.int .i64 0) := st5.node.cell 1
                have fN := st5.node.free 1
                have zN := st5.node.lt
                go_wp2_with fail
                go_meet
                exact ⟨false, ⟨2, 0, 0, 0, 0, 0⟩, [], wt, A', d, v, rfl, Lib.hid (rdN_bad HC.out), (st5.put 1 _).cast rfl (List.append_nil _).symm, by rw [List.append_nil]; omega⟩
              | some z =>
                rw [hp] at hcl
                simp only [hp, Option.getD_some, Option.isSome_some] at IP
                by_cases h8 : z < 8
                · have HC := Lib.hid (show cls t.data.toList = .var z by simpa [h8] using hcl)
                  clear hcl hp hr hv htr hnm hnl hk0 ih
                  go_wp2_with fail
                  refine (IP _ hE3).mono ?_
                  rintro e w5 ⟨rfl, hb5⟩
                  have st5 := st3.under hb5
                  clear IP st3 hE3 n0 fN zN hb5 st
                  have n1 : w5.cell? ⟨nb, 1, none⟩ = some (.int .i64 0) := st5.node.cell 1
                  have fN := st5.node.free 1
                  have zN := st5.node.lt
                  go_wp2_with fail
                  go_meet
                  exact ⟨true, ⟨2, z, 0, 0, 0, 0⟩, [], wt, A', d, v, rfl, Lib.hid (rdN_var HC.out), (st5.put 1 _).cast rfl (List.append_nil _).symm, by rw [List.append_nil]; omega⟩
                · have HC := Lib.hid (show cls t.data.toList = .bad by simpa [h8] using hcl)
                  clear hcl hp hr hv htr hnm hnl hk0 ih
                  go_wp2_with fail
                  refine (IP _ hE3).mono ?_
                  rintro e w5 ⟨rfl, hb5⟩
                  have st5 := st3.under hb5
                  clear IP st3 hE3 n0 fN zN hb5 st
                  have n1 : w5.cell? ⟨nb, 1, none⟩ = some (.int .i64 0) := st5.node.cell 1
                  have fN := st5.node.free 1
                  have zN := st5.node.lt
                  go_wp2_with fail
                  go_meet
                  exact ⟨false, ⟨2, z, 0, 0, 0, 0⟩, [], wt, A', d, v, by simp [h8], Lib.hid (rdN_bad HC.out), (st5.put 1 _).cast rfl (List.append_nil _).symm, by rw [List.append_nil]; omega⟩
            · obtain rfl : VB = false := by rw [HVB.out]; exact hv
              have hcl := cls_rest hk0 hno
              have IF := fun (u : World) (hu : LaidE u) => iParseFrac t u (by omega) hu
              have hE2 := hE0 _ st.below
              cases hp : pfI t.data.toList with
              | none =>
                rw [hp] at hcl IF
                simp only [vOpt, oN, oD, oB] at IF
                have HC := Lib.hid (show cls t.data.toList = .bad from hcl)
                clear hcl hp hv htr hk0 ih hno
                go_wp2_with fail
                refine (IF _ hE2).mono ?_
                rintro e w5 ⟨rfl, hb5⟩
                have st5 := st.under hb5
                clear IF hE2 hb5 st
                have n4 : w5.cell? ⟨nb, 4, none⟩ = some (.int .i64 0) := st5.node.cell 4
                have n5 : w5.cell? ⟨nb, 5, none⟩ = some (.int .i64 0) := st5.node.cell 5
                have fN4 := st5.node.free 4
                have fN5 := st5.node.free 5
                have zN := st5.node.lt
                go_wp2_with fail
                go_meet
                exact ⟨false, ⟨1, 0, 0, 0, 0, 0⟩, [], wt, A', d, v, rfl, Lib.hid (rdN_bad HC.out), ((st5.put 4 _).put 5 _).cast rfl (List.append_nil _).symm, by rw [List.append_nil]; omega⟩
              | some q =>
                rw [hp] at hcl IF
                simp only [vOpt, oN, oD, oB] at IF
                have HC := Lib.hid (show cls t.data.toList = .frac q from hcl)
                clear hcl hp hv htr hk0 ih hno
                go_wp2_with fail
                refine (IF _ hE2).mono ?_
                rintro e w5 ⟨rfl, hb5⟩
                have st5 := st.under hb5
                clear IF hE2 hb5 st
                have n4 : w5.cell? ⟨nb, 4, none⟩ = some (.int .i64 0) := st5.node.cell 4
                have n5 : w5.cell? ⟨nb, 5, none⟩ = some (.int .i64 0) := st5.node.cell 5
                have fN4 := st5.node.free 4
                have fN5 := st5.node.free 5
                have zN := st5.node.lt
                go_wp2_with fail
                go_meet
                exact ⟨true, ⟨1, 0, 0, 0, q.1, q.2⟩, [], wt, A', d, v, rfl, Lib.hid (rdN_frac HC.out), ((st5.put 4 _).put 5 _).cast rfl (List.append_nil _).symm, by rw [List.append_nil]; omega⟩
          · have hkb := kindW_bd t.data.toList
            obtain ⟨kk, hkk⟩ : ∃ kk : Nat, kindW t.data.toList = (kk : Int) + 3 := ⟨(kindW t.data.toList - 3).toNat, by omega⟩
            obtain rfl : AT = (kk : Int) := by rw [HAT.out, atW, if_neg hk0, hkk]; omega
            obtain ⟨kw, hkw⟩ : ∃ kw : Int, kw = (kk : Int) + 3 := ⟨_, rfl⟩
            have e3 : IntKind.i64.wrap (3 + (kk : Int)) = kw := by rw [hkw, Int.add_comm]; exact IntWalk.i64_in _ ⟨by omega, by omega⟩
            have hk0i : (0 : Int) ≤ kk := by omega
            have hk39 : 3 ≤ kw ∧ kw ≤ 9 := by omega
            have hcl : cls t.data.toList = .op kw := by rw [cls_op hk0, hkk, hkw]
            have hresN := Lib.hid (show ∀ j ns r ps, j < opN kw → rdL (rdN f) wt xs.length j = some (ns, r, ps) → rdN f r (xs.length + ns.length) = none → rdN (f + 1) (t.data.toList :: wt) xs.length = none from fun j ns r ps hj h1 h2 => by
              rw [rdN, hcl]
              simp only [rdL_stop h1 h2 _ hj])
            have hresS := Lib.hid (show ∀ ns r ps, rdL (rdN f) wt xs.length (opN kw) = some (ns, r, ps) → rdN (f + 1) (t.data.toList :: wt) xs.length = some (ns ++ [⟨kw, ps.getD 0 0, ps.getD 1 0, ps.getD 2 0, 0, 0⟩], r) from fun ns r ps h1 => by
              rw [rdN, hcl]
              simp only [h1])
            have n0 : w2.cell? ⟨nb, 0, none⟩ = some (.int .i64 1) := st.node.cell 0
            have fN := st.node.free 0
            have zN := st.node.lt
            have st3 := st.put 0 (.int .i64 kw)
            obtain ⟨u3, hu3⟩ : ∃ u, u = w2.setCell ⟨nb, 0, none⟩ (.int .i64 kw) := ⟨_, rfl⟩
            have c3 : u3.cell? ⟨nb, 0, none⟩ = some (.int .i64 kw) := by rw [hu3]; exact st3.node.cell 0
            rw [← hu3] at st3
            clear hkk hkw hcl hkb hk0 HNM HVB HAT
            go_upto_region 12 with fail
            rw [← hu3]
            clear hu3 n0 fN zN st
            have zN := st3.node.lt
            have hnz : ¬ nb = u3.heap.size := by omega
            have hw3 : w.heap.size ≤ u3.heap.size := st3.fr.size
            have st4 := st3.under ((Below.refl u3.heap.size u3).alloc (Nat.le_refl _) (.cells #[.pointer (some ⟨nb, 1, none⟩), .pointer (some ⟨nb, 2, none⟩)] 79))
            have own4 := own_two u3 u3.heap.size (Nat.le_refl _) (.pointer (some ⟨nb, 1, none⟩)) (.pointer (some ⟨nb, 2, none⟩))
            have plc4 := Plc.two u3 nb
            obtain ⟨m, hm⟩ : ∃ m, m = opN kw := ⟨_, rfl⟩
            have HM := Lib.hid hm
            have hm9 : kw = 9 → m = 3 := fun h => by rw [hm, opN, if_pos h]
            have hm8 : kw ≠ 9 → m = 2 := fun h => by rw [hm, opN, if_neg h]
            have HM9 := Lib.hid hm9
            have HM8 := Lib.hid hm8
            clear hm hm9 hm8
            go_upto_if 58 with fail
            go_cut [9] (fun s9 wx => ∃ gp cc : Nat, s9 = .slice (some ⟨gp, 0, none⟩) m cc ∧ Plc wx gp nb m ∧ StN base rb nb w0 w wx A' wt d v v xs #[.int .i64 kw, .int .i64 0, .int .i64 0, .int .i64 0, .int .i64 0, .int .i64 0] ∧ gp ≠ rb ∧ gp ≠ nb ∧ v.ownBlock ≠ some gp ∧ w.heap.size ≤ gp)
            case first =>
              obtain ⟨i1, hj, hy0, hy1, hy2⟩ := info_parts ptr_inf
              have hvz := fun q hq => (st3.box.2.lt q hq).2
              have hrz := st3.box.1.lt
              have hbz := st3.base_le
              by_cases h9 : kw = 9
              · have hm3 := HM9.out h9
                have t9 : (kw == 9) = true := by simpa using h9
                subst hm3
                clear h9
                go_wp2_with (at_builtin; refine wpList_append_own_at _ rfl _ _ 80 rfl u3.heap.size 79 i1 (.pointer none) 1 8 Tryz.underlying80 hj hy0 hy1 hy2 rfl (by decide) _ _ _ rfl (own4.alloc _) ⟨u3.heap.size + 1, 0, none⟩ 1 1 [.pointer (some ⟨nb, 3, none⟩)] rfl rfl ?c1 ?c2 ?c3 ?c4 ?c5 ?_)
                case c2 => rfl
                case c3 => unfold maxLen; omega
                case c5 => omega
                intro v' w7 hown7 hg7 _ hat
                have hg7' : ((u3.alloc (.cells #[.pointer (some ⟨nb, 1, none⟩), .pointer (some ⟨nb, 2, none⟩)] 79)).alloc (.cells #[.pointer (some ⟨nb, 3, none⟩)] 79)).grownBy w7 (some u3.heap.size) := hg7
                have st7 := (st4.under ((Below.refl _ _).alloc (Nat.le_refl _) (.cells #[.pointer (some ⟨nb, 3, none⟩)] 79))).grown hg7' (by omega) (by omega) (fun e => by have := hvz _ e; omega) hw3 hbz
                obtain ⟨g7, c7, rfl, hgb7⟩ : ∃ g7 c7, v' = .slice (some ⟨g7, 0, none⟩) 3 c7 ∧ u3.heap.size ≤ g7 := by
                  rcases hown7.2 with ⟨_, h⟩ | ⟨g, cap, cur, h, hg, _⟩
                  · omega
                  · exact ⟨g, cap, h, hg⟩
                have plc7 := Plc.of_own hown7
                clear hg7 hg7' hown7 hat st4 own4 plc4
                go_wp2_with fail
                go_meet
                exact ⟨g7, c7, rfl, plc7, st7, by omega, by omega, fun e => by have := hvz _ e; omega, by omega⟩
              · have hm2 := HM8.out h9
                have t9 : (kw == 9) = false := by simpa using h9
                subst hm2
                clear h9
                go_wp2_with fail
                go_meet
                exact ⟨u3.heap.size, 2, rfl, plc4, st4, by omega, by omega, fun e => by have := hvz _ e; omega, hw3⟩
            case rest =>
              obtain ⟨gp, cc, rfl, plc, st5, hg1, hg2, hg3, hg4⟩ := hcut
              have hm23 : 2 ≤ m ∧ m ≤ 3 := by
                by_cases h9 : kw = 9
                · have := HM9.out h9; omega
                · have := HM8.out h9; omega
              clear HM9 HM8 st3 st4 own4 plc4 c3 zN hnz hw3
              go_wp2_with fail
              go_loopw [65] (fun s65 wr => ∃ (j : Nat) (ns : List No) (r : List (List UInt8)) (ps : List Int) (A2 : Option Addr) (c2 : Nat) (v2 : Value), s65 = .int .i64 (j : Int) ∧ j ≤ m ∧ Hid (rdL (rdN f) wt xs.length j = some (ns, r, ps)) ∧ StN base rb nb w0 w wr A2 r c2 v v2 (xs ++ ns) #[.int .i64 kw, .int .i64 (ps.getD 0 0), .int .i64 (ps.getD 1 0), .int .i64 (ps.getD 2 0), .int .i64 0, .int .i64 0] ∧ Plc wr gp nb m ∧ v2.ownBlock ≠ some gp) (fun i _ => 3 - (Go.RowKit.intOf i).toNat)
              case atStart => exact ⟨0, [], wt, [], A', d, v, rfl, Nat.zero_le _, Lib.hid rfl, st5.cast rfl (List.append_nil _).symm, plc, hg3⟩
              case round =>
                clear plc st5 hg3
                obtain ⟨j, ns, r, ps, A2, c2, v2, rfl, hj, HR, st, plc, hg3⟩ := hrel
                obtain ⟨⟨g1, g2, -⟩, g4, -⟩ := rdL_good (rdN_good f) HR.out
                have hxl2 : (xs ++ ns).length = xs.length + ns.length := List.length_append
                have hn := HN.out
                by_cases hlt : j < m
                · have hlti : (j : Int) < m := by omega
                  have cj := plc.cell hlt
                  have zP := plc.lt
                  have IH := ih wr rb A2 c2 r v2 (xs ++ ns) (by omega) (by omega) st.cap (fun y hy => hwt y (g1.subset hy)) (by omega) st.words st.box hob st.base_le st.below
                  have hwj : IntKind.i64.wrap ((j : Int) + 1) = (j : Int) + 1 := IntWalk.i64_in _ ⟨by omega, by omega⟩
                  have HG := Lib.hid (And.intro g1 (And.intro g2 (And.intro g4 (And.intro hn hxl2))))
                  clear g1 g2 g4 hn hxl2
                  go_wp2_with fail
                  refine IH.mono ?_
                  rintro e w5 ⟨v3, fr5, h5⟩
                  clear IH cj
                  obtain ⟨g1, g2, g4, hn, hxl2⟩ := HG.out
                  cases hr5 : rdN f r (xs ++ ns).length with
                  | none =>
                    rw [hr5] at h5
                    subst h5
                    rw [hxl2] at hr5
                    have hres := Lib.hid (hresN.out j ns r ps (by rw [← HM.out]; exact hlt) HR.out hr5)
                    clear g1 g2 g4 hn hxl2 hr5 HG
                    go_wp2_with fail
                    go_ret
                    rw [hres.out]
                    exact NodeE.none_ (st.fr.trans fr5)
                  | some q5 =>
                    obtain ⟨n1, r1⟩ := q5
                    rw [hr5] at h5
                    obtain ⟨rfl, A3, c3, bx3, hc3, hw3⟩ := h5
                    rw [hxl2] at hr5
                    have hmore := Lib.hid (rdL_more HR.out hr5)
                    obtain ⟨⟨k1, k2, -⟩, -⟩ := rdN_good f _ _ _ _ hr5
                    have plc5 := plc.fr fr5 hg1 hg3
                    have hgp5 : v3.ownBlock ≠ some gp := fun e => by
                      rcases fr5.own gp e with h | h
                      · exact hg3 h
                      · omega
                    have st5 := st.call fr5 bx3 hc3 hw3
                    obtain ⟨B5, n5, cp5, rfl, hn5⟩ := bx3.shape
                    have hn5e : n5 = xs.length + ns.length + n1.length := by rw [hn5]; simp only [List.length_append]
                    have hw5 : IntKind.i64.wrap ((n5 : Int) - 1) = (n5 : Int) - 1 := IntWalk.i64_in _ ⟨by omega, by omega⟩
                    have c1 : w5.cell? ⟨rb, 1, none⟩ = some (.slice B5 n5 cp5) := st5.box.1.cell 1
                    have zR5 := st5.box.1.lt
                    obtain ⟨zj, hzj⟩ := cell_at (kw := kw) (a := ps.getD 0 0) (b := ps.getD 1 0) (c := ps.getD 2 0) (j := j) (by omega)
                    have cN : w5.cell? ⟨nb, j + 1, none⟩ = some (.int .i64 zj) := (st5.node.cell (j + 1)).trans hzj
                    have fN := st5.node.free (j + 1)
                    have zN := st5.node.lt
                    have st6 := (st5.put (j + 1) (.int .i64 ((n5 : Int) - 1))).cast (cells_put g4 (by omega)) (List.append_assoc _ _ _)
                    have plc6 := plc5.far (g := nb) (i := j + 1) hg2 (.int .i64 ((n5 : Int) - 1))
                    have HN5 := Lib.hid (show (n5 : Int) - 1 = ((xs.length + ns.length + n1.length : Nat) : Int) - 1 by rw [hn5e])
                    clear hn5 hn5e hzj g1 g2 g4 hn hxl2 hr5 HG k1 k2 plc plc5 st fr5 bx3 hw3 hc3 hg3 hj
                    go_wp2_with fail
                    go_roundw
                    case rel => exact ⟨j + 1, ns ++ n1, r1, ps ++ [((xs.length + ns.length + n1.length : Nat) : Int) - 1], A3, c3, .slice B5 n5 cp5, by go_num, hlt, hmore, by rw [← HN5.out]; exact st6, plc6, hgp5⟩
                    case measure => simp [Go.RowKit.intOf]; omega
                · obtain rfl : j = m := by omega
                  have hres := Lib.hid (hresS.out ns r ps (by rw [← HM.out]; exact HR.out))
                  have hlen : (xs ++ ns).length ≤ 100 := by omega
                  clear hg3 plc g1 g2 g4 ih hresN hresS
                  go_wp2_with fail
                  go_meet
                  exact ⟨true, ⟨kw, ps.getD 0 0, ps.getD 1 0, ps.getD 2 0, 0, 0⟩, ns, r, A2, c2, v2, rfl, hres, st, hlen⟩
        case rest =>
          obtain ⟨b, s, ns, r, A2, c2, v2, rfl, HR, st, hl⟩ := hcut
          obtain ⟨ys, hys⟩ : ∃ z, z = xs ++ ns := ⟨_, rfl⟩
          rw [← hys] at st hl
          have HY := Lib.hid hys
          clear hys ih HAT HNM HVB
          obtain ⟨pR, own⟩ := st.box
          have c1 : wc.cell? ⟨rb, 1, none⟩ = some v2 := pR.cell 1
          have f1 := pR.free 1
          have zR1 := pR.lt
          have n0 : wc.cell? ⟨nb, 0, none⟩ = some (.int .i64 s.k) := st.node.cell 0
          have n1 : wc.cell? ⟨nb, 1, none⟩ = some (.int .i64 s.a) := st.node.cell 1
          have n2 : wc.cell? ⟨nb, 2, none⟩ = some (.int .i64 s.b) := st.node.cell 2
          have n3 : wc.cell? ⟨nb, 3, none⟩ = some (.int .i64 s.c) := st.node.cell 3
          have n4 : wc.cell? ⟨nb, 4, none⟩ = some (.int .i64 s.p) := st.node.cell 4
          have n5 : wc.cell? ⟨nb, 5, none⟩ = some (.int .i64 s.q) := st.node.cell 5
          have zN := st.node.lt
          have hfo : ¬ rb = wc.heap.size := by omega
          have hfn : ¬ nb = wc.heap.size := by omega
          have hbc := st.base_le
          go_upto_region 26 with fail
          have m1 : ys.length + 1 ≤ maxLen := by unfold maxLen; omega
          have m2 : (ys.length + 1) * 48 ≤ 140737488355328 := by omega
          have m3 : base ≤ ((wc.alloc (.cells #[.int .i64 s.k, .int .i64 s.a, .int .i64 s.b, .int .i64 s.c, .int .i64 s.p, .int .i64 s.q] 46)).drew).heap.size := by simp; omega
          have m4 : ((wc.alloc (.cells #[.int .i64 s.k, .int .i64 s.a, .int .i64 s.b, .int .i64 s.c, .int .i64 s.p, .int .i64 s.q] 46)).drew).heap.size = wc.heap.size + 1 := by simp
          have m5 : ∀ z ∈ ([.int .i64 s.k, .int .i64 s.a, .int .i64 s.b, .int .i64 s.c, .int .i64 s.p, .int .i64 s.q] : List Value), z.oneCell' = true := by simp [Value.oneCell']
          have m6 : ((wc.alloc (.cells #[.int .i64 s.k, .int .i64 s.a, .int .i64 s.b, .int .i64 s.c, .int .i64 s.p, .int .i64 s.q] 46)).drew).ownsRow base 46 6 v2 ys.length (ys.flatMap No.cells) := own.alloc (.cells #[.int .i64 s.k, .int .i64 s.a, .int .i64 s.b, .int .i64 s.c, .int .i64 s.p, .int .i64 s.q] 46)
          have m7 : ∀ (j : Nat) (z : Value), ([.int .i64 s.k, .int .i64 s.a, .int .i64 s.b, .int .i64 s.c, .int .i64 s.p, .int .i64 s.q] : List Value)[j]? = some z → ((wc.alloc (.cells #[.int .i64 s.k, .int .i64 s.a, .int .i64 s.b, .int .i64 s.c, .int .i64 s.p, .int .i64 s.q] 46)).drew).cell? ((⟨wc.heap.size, 0, none⟩ : Addr).add j) = some z := World.news_of_block (cs := #[.int .i64 s.k, .int .i64 s.a, .int .i64 s.b, .int .i64 s.c, .int .i64 s.p, .int .i64 s.q]) (t := 46) (fr := (0, 0)) (heap_alloc_new wc _)
          have m8 : ∀ (g : Nat) (w3 : World), ((wc.alloc (.cells #[.int .i64 s.k, .int .i64 s.a, .int .i64 s.b, .int .i64 s.c, .int .i64 s.p, .int .i64 s.q] 46)).drew).grownBy w3 v2.ownBlock → Whole w3 rb 52 #[.slice A2 r.length c2, v2] := fun g w3 hg => (show Whole ((wc.alloc (.cells #[.int .i64 s.k, .int .i64 s.a, .int .i64 s.b, .int .i64 s.c, .int .i64 s.p, .int .i64 s.q] 46)).drew) rb 52 #[.slice A2 r.length c2, v2] from pR.alloc (.cells #[.int .i64 s.k, .int .i64 s.a, .int .i64 s.b, .int .i64 s.c, .int .i64 s.p, .int .i64 s.q] 46)).grown hg (fun e => own_apart own pR (by decide) e.symm)
          go_region_law (refine step_append_lies _ rfl (.tmp 100) (.tmp 102) 24 rfl base 46 i0 (.agg #[.int .i64 0, .int .i64 0, .int .i64 0, .int .i64 0, .int .i64 0, .int .i64 0]) 6 48 Tryz.underlying24 hi hz0 hz1 hz2 rfl (Nat.succ_pos 5) v2 ys.length (ys.flatMap No.cells) rfl m6 ⟨wc.heap.size, 0, none⟩ 1 1 [.int .i64 s.k, .int .i64 s.a, .int .i64 s.b, .int .i64 s.c, .int .i64 s.p, .int .i64 s.q] rfl rfl m7 m5 (Nat.succ_pos 0) m1 m2 m3 (wc.heap.size + 1) m4 ?_; intro g3 cap3 w3 own3 hg3 hat3 hlt3; have pR3 := m8 g3 w3 hg3; have cR3 : w3.cell? ⟨rb, 1, none⟩ = some v2 := pR3.cell 1; have fR3 := pR3.free 1; have zR3 := pR3.lt)
          all_goals
            obtain ⟨k1, k2⟩ := boxR_app (s := s) (FR.of_below (((Below.refl _ wc).alloc (Nat.le_refl _) (.cells #[.int .i64 s.k, .int .i64 s.a, .int .i64 s.b, .int .i64 s.c, .int .i64 s.p, .int .i64 s.q] 46)).drew) rb v2) own3 hg3 (by rw [m4]; exact hat3) pR3
            clear own3 hg3 hat3 pR3 cR3 fR3 zR3 m1 m2 m3 m4 m5 m6 m7 m8
            go_wp2_with fail
            go_ret
            have hbb := k2.below hob (fun q hq => (own.lt q hq).1) hbc
            rw [HR.out]
            cases b with
            | false => exact NodeE.none_ (st.fr.trans k2)
            | true => exact NodeE.some_ (st.fr.trans k2) (by rw [← List.append_assoc, ← HY.out]; exact k1) st.cap (st.words.below hbb)
end Go.Proofs.YtanpmbiblibgfaaGreatDoor
