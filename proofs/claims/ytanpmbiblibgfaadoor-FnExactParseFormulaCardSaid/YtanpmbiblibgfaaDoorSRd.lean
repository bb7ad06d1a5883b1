/- l09Read of the reference. Conditions: the words can be read; the box holds an own row. -/
import Derived.Test.YtanpmbiblibgfaaDoorFrm
import Derived.Test.YtanpmbiblibgfaaDoorSPar
import Derived.Test.YtanpmbiblibgfaaDoorSFor
import Derived.Deep.RegionLaw
import Derived.Deep.AppendLies
import Derived.Deep.DeepCutAuto
namespace Go.Proofs.YtanpmbiblibgfaaDoor
open Go.RowKit
set_option linter.unusedVariables false
set_option linter.unusedSimpArgs false

theorem box_app {base ob : Nat} {w u w3 : World} {v : Value} {xs : List No} {s : No} {g3 cap3 : Nat} (hf : FR ob w u v v) (own3 : w3.ownsRow base 42 6 (.slice (some ⟨g3, 0, none⟩) (xs.length + 1) cap3) (xs.length + 1) (xs.flatMap No.cells ++ s.cells)) (hg3 : u.grownBy w3 v.ownBlock) (hat : v.ownBlock = some g3 ∨ g3 = u.heap.size) (pO3 : Whole w3 ob 22 #[v]) :
    BoxN (w3.setCell ⟨ob, 0, none⟩ (.slice (some ⟨g3, 0, none⟩) (xs.length + 1) cap3)) base ob (.slice (some ⟨g3, 0, none⟩) (xs.length + 1) cap3) (xs ++ [s]) ∧ FR ob w (w3.setCell ⟨ob, 0, none⟩ (.slice (some ⟨g3, 0, none⟩) (xs.length + 1) cap3)) v (.slice (some ⟨g3, 0, none⟩) (xs.length + 1) cap3) := by
  have hne := own_apart own3 pO3 (by decide)
  refine ⟨⟨by simpa using pO3.put 0 _, ?_⟩, hf.app hg3 hat⟩
  have h1 := own3.kept (row := some ob) (grown_setCell (grown_refl w3 _) (p := ⟨ob, 0, none⟩) rfl (.slice (some ⟨g3, 0, none⟩) (xs.length + 1) cap3)) (.inr hne)
  have h2 : (xs ++ [s]).flatMap No.cells = xs.flatMap No.cells ++ s.cells := by simp
  rw [h2, List.length_append]
  exact h1

set_option maxRecDepth 8000 in
set_option maxHeartbeats 6400000 in
theorem sl09Read (base : Nat) (A : Option Addr) (tc : Nat) (ws : List (List UInt8)) (hl : ws.length ≤ 24) (hws : ∀ x ∈ ws, x.length ≤ 1000) (f : Nat) : ∀ (at0 : Nat) (w : World) (ob : Nat) (v : Value) (xs : List No), ws.length - at0 ≤ f → at0 ≤ ws.length → xs.length + (ws.length - at0) ≤ 100 → WdR w base A ws → BoxN w base ob v xs → base ≤ ob → base ≤ w.heap.size →
    Calls Tryd.prog 10 #[.slice A ws.length tc, .int .i64 (at0 : Int), .pointer (some ⟨ob, 0, none⟩)] w (ReadE base ob ws.length w v xs (rdN f (ws.drop at0) xs.length)) := by
  induction f with
  | zero =>
    intro at0 w ob v xs hf hat hx hW hbo hob hbw
    have hge : (ws.length : Int) ≤ (at0 : Int) := by omega
    have hresn := Lib.hid (show rdN 0 (ws.drop at0) xs.length = none from rfl)
    go_enter Tryd.func10, Tryd.ntmps10
    go_wp2_with fail
    go_ret
    rw [hresn.out]
    exact ReadE.none_ hbo (FR.refl ob w v)
  | succ f ih =>
    intro at0 w ob v xs hf hat hx hW hbo hob hbw
    obtain ⟨pO, own⟩ := hbo
    obtain ⟨i0, hi, hz0, hz1, hz2⟩ := info_parts no_inf
    have hvb : ∀ q, v.ownBlock = some q → base ≤ q := fun q hq => (own.lt q hq).1
    by_cases hlt : at0 < ws.length
    · obtain ⟨x, hx0⟩ : ∃ x, ws[at0]? = some x := ⟨_, List.getElem?_eq_getElem hlt⟩
      obtain ⟨g, off, hA, hgb, hxc⟩ := hW at0 x hx0
      have hxl := hws x (List.mem_of_getElem? hx0)
      obtain ⟨t, rfl⟩ : ∃ t : ByteArray, x = t.data.toList := ⟨⟨x.toArray⟩, by simp⟩
      have hdrop : ws.drop at0 = t.data.toList :: ws.drop (at0 + 1) := by
        rw [List.drop_eq_getElem_cons hlt]
        rw [List.getElem?_eq_getElem hlt] at hx0
        injection hx0 with hx0
        rw [hx0]
      have htl : t.data.toList.length = t.size := Array.length_toList
      have hst : strV t.data.toList = .string t := congrArg Value.string (baList t).symm
      rw [hst] at hxc
      rw [hdrop]
      have hge : ¬ (ws.length : Int) ≤ at0 := by omega
      have hlti : (at0 : Int) < ws.length := by omega
      have hw1 : IntKind.i64.wrap ((at0 : Int) + 1) = (at0 : Int) + 1 := IntWalk.i64_in _ ⟨by omega, by omega⟩
      clear hdrop hx0 hst
      subst hA
      have hPF := sParseFrac t w (by omega)
      cases hp : pfI t.data.toList with
      | some q =>
        have hcl : cls t.data.toList = .frac q := by rw [cls, hp]
        have hres := Lib.hid (show rdN (f + 1) (t.data.toList :: ws.drop (at0 + 1)) xs.length = some ([⟨1, 0, 0, 0, q.1, q.2⟩], ws.drop (at0 + 1)) by rw [rdN, hcl])
        clear hcl
        rw [hp] at hPF
        simp only [vOpt, oN, oD, oB] at hPF
        go_enter Tryd.func10, Tryd.ntmps10
        go_wp2_with fail
        refine hPF.mono ?_
        rintro e w1 ⟨rfl, hb1⟩
        clear hPF
        obtain ⟨u, hu⟩ : ∃ u, u = w1.alloc (.cells #[.int .i64 q.1, .int .i64 q.2] 40) := ⟨_, rfl⟩
        have pF : Whole u w1.heap.size 40 #[.int .i64 q.1, .int .i64 q.2] := by rw [hu]; exact Whole.new _ _ _
        have hb2 : Below w.heap.size w u := by rw [hu]; exact hb1.alloc hb1.size _
        obtain ⟨fb, hfb⟩ : ∃ b, b = w1.heap.size := ⟨_, rfl⟩
        rw [← hfb] at pF
        have fr := FR.of_below hb2 ob v
        have own1 := own.kept (row := none) (grown_of_below hb2 none) (Classical.em _)
        have hobl := pO.lt
        replace pO := pO.below hb2 pO.lt
        have hs2 := hb2.size
        have hgl : g < w.heap.size := by omega
        go_upto_region 6 with fail
        rw [← hu]
        rw [← hfb]
        clear hu hfb hb1 own
        have c0 : u.cell? ⟨ob, 0, none⟩ = some v := pO.cell 0
        have zO := pO.lt
        have hfo : ¬ ob = u.heap.size := by omega
        have q0 : u.cell? ⟨fb, 0, none⟩ = some (.int .i64 q.1) := pF.cell 0
        have q1 : u.cell? ⟨fb, 1, none⟩ = some (.int .i64 q.2) := pF.cell 1
        have zF := pF.lt
        have hff : ¬ fb = u.heap.size := by omega
        have m1 : (xs).length + 1 ≤ maxLen := by unfold maxLen; omega
        have m2 : ((xs).length + 1) * 48 ≤ 140737488355328 := by omega
        have m3 : base ≤ (u.alloc (.cells #[.int .i64 1, .int .i64 0, .int .i64 0, .int .i64 0, .int .i64 q.1, .int .i64 q.2] 42)).drew.heap.size := by simp; omega
        have m4 : (u.alloc (.cells #[.int .i64 1, .int .i64 0, .int .i64 0, .int .i64 0, .int .i64 q.1, .int .i64 q.2] 42)).drew.heap.size = u.heap.size + 1 := by simp
        have m5 : ∀ z ∈ ([.int .i64 1, .int .i64 0, .int .i64 0, .int .i64 0, .int .i64 q.1, .int .i64 q.2] : List Value), z.oneCell' = true := by simp [Value.oneCell']
        have m6 : (u.alloc (.cells #[.int .i64 1, .int .i64 0, .int .i64 0, .int .i64 0, .int .i64 q.1, .int .i64 q.2] 42)).drew.ownsRow base 42 6 v (xs).length ((xs).flatMap No.cells) := (own1).alloc (.cells #[.int .i64 1, .int .i64 0, .int .i64 0, .int .i64 0, .int .i64 q.1, .int .i64 q.2] 42)
        have m7 : ∀ (j : Nat) (z : Value), ([.int .i64 1, .int .i64 0, .int .i64 0, .int .i64 0, .int .i64 q.1, .int .i64 q.2] : List Value)[j]? = some z → (u.alloc (.cells #[.int .i64 1, .int .i64 0, .int .i64 0, .int .i64 0, .int .i64 q.1, .int .i64 q.2] 42)).drew.cell? ((⟨u.heap.size, 0, none⟩ : Addr).add j) = some z := World.news_of_block (cs := #[.int .i64 1, .int .i64 0, .int .i64 0, .int .i64 0, .int .i64 q.1, .int .i64 q.2]) (t := 42) (fr := (0, 0)) (heap_alloc_new u _)
        have m8 : ∀ (g : Nat) (w3 : World), (u.alloc (.cells #[.int .i64 1, .int .i64 0, .int .i64 0, .int .i64 0, .int .i64 q.1, .int .i64 q.2] 42)).drew.grownBy w3 (v).ownBlock → Whole w3 ob 22 #[v] := fun g w3 hg => (show Whole (u.alloc (.cells #[.int .i64 1, .int .i64 0, .int .i64 0, .int .i64 0, .int .i64 q.1, .int .i64 q.2] 42)).drew ob 22 #[v] from pO.alloc (.cells #[.int .i64 1, .int .i64 0, .int .i64 0, .int .i64 0, .int .i64 q.1, .int .i64 q.2] 42)).grown hg (fun e => own_apart (own1) pO (by decide) e.symm)
        go_region_law (refine step_append_lies _ rfl (.tmp 31) (.tmp 34) 22 rfl base 42 i0 (.agg #[.int .i64 0, .int .i64 0, .int .i64 0, .int .i64 0, .int .i64 0, .int .i64 0]) 6 48 Tryd.underlying22 hi hz0 hz1 hz2 rfl (Nat.succ_pos 5) v (xs).length ((xs).flatMap No.cells) rfl m6 ⟨u.heap.size, 0, none⟩ 1 1 [.int .i64 1, .int .i64 0, .int .i64 0, .int .i64 0, .int .i64 q.1, .int .i64 q.2] rfl rfl m7 m5 (Nat.succ_pos 0) m1 m2 m3 (u.heap.size + 1) m4 ?_; intro g3 cap3 w3 own3 hg3 hat3 hlt3; have pO3 := m8 g3 w3 hg3; have cO3 : w3.cell? ⟨ob, 0, none⟩ = some v := pO3.cell 0; have fO3 := pO3.free 0; have zO3 := pO3.lt)
        all_goals
          obtain ⟨k1, k2⟩ := box_app (s := ⟨1, 0, 0, 0, q.1, q.2⟩) (show FR ob w (u.alloc (.cells #[.int .i64 1, .int .i64 0, .int .i64 0, .int .i64 0, .int .i64 q.1, .int .i64 q.2] 42)).drew v v from fr.trans (FR.of_below (((Below.refl _ u).alloc (Nat.le_refl _) _).drew) ob v)) own3 hg3 (by rw [m4]; exact hat3) pO3
          clear own3 hg3 hat3 pO3 cO3 fO3 zO3 m1 m2 m3 m4 m5 m6 m7 m8
          go_wp2_with fail
          go_ret
          rw [hres.out]
          exact ReadE.some_ k1 k2 (by simp; omega)
      | none =>
        rw [hp] at hPF
        simp only [vOpt, oN, oD, oB] at hPF
        obtain ⟨VW, hVW⟩ : ∃ b, b = varW t.data.toList := ⟨_, rfl⟩
        have HV := Lib.hid hVW
        have HP := Lib.hid hp
        clear hVW hp
        go_enter Tryd.func10, Tryd.ntmps10
        go_wp2_with fail
        refine hPF.mono ?_
        rintro e w1 ⟨rfl, hb1⟩
        clear hPF
        obtain ⟨u, hu⟩ : ∃ u, u = w1.alloc (.cells #[.int .i64 0, .int .i64 0] 40) := ⟨_, rfl⟩
        have pF : Whole u w1.heap.size 40 #[.int .i64 0, .int .i64 0] := by rw [hu]; exact Whole.new _ _ _
        have hb2 : Below w.heap.size w u := by rw [hu]; exact hb1.alloc hb1.size _
        obtain ⟨fb, hfb⟩ : ∃ b, b = w1.heap.size := ⟨_, rfl⟩
        rw [← hfb] at pF
        have fr := FR.of_below hb2 ob v
        have own1 := own.kept (row := none) (grown_of_below hb2 none) (Classical.em _)
        have hobl := pO.lt
        replace pO := pO.below hb2 pO.lt
        have hs2 := hb2.size
        have hgl : g < w.heap.size := by omega
        go_upto_region 8 with fail
        rw [← hu]
        rw [← hfb]
        clear hu hfb hb1 own
        clear pF
        have hcut0 : ∀ k (hk : k < t.size), t.data.toList.getD k 0 = t[k] := fun k hk => by
          rw [List.getD_eq_getElem?_getD, List.getElem?_eq_getElem (by omega)]
          rfl
        have hvw : VW = (decide (t.size = 2) && (t.data.toList.getD 0 0 == 118 && (decide (48 ≤ (t.data.toList.getD 1 0).toNat) && decide ((t.data.toList.getD 1 0).toNat ≤ 55)))) := by
          rw [HV.out, varW, htl]
          rfl
        go_cut [53] (fun b wx => b = .bool VW ∧ wx = u)
        case first =>
          by_cases h2 : t.size = 2
          · have h2i : (t.size : Int) = 2 := by omega
            rw [hcut0 0 (by omega), hcut0 1 (by omega)] at hvw
            have g1 : t[1].toNat < 256 := t[1].toNat_lt
            have g0 : t[0].toNat < 256 := t[0].toNat_lt
            have e2 : IntKind.i64.wrap (t[1].toNat : Int) = (t[1].toNat : Int) := IntWalk.i64_in _ ⟨by omega, by omega⟩
            have e3 : IntKind.i64.wrap ((t[1].toNat : Int) - 48) = (t[1].toNat : Int) - 48 := IntWalk.i64_in _ ⟨by omega, by omega⟩
            by_cases h18 : t[0].toNat = 118
            · have ht0 : t[0] = 118 := UInt8.toNat_inj.1 h18
              have hin : VW = inB ((t[1].toNat : Int) - 48) 0 7 := by
                have h2d : decide (t.size = 2) = true := by simpa using h2
                rw [hvw, h2d, ht0, Bool.eq_iff_iff]
                simp [inB_iff]
                omega
              have h18i : (t[0].toNat : Int) = 118 := by omega
              clear hvw ht0
              go_wp2_with fail
              refine (l01In_any _ _ _ _).mono ?_
              rintro e w' ⟨rfl, rfl⟩
              go_wp2_with fail
              go_meet
              exact ⟨by rw [hin], rfl⟩
            · have hno : VW = false := by
                rw [hvw]
                have : (t[0] == 118) = false := by simp; intro e; rw [e] at h18; exact h18 rfl
                rw [this]
                simp
              have h18i : ¬ (t[0].toNat : Int) = 118 := by omega
              clear hvw
              subst hno
              go_wp2_with fail
              go_meet
              exact ⟨rfl, rfl⟩
          · have hno : VW = false := by rw [hvw]; simp [h2]
            have h2i : ¬ (t.size : Int) = 2 := by omega
            clear hvw
            subst hno
            go_wp2_with fail
            go_meet
            exact ⟨rfl, rfl⟩
        case rest =>
          obtain ⟨rfl, rfl⟩ := hcut
          cases VW with
          | true =>
            simp only [Bool.true_eq, Bool.and_eq_true, beq_iff_eq, decide_eq_true_eq] at hvw
            obtain ⟨h2, h18, h48, h55⟩ := hvw
            rw [hcut0 1 (by omega)] at h48 h55
            obtain ⟨d, hd⟩ : ∃ d : Int, d = (t[1].toNat : Int) - 48 := ⟨_, rfl⟩
            have hcl : cls t.data.toList = .var d := by rw [cls, HP.out]; simp only [← HV.out, if_true]; rw [hcut0 1 (by omega), hd]
            have hres := Lib.hid (show rdN (f + 1) (t.data.toList :: ws.drop (at0 + 1)) xs.length = some ([⟨2, d, 0, 0, 0, 0⟩], ws.drop (at0 + 1)) by rw [rdN, hcl])
            have e2 : IntKind.i64.wrap (t[1].toNat : Int) = (t[1].toNat : Int) := IntWalk.i64_in _ ⟨by omega, by omega⟩
            have e3 : IntKind.i64.wrap ((t[1].toNat : Int) - 48) = d := by rw [hd]; exact IntWalk.i64_in _ ⟨by omega, by omega⟩
            have h2i : (t.size : Int) = 2 := by omega
            clear hcl hd h18 h48 h55 hcut0
            go_upto_region 9 with fail
            have c0 : wc.cell? ⟨ob, 0, none⟩ = some v := pO.cell 0
            have zO := pO.lt
            have hfo : ¬ ob = wc.heap.size := by omega
            have m1 : (xs).length + 1 ≤ maxLen := by unfold maxLen; omega
            have m2 : ((xs).length + 1) * 48 ≤ 140737488355328 := by omega
            have m3 : base ≤ (wc.alloc (.cells #[.int .i64 2, .int .i64 d, .int .i64 0, .int .i64 0, .int .i64 0, .int .i64 0] 42)).drew.heap.size := by simp; omega
            have m4 : (wc.alloc (.cells #[.int .i64 2, .int .i64 d, .int .i64 0, .int .i64 0, .int .i64 0, .int .i64 0] 42)).drew.heap.size = wc.heap.size + 1 := by simp
            have m5 : ∀ z ∈ ([.int .i64 2, .int .i64 d, .int .i64 0, .int .i64 0, .int .i64 0, .int .i64 0] : List Value), z.oneCell' = true := by simp [Value.oneCell']
            have m6 : (wc.alloc (.cells #[.int .i64 2, .int .i64 d, .int .i64 0, .int .i64 0, .int .i64 0, .int .i64 0] 42)).drew.ownsRow base 42 6 v (xs).length ((xs).flatMap No.cells) := (own1).alloc (.cells #[.int .i64 2, .int .i64 d, .int .i64 0, .int .i64 0, .int .i64 0, .int .i64 0] 42)
            have m7 : ∀ (j : Nat) (z : Value), ([.int .i64 2, .int .i64 d, .int .i64 0, .int .i64 0, .int .i64 0, .int .i64 0] : List Value)[j]? = some z → (wc.alloc (.cells #[.int .i64 2, .int .i64 d, .int .i64 0, .int .i64 0, .int .i64 0, .int .i64 0] 42)).drew.cell? ((⟨wc.heap.size, 0, none⟩ : Addr).add j) = some z := World.news_of_block (cs := #[.int .i64 2, .int .i64 d, .int .i64 0, .int .i64 0, .int .i64 0, .int .i64 0]) (t := 42) (fr := (0, 0)) (heap_alloc_new wc _)
            have m8 : ∀ (g : Nat) (w3 : World), (wc.alloc (.cells #[.int .i64 2, .int .i64 d, .int .i64 0, .int .i64 0, .int .i64 0, .int .i64 0] 42)).drew.grownBy w3 (v).ownBlock → Whole w3 ob 22 #[v] := fun g w3 hg => (show Whole (wc.alloc (.cells #[.int .i64 2, .int .i64 d, .int .i64 0, .int .i64 0, .int .i64 0, .int .i64 0] 42)).drew ob 22 #[v] from pO.alloc (.cells #[.int .i64 2, .int .i64 d, .int .i64 0, .int .i64 0, .int .i64 0, .int .i64 0] 42)).grown hg (fun e => own_apart (own1) pO (by decide) e.symm)
            go_region_law (refine step_append_lies _ rfl (.tmp 57) (.tmp 63) 22 rfl base 42 i0 (.agg #[.int .i64 0, .int .i64 0, .int .i64 0, .int .i64 0, .int .i64 0, .int .i64 0]) 6 48 Tryd.underlying22 hi hz0 hz1 hz2 rfl (Nat.succ_pos 5) v (xs).length ((xs).flatMap No.cells) rfl m6 ⟨wc.heap.size, 0, none⟩ 1 1 [.int .i64 2, .int .i64 d, .int .i64 0, .int .i64 0, .int .i64 0, .int .i64 0] rfl rfl m7 m5 (Nat.succ_pos 0) m1 m2 m3 (wc.heap.size + 1) m4 ?_; intro g3 cap3 w3 own3 hg3 hat3 hlt3; have pO3 := m8 g3 w3 hg3; have cO3 : w3.cell? ⟨ob, 0, none⟩ = some v := pO3.cell 0; have fO3 := pO3.free 0; have zO3 := pO3.lt)
            all_goals
              obtain ⟨k1, k2⟩ := box_app (s := ⟨2, d, 0, 0, 0, 0⟩) (show FR ob w (wc.alloc (.cells #[.int .i64 2, .int .i64 d, .int .i64 0, .int .i64 0, .int .i64 0, .int .i64 0] 42)).drew v v from fr.trans (FR.of_below (((Below.refl _ wc).alloc (Nat.le_refl _) _).drew) ob v)) own3 hg3 (by rw [m4]; exact hat3) pO3
              clear own3 hg3 hat3 pO3 cO3 fO3 zO3 m1 m2 m3 m4 m5 m6 m7 m8
              go_wp2_with fail
              go_ret
              rw [hres.out]
              exact ReadE.some_ k1 k2 (by simp; omega)
          | false =>
            clear hvw hcut0
            obtain ⟨kw, hkw⟩ : ∃ z, z = kindW t.data.toList := ⟨_, rfl⟩
            have hkb := kindW_bd t.data.toList
            rw [← hkw] at hkb
            have HK := Lib.hid hkw
            clear hkw
            go_wp2_with fail
            go_loopw [10, 11] (fun s10 s11 wr => ∃ k : Nat, 3 ≤ k ∧ k ≤ 10 ∧ s11 = .int .i64 k ∧ s10 = .int .i64 (if kw < (k : Int) then kw else 0) ∧ Below wc.heap.size wc wr) (fun _ i _ => 10 - (Go.RowKit.intOf i).toNat)
            case atStart => exact ⟨3, Nat.le_refl _, by omega, rfl, by (split <;> first | rfl | (congr 1; omega)), Below.refl _ _⟩
            case round =>
              obtain ⟨k, hk3, hk10, rfl, hs10, hbr⟩ := hrel
              obtain ⟨z, hz⟩ : ∃ z : Int, z = (if kw < (k : Int) then kw else 0) := ⟨_, rfl⟩
              rw [← hz] at hs10
              subst hs10
              have HZ := Lib.hid hz
              clear hz
              have hsr := hbr.size
              by_cases hk9 : k ≤ 9
              · have hk9i : (k : Int) ≤ 9 := by omega
                have hwk : IntKind.i64.wrap ((k : Int) + 1) = (k : Int) + 1 := IntWalk.i64_in _ ⟨by omega, by omega⟩
                go_wp2_with fail
                refine (sl09Name (k : Int) (by omega) hk9i wr).mono ?_
                rintro e w4 ⟨rfl, hb4⟩
                have hbr4 := hbr.trans (hb4.mono hsr)
                obtain ⟨nm, hnm⟩ : ∃ nm : ByteArray, nm = ⟨(nameL (k : Int)).toArray⟩ := ⟨_, rfl⟩
                have hnl : nm.data.toList = nameL (k : Int) := by rw [hnm]
                have hsv : strV (nameL (k : Int)) = .string nm := by rw [hnm]
                rw [hsv]
                clear hnm hsv hb4
                by_cases hc : nm.data.toList = t.data.toList
                · have hce : (nm.toList == t.toList) = true := by rw [baEq]; simpa using hc
                  have hcq : nm = t := by rw [baList nm, baList t, hc]
                  subst hcq
                  have hkk : kw = (k : Int) := by rw [HK.out]; exact (kindW_iff (by omega) hk9i).1 hnl.symm
                  clear hc hnl
                  go_wp2_with fail
                  go_roundw
                  case rel => exact ⟨k + 1, by omega, by omega, by go_num, by rw [if_pos (by omega), hkk], hbr4⟩
                  case measure => simp [Go.RowKit.intOf]; omega
                · have hce : (nm.toList == t.toList) = false := by rw [baEq]; simpa using hc
                  have hcq : ¬ nm = t := fun e => hc (by rw [e])
                  have hkk : ¬ kw = (k : Int) := fun e => hc (by rw [hnl]; exact (kindW_iff (by omega) hk9i).2 (by rw [← HK.out]; exact e))
                  have hif : (if kw < (k : Int) + 1 then kw else 0) = (if kw < (k : Int) then kw else 0) := by
                    by_cases h : kw < (k : Int)
                    · rw [if_pos h, if_pos (by omega)]
                    · rw [if_neg h, if_neg (by omega)]
                  have HIF := Lib.hid hif.symm
                  clear hc hnl hif
                  go_wp2_with fail
                  go_roundw
                  case rel => exact ⟨k + 1, by omega, by omega, by go_num, by rw [HZ.out, HIF.out]; rfl, hbr4⟩
                  case measure => simp [Go.RowKit.intOf]; omega
              · have hk : k = 10 := by omega
                subst hk
                have hzk : kw = z := by rw [HZ.out]; exact (if_pos (by omega)).symm
                subst hzk
                clear HZ
                replace pO := pO.below hbr pO.lt
                have own2 := own1.kept (row := none) (grown_of_below hbr none) (Classical.em _)
                replace fr := fr.trans (FR.of_below hbr ob v)
                by_cases hk0 : kw = 0
                · have hcl : cls t.data.toList = .bad := by rw [cls, HP.out]; simp only [← HV.out, ← HK.out, hk0]; rfl
                  have hres := Lib.hid (show rdN (f + 1) (t.data.toList :: ws.drop (at0 + 1)) xs.length = none by rw [rdN, hcl])
                  subst hk0
                  clear hcl
                  go_wp2_with fail
                  go_ret
                  rw [hres.out]
                  exact ReadE.none_ ⟨pO, own2⟩ fr
                · have hk39 : 3 ≤ kw ∧ kw ≤ 9 := by omega
                  have hkz : (kw == 0) = false := by simpa using hk0
                  have hcl : cls t.data.toList = .op kw := by rw [cls, HP.out]; simp only [← HV.out, ← HK.out]; simp [hk0]
                  have hdl : (ws.drop (at0 + 1)).length = ws.length - at0 - 1 := by rw [List.length_drop]; omega
                  have hsufw : ws.drop (at0 + 1) <:+ ws := List.drop_suffix _ _
                  obtain ⟨wd, hwd⟩ : ∃ z, z = ws.drop (at0 + 1) := ⟨_, rfl⟩
                  have HWD := Lib.hid hwd
                  rw [← hwd] at hdl hsufw
                  clear hwd
                  have hresN0 : ∀ j ns r ps, j < opN kw → rdL (rdN f) wd xs.length j = some (ns, r, ps) → rdN f r (xs.length + ns.length) = none → rdN (f + 1) (t.data.toList :: wd) xs.length = none := fun j ns r ps hj h1 h2 => by
                    rw [rdN, hcl]
                    simp only [rdL_stop h1 h2 _ hj]
                  have hresS0 : ∀ ns r ps, rdL (rdN f) wd xs.length (opN kw) = some (ns, r, ps) → rdN (f + 1) (t.data.toList :: wd) xs.length = some (ns ++ [⟨kw, ps.getD 0 0, ps.getD 1 0, ps.getD 2 0, 0, 0⟩], r) := fun ns r ps h1 => by
                    rw [rdN, hcl]
                    simp only [h1]
                  have hresN := Lib.hid hresN0
                  have hresS := Lib.hid hresS0
                  clear hresN0 hresS0
                  have HDL := Lib.hid hdl
                  clear hdl
                  obtain ⟨wn, hwn⟩ : ∃ z, z = wr.alloc (.cells #[.int .i64 kw, .int .i64 0, .int .i64 0, .int .i64 0, .int .i64 0, .int .i64 0] 42) := ⟨_, rfl⟩
                  have pN : Whole wn wr.heap.size 42 #[.int .i64 kw, .int .i64 0, .int .i64 0, .int .i64 0, .int .i64 0, .int .i64 0] := by rw [hwn]; exact Whole.new _ _ _
                  have hb3 : Below wr.heap.size wr wn := by rw [hwn]; exact (Below.refl _ wr).alloc (Nat.le_refl _) _
                  obtain ⟨nb, hnb⟩ : ∃ b, b = wr.heap.size := ⟨_, rfl⟩
                  rw [← hnb] at pN
                  have hvn : v.ownBlock ≠ some nb := fun e => by have := (own2.lt nb e).2; omega
                  have hnob : nb ≠ ob := by have := pO.lt; omega
                  have hnw : w.heap.size ≤ nb := by have := fr.size; omega
                  replace pO := pO.below hb3 pO.lt
                  have own3 := own2.kept (row := none) (grown_of_below hb3 none) (Classical.em _)
                  replace fr := fr.trans (FR.of_below hb3 ob v)
                  clear hcl HK HP HV own2 own1 hkb
                  go_upto_region 20 with fail
                  rw [← hwn]
                  rw [← hnb]
                  clear hwn hnb hb3
                  go_wp2_with fail
                  go_loopw [1, 13] (fun s1 s13 wq => ∃ (at1 j : Nat) (ji : Int) (ns : List No) (r : List (List UInt8)) (ps : List Int) (v2 : Value), j ≤ opN kw ∧ ji = j ∧ s13 = .int .i64 ji ∧ at1 = ws.length - r.length ∧ s1 = .int .i64 (at1 : Int) ∧ rdL (rdN f) wd xs.length j = some (ns, r, ps) ∧ BoxN wq base ob v2 (xs ++ ns) ∧ Whole wq nb 42 #[.int .i64 kw, .int .i64 (ps.getD 0 0), .int .i64 (ps.getD 1 0), .int .i64 (ps.getD 2 0), .int .i64 0, .int .i64 0] ∧ FR ob w wq v v2 ∧ v2.ownBlock ≠ some nb) (fun _ i _ => 4 - (Go.RowKit.intOf i).toNat)
                  case atStart => exact ⟨at0 + 1, 0, 0, [], wd, [], v, Nat.zero_le _, rfl, rfl, by have := HDL.out; omega, by go_num, rfl, by rw [List.append_nil]; exact ⟨pO, own3⟩, pN, fr, hvn⟩
                  case round =>
                    obtain ⟨at1, j, ji, ns, r, ps, v2, hj, hji, rfl, ha1, rfl, hrd, hbx, pNq, frq, hvq⟩ := hrel
                    have hdl := HDL.out
                    obtain ⟨⟨g1, g2, -⟩, g4, -⟩ := rdL_good (rdN_good f) hrd
                    have hrl : r.length ≤ wd.length := by omega
                    have hsuf : r <:+ ws := g1.trans hsufw
                    have hdr : ws.drop at1 = r := by rw [ha1]; exact suffix_drop hsuf
                    have hxl2 : (xs ++ ns).length = xs.length + ns.length := List.length_append
                    have hWq := hW.below (frq.below hob hvb hbw)
                    have hszq := frq.size
                    have hIH := ih at1 wr ob v2 (xs ++ ns) (by omega) (by omega) (by omega) hWq hbx hob (by omega)
                    rw [hdr, hxl2] at hIH
                    clear hdr
                    by_cases hjo : j < opN kw
                    · have hm2 : 2 ≤ opN kw ∧ (kw = 9 → opN kw = 3) := by
                        unfold opN
                        split <;> omega
                      have hj3 : j = 0 ∨ j = 1 ∨ (j = 2 ∧ kw = 9) := by
                        unfold opN at hjo
                        split at hjo <;> omega
                      rcases hj3 with hj0 | hj1 | ⟨hj2, hk9⟩
                      · subst hj0
                        have hji0 : ji = 0 := by omega
                        subst hji0
                        have HG := Lib.hid (And.intro ha1 (And.intro g2 (And.intro g4 (And.intro hdl (And.intro hrd (And.intro hjo hm2))))))
                        clear ha1 g2 g4 hdl hrd hj hji hjo hm2 hrl hsuf g1
                        go_wp2_with fail
                        obtain ⟨ha1, g2, g4, hdl, hrd, hjo, hm2⟩ := HG.out
                        refine hIH.mono ?_
                        rintro e w5 ⟨ys, v5, hbx5, fr5, h5⟩
                        have fr6 := frq.trans fr5
                        have pN5 := fr5.whole pNq hnob hvq
                        have hv5 : v5.ownBlock ≠ some nb := fun e => by
                          rcases fr5.own nb e with h | h
                          · exact hvq h
                          · have := pNq.lt; omega
                        cases hr5 : rdN f r (xs.length + ns.length) with
                        | none =>
                          rw [hr5] at h5
                          subst h5
                          have hresn := Lib.hid (hresN.out 0 ns r ps (by omega) (by rw [← hrd]) hr5)
                          clear hr5 hrd hresN hresS hIH ha1 g2 g4 hdl HG hjo hm2
                          go_wp2_with fail
                          go_ret
                          rw [← HWD.out]
                          rw [hresn.out]
                          exact ReadE.none_ hbx5 fr6
                        | some q5 =>
                          obtain ⟨n1, r1⟩ := q5
                          rw [hr5] at h5
                          obtain ⟨he5, rfl⟩ := h5
                          obtain ⟨⟨k1, k2, -⟩, -⟩ := rdN_good f _ _ _ _ hr5
                          have hmore := rdL_more hrd hr5
                          have hr1l : r1.length ≤ ws.length := by omega
                          obtain ⟨at2, hat2⟩ : ∃ z : Nat, z = ws.length - r1.length := ⟨_, rfl⟩
                          have hat3 : (ws.length : Int) - r1.length = (at2 : Int) := by omega
                          rw [hat3] at he5
                          subst he5
                          have HA2 := Lib.hid hat2
                          clear hat2 hat3
                          obtain ⟨B5, n5, cp5, rfl, hn5⟩ := hbx5.shape
                          have hn5e : n5 = xs.length + ns.length + n1.length := by rw [hn5]; simp only [List.length_append]
                          have hw5 : IntKind.i64.wrap ((n5 : Int) - 1) = (n5 : Int) - 1 := IntWalk.i64_in _ ⟨by omega, by omega⟩
                          have c5 := hbx5.cell_
                          have hneg : ¬ (at2 : Int) < 0 := by omega
                          have hsz5 := frq.size
                          have hwj : IntKind.i64.wrap (0 + 1) = 1 := by decide
                          obtain rfl : ps = [] := List.length_eq_zero_iff.1 (by omega)
                          simp only [List.getD_cons_zero, List.getD_cons_succ, List.getD_nil] at pN5
                          have hput := pN5.put 1 (.int .i64 ((n5 : Int) - 1))
                          have hbx6 := hbx5.far (i := 1) hnob hv5 (.int .i64 ((n5 : Int) - 1))
                          have fr7 := fr6.far (i := 1) hnw (.int .i64 ((n5 : Int) - 1))
                          have zN := pN5.lt
                          have zO := hbx5.1.lt
                          have lN := pN5.free 1
                          have lN2 : w5.cell? ⟨nb, 1, none⟩ = some (.int .i64 0) := pN5.cell 1
                          have HN5 := Lib.hid (show (n5 : Int) - 1 = ((xs.length + ns.length + n1.length : Nat) : Int) - 1 by rw [hn5e])
                          have HJ := Lib.hid (show 1 ≤ opN kw by omega)
                          clear hn5 hn5e hr5 hrd hIH hresN hresS hbx hbx5 fr6 fr5 frq pNq g2 ha1 g4 HG hjo hm2
                          have HK2 := Lib.hid k2
                          have HDL2 := Lib.hid hdl
                          clear k2 hdl
                          go_wp2_with fail
                          go_roundw
                          case rel => first | exact ⟨at2, 1, 1, ns ++ n1, r1, _, .slice B5 n5 cp5, HJ.out, rfl, by go_num, HA2.out, by go_num, hmore, by rw [← List.append_assoc]; exact hbx6, by rw [← HN5.out]; exact hput, fr7, hv5⟩ | ((repeat apply Exists.intro); exact ⟨⟨at2, 1, 1, ns ++ n1, r1, _, .slice B5 n5 cp5, HJ.out, rfl, by go_num, HA2.out, by go_num, hmore, by rw [← List.append_assoc]; exact hbx6, by rw [← HN5.out]; exact hput, fr7, hv5⟩, rfl⟩)
                          case measure => simp [Go.RowKit.intOf]
                      · subst hj1
                        have hji0 : ji = 1 := by omega
                        subst hji0
                        have HG := Lib.hid (And.intro ha1 (And.intro g2 (And.intro g4 (And.intro hdl (And.intro hrd (And.intro hjo hm2))))))
                        clear ha1 g2 g4 hdl hrd hj hji hjo hm2 hrl hsuf g1
                        go_wp2_with fail
                        obtain ⟨ha1, g2, g4, hdl, hrd, hjo, hm2⟩ := HG.out
                        refine hIH.mono ?_
                        rintro e w5 ⟨ys, v5, hbx5, fr5, h5⟩
                        have fr6 := frq.trans fr5
                        have pN5 := fr5.whole pNq hnob hvq
                        have hv5 : v5.ownBlock ≠ some nb := fun e => by
                          rcases fr5.own nb e with h | h
                          · exact hvq h
                          · have := pNq.lt; omega
                        cases hr5 : rdN f r (xs.length + ns.length) with
                        | none =>
                          rw [hr5] at h5
                          subst h5
                          have hresn := Lib.hid (hresN.out 1 ns r ps (by omega) (by rw [← hrd]) hr5)
                          clear hr5 hrd hresN hresS hIH ha1 g2 g4 hdl HG hjo hm2
                          go_wp2_with fail
                          go_ret
                          rw [← HWD.out]
                          rw [hresn.out]
                          exact ReadE.none_ hbx5 fr6
                        | some q5 =>
                          obtain ⟨n1, r1⟩ := q5
                          rw [hr5] at h5
                          obtain ⟨he5, rfl⟩ := h5
                          obtain ⟨⟨k1, k2, -⟩, -⟩ := rdN_good f _ _ _ _ hr5
                          have hmore := rdL_more hrd hr5
                          have hr1l : r1.length ≤ ws.length := by omega
                          obtain ⟨at2, hat2⟩ : ∃ z : Nat, z = ws.length - r1.length := ⟨_, rfl⟩
                          have hat3 : (ws.length : Int) - r1.length = (at2 : Int) := by omega
                          rw [hat3] at he5
                          subst he5
                          have HA2 := Lib.hid hat2
                          clear hat2 hat3
                          obtain ⟨B5, n5, cp5, rfl, hn5⟩ := hbx5.shape
                          have hn5e : n5 = xs.length + ns.length + n1.length := by rw [hn5]; simp only [List.length_append]
                          have hw5 : IntKind.i64.wrap ((n5 : Int) - 1) = (n5 : Int) - 1 := IntWalk.i64_in _ ⟨by omega, by omega⟩
                          have c5 := hbx5.cell_
                          have hneg : ¬ (at2 : Int) < 0 := by omega
                          have hsz5 := frq.size
                          have hwj : IntKind.i64.wrap (1 + 1) = 2 := by decide
                          obtain ⟨pa, rfl⟩ : ∃ a, ps = [a] := List.length_eq_one_iff.1 (by omega)
                          simp only [List.getD_cons_zero, List.getD_cons_succ, List.getD_nil] at pN5
                          have hput := pN5.put 2 (.int .i64 ((n5 : Int) - 1))
                          have hbx6 := hbx5.far (i := 2) hnob hv5 (.int .i64 ((n5 : Int) - 1))
                          have fr7 := fr6.far (i := 2) hnw (.int .i64 ((n5 : Int) - 1))
                          have zN := pN5.lt
                          have zO := hbx5.1.lt
                          have lN := pN5.free 2
                          have lN2 : w5.cell? ⟨nb, 2, none⟩ = some (.int .i64 0) := pN5.cell 2
                          have HN5 := Lib.hid (show (n5 : Int) - 1 = ((xs.length + ns.length + n1.length : Nat) : Int) - 1 by rw [hn5e])
                          have HJ := Lib.hid (show 2 ≤ opN kw by omega)
                          clear hn5 hn5e hr5 hrd hIH hresN hresS hbx hbx5 fr6 fr5 frq pNq g2 ha1 g4 HG hjo hm2
                          have HK2 := Lib.hid k2
                          have HDL2 := Lib.hid hdl
                          clear k2 hdl
                          go_wp2_with fail
                          go_roundw
                          case rel => first | exact ⟨at2, 2, 2, ns ++ n1, r1, _, .slice B5 n5 cp5, HJ.out, rfl, by go_num, HA2.out, by go_num, hmore, by rw [← List.append_assoc]; exact hbx6, by rw [← HN5.out]; exact hput, fr7, hv5⟩ | ((repeat apply Exists.intro); exact ⟨⟨at2, 2, 2, ns ++ n1, r1, _, .slice B5 n5 cp5, HJ.out, rfl, by go_num, HA2.out, by go_num, hmore, by rw [← List.append_assoc]; exact hbx6, by rw [← HN5.out]; exact hput, fr7, hv5⟩, rfl⟩)
                          case measure => simp [Go.RowKit.intOf]
                      · subst hj2
                        subst hk9
                        have hji0 : ji = 2 := by omega
                        subst hji0
                        have HG := Lib.hid (And.intro ha1 (And.intro g2 (And.intro g4 (And.intro hdl (And.intro hrd (And.intro hjo hm2))))))
                        clear ha1 g2 g4 hdl hrd hj hji hjo hm2 hrl hsuf g1
                        go_wp2_with fail
                        obtain ⟨ha1, g2, g4, hdl, hrd, hjo, hm2⟩ := HG.out
                        refine hIH.mono ?_
                        rintro e w5 ⟨ys, v5, hbx5, fr5, h5⟩
                        have fr6 := frq.trans fr5
                        have pN5 := fr5.whole pNq hnob hvq
                        have hv5 : v5.ownBlock ≠ some nb := fun e => by
                          rcases fr5.own nb e with h | h
                          · exact hvq h
                          · have := pNq.lt; omega
                        cases hr5 : rdN f r (xs.length + ns.length) with
                        | none =>
                          rw [hr5] at h5
                          subst h5
                          have hresn := Lib.hid (hresN.out 2 ns r ps (by omega) (by rw [← hrd]) hr5)
                          clear hr5 hrd hresN hresS hIH ha1 g2 g4 hdl HG hjo hm2
                          go_wp2_with fail
                          go_ret
                          rw [← HWD.out]
                          rw [hresn.out]
                          exact ReadE.none_ hbx5 fr6
                        | some q5 =>
                          obtain ⟨n1, r1⟩ := q5
                          rw [hr5] at h5
                          obtain ⟨he5, rfl⟩ := h5
                          obtain ⟨⟨k1, k2, -⟩, -⟩ := rdN_good f _ _ _ _ hr5
                          have hmore := rdL_more hrd hr5
                          have hr1l : r1.length ≤ ws.length := by omega
                          obtain ⟨at2, hat2⟩ : ∃ z : Nat, z = ws.length - r1.length := ⟨_, rfl⟩
                          have hat3 : (ws.length : Int) - r1.length = (at2 : Int) := by omega
                          rw [hat3] at he5
                          subst he5
                          have HA2 := Lib.hid hat2
                          clear hat2 hat3
                          obtain ⟨B5, n5, cp5, rfl, hn5⟩ := hbx5.shape
                          have hn5e : n5 = xs.length + ns.length + n1.length := by rw [hn5]; simp only [List.length_append]
                          have hw5 : IntKind.i64.wrap ((n5 : Int) - 1) = (n5 : Int) - 1 := IntWalk.i64_in _ ⟨by omega, by omega⟩
                          have c5 := hbx5.cell_
                          have hneg : ¬ (at2 : Int) < 0 := by omega
                          have hsz5 := frq.size
                          have hwj : IntKind.i64.wrap (2 + 1) = 3 := by decide
                          obtain ⟨pa, pb, rfl⟩ : ∃ a b, ps = [a, b] := by
                            match ps, g4 with
                            | [a, b], _ => exact ⟨a, b, rfl⟩
                          simp only [List.getD_cons_zero, List.getD_cons_succ, List.getD_nil] at pN5
                          have hput := pN5.put 3 (.int .i64 ((n5 : Int) - 1))
                          have hbx6 := hbx5.far (i := 3) hnob hv5 (.int .i64 ((n5 : Int) - 1))
                          have fr7 := fr6.far (i := 3) hnw (.int .i64 ((n5 : Int) - 1))
                          have zN := pN5.lt
                          have zO := hbx5.1.lt
                          have lN := pN5.free 3
                          have lN2 : w5.cell? ⟨nb, 3, none⟩ = some (.int .i64 0) := pN5.cell 3
                          have HN5 := Lib.hid (show (n5 : Int) - 1 = ((xs.length + ns.length + n1.length : Nat) : Int) - 1 by rw [hn5e])
                          have HJ := Lib.hid (show 3 ≤ opN 9 by omega)
                          clear hn5 hn5e hr5 hrd hIH hresN hresS hbx hbx5 fr6 fr5 frq pNq g2 ha1 g4 HG hjo hm2
                          have HK2 := Lib.hid k2
                          have HDL2 := Lib.hid hdl
                          clear k2 hdl
                          go_wp2_with fail
                          go_roundw
                          case rel => first | exact ⟨at2, 3, 3, ns ++ n1, r1, _, .slice B5 n5 cp5, HJ.out, rfl, by go_num, HA2.out, by go_num, hmore, by rw [← List.append_assoc]; exact hbx6, by rw [← HN5.out]; exact hput, fr7, hv5⟩ | ((repeat apply Exists.intro); exact ⟨⟨at2, 3, 3, ns ++ n1, r1, _, .slice B5 n5 cp5, HJ.out, rfl, by go_num, HA2.out, by go_num, hmore, by rw [← List.append_assoc]; exact hbx6, by rw [← HN5.out]; exact hput, fr7, hv5⟩, rfl⟩)
                          case measure => simp [Go.RowKit.intOf]
                    · have hje : j = opN kw := by omega
                      subst hje
                      have hresn := Lib.hid (hresS.out ns r ps hrd)
                      obtain ⟨hjv, hji2⟩ : (2 ≤ ji ∧ ji ≤ 3) ∧ ((ji = 3 ∧ kw = 9) ∨ (ji = 2 ∧ ¬ kw = 9)) := by
                        unfold opN at hji
                        split at hji <;> omega
                      obtain ⟨pa, hpa⟩ : ∃ z, z = ps.getD 0 0 := ⟨_, rfl⟩
                      obtain ⟨pb, hpb⟩ : ∃ z, z = ps.getD 1 0 := ⟨_, rfl⟩
                      obtain ⟨pc, hpc⟩ : ∃ z, z = ps.getD 2 0 := ⟨_, rfl⟩
                      rw [← hpa, ← hpb, ← hpc] at pNq hresn
                      clear hpa hpb hpc
                      obtain ⟨xn, hxn⟩ : ∃ z, z = xs ++ ns := ⟨_, rfl⟩
                      rw [← hxn] at hbx hxl2
                      have hxnl : xn.length ≤ 100 := by omega
                      obtain ⟨pO4, own4⟩ := hbx
                      have HX := Lib.hid hxn
                      clear hxn hxl2
                      rcases hji2 with ⟨hj3, hk9⟩ | ⟨hj2, hk9⟩
                      · subst hj3 hk9
                        clear hji
                        have HM := Lib.hid (And.intro ha1 (And.intro g2 hdl))
                        clear ha1 g2 hdl hj hjo
                        clear hIH hrd hresN hresS g1 g4 hrl hsuf hWq
                        have c0 : wr.cell? ⟨ob, 0, none⟩ = some v2 := pO4.cell 0
                        have zO := pO4.lt
                        have hfo : ¬ ob = wr.heap.size := by omega
                        have zN := pNq.lt
                        have hfn : ¬ nb = wr.heap.size := by omega
                        have n0 := pNq.cell 0
                        have n1 := pNq.cell 1
                        have n2 := pNq.cell 2
                        have n3 := pNq.cell 3
                        have n4 := pNq.cell 4
                        have n5 := pNq.cell 5
                        have hbase4 : base ≤ wr.heap.size := by omega
                        go_upto_region 33 with fail
                        have m1 : (xn).length + 1 ≤ maxLen := by unfold maxLen; omega
                        have m2 : ((xn).length + 1) * 48 ≤ 140737488355328 := by omega
                        have m3 : base ≤ (wr.alloc (.cells #[.int .i64 9, .int .i64 pa, .int .i64 pb, .int .i64 pc, .int .i64 0, .int .i64 0] 42)).drew.heap.size := by simp; omega
                        have m4 : (wr.alloc (.cells #[.int .i64 9, .int .i64 pa, .int .i64 pb, .int .i64 pc, .int .i64 0, .int .i64 0] 42)).drew.heap.size = wr.heap.size + 1 := by simp
                        have m5 : ∀ z ∈ ([.int .i64 9, .int .i64 pa, .int .i64 pb, .int .i64 pc, .int .i64 0, .int .i64 0] : List Value), z.oneCell' = true := by simp [Value.oneCell']
                        have m6 : (wr.alloc (.cells #[.int .i64 9, .int .i64 pa, .int .i64 pb, .int .i64 pc, .int .i64 0, .int .i64 0] 42)).drew.ownsRow base 42 6 v2 (xn).length ((xn).flatMap No.cells) := (own4).alloc (.cells #[.int .i64 9, .int .i64 pa, .int .i64 pb, .int .i64 pc, .int .i64 0, .int .i64 0] 42)
                        have m7 : ∀ (j : Nat) (z : Value), ([.int .i64 9, .int .i64 pa, .int .i64 pb, .int .i64 pc, .int .i64 0, .int .i64 0] : List Value)[j]? = some z → (wr.alloc (.cells #[.int .i64 9, .int .i64 pa, .int .i64 pb, .int .i64 pc, .int .i64 0, .int .i64 0] 42)).drew.cell? ((⟨wr.heap.size, 0, none⟩ : Addr).add j) = some z := World.news_of_block (cs := #[.int .i64 9, .int .i64 pa, .int .i64 pb, .int .i64 pc, .int .i64 0, .int .i64 0]) (t := 42) (fr := (0, 0)) (heap_alloc_new wr _)
                        have m8 : ∀ (g : Nat) (w3 : World), (wr.alloc (.cells #[.int .i64 9, .int .i64 pa, .int .i64 pb, .int .i64 pc, .int .i64 0, .int .i64 0] 42)).drew.grownBy w3 (v2).ownBlock → Whole w3 ob 22 #[v2] := fun g w3 hg => (show Whole (wr.alloc (.cells #[.int .i64 9, .int .i64 pa, .int .i64 pb, .int .i64 pc, .int .i64 0, .int .i64 0] 42)).drew ob 22 #[v2] from pO4.alloc (.cells #[.int .i64 9, .int .i64 pa, .int .i64 pb, .int .i64 pc, .int .i64 0, .int .i64 0] 42)).grown hg (fun e => own_apart (own4) pO4 (by decide) e.symm)
                        go_region_law (refine step_append_lies _ rfl (.tmp 127) (.tmp 129) 22 rfl base 42 i0 (.agg #[.int .i64 0, .int .i64 0, .int .i64 0, .int .i64 0, .int .i64 0, .int .i64 0]) 6 48 Tryd.underlying22 hi hz0 hz1 hz2 rfl (Nat.succ_pos 5) v2 (xn).length ((xn).flatMap No.cells) rfl m6 ⟨wr.heap.size, 0, none⟩ 1 1 [.int .i64 9, .int .i64 pa, .int .i64 pb, .int .i64 pc, .int .i64 0, .int .i64 0] rfl rfl m7 m5 (Nat.succ_pos 0) m1 m2 m3 (wr.heap.size + 1) m4 ?_; intro g3 cap3 w3 own3 hg3 hat3 hlt3; have pO3 := m8 g3 w3 hg3; have cO3 : w3.cell? ⟨ob, 0, none⟩ = some v2 := pO3.cell 0; have fO3 := pO3.free 0; have zO3 := pO3.lt)
                        all_goals
                          obtain ⟨k1, k2⟩ := box_app (s := ⟨9, pa, pb, pc, 0, 0⟩) (FR.of_below (((Below.refl _ wr).alloc (Nat.le_refl _) _).drew) ob v2) own3 hg3 (by rw [m4]; exact hat3) pO3
                          clear own3 hg3 hat3 pO3 cO3 fO3 zO3 m1 m2 m3 m4 m5 m6 m7 m8
                          go_wp2_with fail
                          go_ret
                          obtain ⟨ha1, g2, hdl⟩ := HM.out
                          rw [← HWD.out]
                          rw [hresn.out]
                          exact ReadE.some_ (by rw [← List.append_assoc, ← HX.out]; exact k1) (frq.trans k2) (by omega)
                      · subst hj2
                        clear hji hjv
                        have HM := Lib.hid (And.intro ha1 (And.intro g2 hdl))
                        clear ha1 g2 hdl hj hjo
                        clear hIH hrd hresN hresS g1 g4 hrl hsuf hWq
                        have c0 : wr.cell? ⟨ob, 0, none⟩ = some v2 := pO4.cell 0
                        have zO := pO4.lt
                        have hfo : ¬ ob = wr.heap.size := by omega
                        have zN := pNq.lt
                        have hfn : ¬ nb = wr.heap.size := by omega
                        have n0 := pNq.cell 0
                        have n1 := pNq.cell 1
                        have n2 := pNq.cell 2
                        have n3 := pNq.cell 3
                        have n4 := pNq.cell 4
                        have n5 := pNq.cell 5
                        have hbase4 : base ≤ wr.heap.size := by omega
                        go_upto_region 33 with fail
                        have m1 : (xn).length + 1 ≤ maxLen := by unfold maxLen; omega
                        have m2 : ((xn).length + 1) * 48 ≤ 140737488355328 := by omega
                        have m3 : base ≤ (wr.alloc (.cells #[.int .i64 kw, .int .i64 pa, .int .i64 pb, .int .i64 pc, .int .i64 0, .int .i64 0] 42)).drew.heap.size := by simp; omega
                        have m4 : (wr.alloc (.cells #[.int .i64 kw, .int .i64 pa, .int .i64 pb, .int .i64 pc, .int .i64 0, .int .i64 0] 42)).drew.heap.size = wr.heap.size + 1 := by simp
                        have m5 : ∀ z ∈ ([.int .i64 kw, .int .i64 pa, .int .i64 pb, .int .i64 pc, .int .i64 0, .int .i64 0] : List Value), z.oneCell' = true := by simp [Value.oneCell']
                        have m6 : (wr.alloc (.cells #[.int .i64 kw, .int .i64 pa, .int .i64 pb, .int .i64 pc, .int .i64 0, .int .i64 0] 42)).drew.ownsRow base 42 6 v2 (xn).length ((xn).flatMap No.cells) := (own4).alloc (.cells #[.int .i64 kw, .int .i64 pa, .int .i64 pb, .int .i64 pc, .int .i64 0, .int .i64 0] 42)
                        have m7 : ∀ (j : Nat) (z : Value), ([.int .i64 kw, .int .i64 pa, .int .i64 pb, .int .i64 pc, .int .i64 0, .int .i64 0] : List Value)[j]? = some z → (wr.alloc (.cells #[.int .i64 kw, .int .i64 pa, .int .i64 pb, .int .i64 pc, .int .i64 0, .int .i64 0] 42)).drew.cell? ((⟨wr.heap.size, 0, none⟩ : Addr).add j) = some z := World.news_of_block (cs := #[.int .i64 kw, .int .i64 pa, .int .i64 pb, .int .i64 pc, .int .i64 0, .int .i64 0]) (t := 42) (fr := (0, 0)) (heap_alloc_new wr _)
                        have m8 : ∀ (g : Nat) (w3 : World), (wr.alloc (.cells #[.int .i64 kw, .int .i64 pa, .int .i64 pb, .int .i64 pc, .int .i64 0, .int .i64 0] 42)).drew.grownBy w3 (v2).ownBlock → Whole w3 ob 22 #[v2] := fun g w3 hg => (show Whole (wr.alloc (.cells #[.int .i64 kw, .int .i64 pa, .int .i64 pb, .int .i64 pc, .int .i64 0, .int .i64 0] 42)).drew ob 22 #[v2] from pO4.alloc (.cells #[.int .i64 kw, .int .i64 pa, .int .i64 pb, .int .i64 pc, .int .i64 0, .int .i64 0] 42)).grown hg (fun e => own_apart (own4) pO4 (by decide) e.symm)
                        go_region_law (refine step_append_lies _ rfl (.tmp 127) (.tmp 129) 22 rfl base 42 i0 (.agg #[.int .i64 0, .int .i64 0, .int .i64 0, .int .i64 0, .int .i64 0, .int .i64 0]) 6 48 Tryd.underlying22 hi hz0 hz1 hz2 rfl (Nat.succ_pos 5) v2 (xn).length ((xn).flatMap No.cells) rfl m6 ⟨wr.heap.size, 0, none⟩ 1 1 [.int .i64 kw, .int .i64 pa, .int .i64 pb, .int .i64 pc, .int .i64 0, .int .i64 0] rfl rfl m7 m5 (Nat.succ_pos 0) m1 m2 m3 (wr.heap.size + 1) m4 ?_; intro g3 cap3 w3 own3 hg3 hat3 hlt3; have pO3 := m8 g3 w3 hg3; have cO3 : w3.cell? ⟨ob, 0, none⟩ = some v2 := pO3.cell 0; have fO3 := pO3.free 0; have zO3 := pO3.lt)
                        all_goals
                          obtain ⟨k1, k2⟩ := box_app (s := ⟨kw, pa, pb, pc, 0, 0⟩) (FR.of_below (((Below.refl _ wr).alloc (Nat.le_refl _) _).drew) ob v2) own3 hg3 (by rw [m4]; exact hat3) pO3
                          clear own3 hg3 hat3 pO3 cO3 fO3 zO3 m1 m2 m3 m4 m5 m6 m7 m8
                          go_wp2_with fail
                          go_ret
                          obtain ⟨ha1, g2, hdl⟩ := HM.out
                          rw [← HWD.out]
                          rw [hresn.out]
                          exact ReadE.some_ (by rw [← List.append_assoc, ← HX.out]; exact k1) (frq.trans k2) (by omega)
    · have hge : (ws.length : Int) ≤ (at0 : Int) := by omega
      have hresn := Lib.hid (show rdN (f + 1) (ws.drop at0) xs.length = none by rw [List.drop_eq_nil_of_le (by omega)]; rfl)
      clear ih
      go_enter Tryd.func10, Tryd.ntmps10
      go_wp2_with fail
      go_ret
      rw [hresn.out]
      exact ReadE.none_ ⟨pO, own⟩ (FR.refl ob w v)
end Go.Proofs.YtanpmbiblibgfaaDoor
