/- The law of a formula and of the formula out of its text. Conditions: the variables that the row lists lie as the library lays them. -/
import Derived.Test.YtanpmbiblibgfaaGreatDoorPFm
import Derived.Test.YtanpmbiblibgfaaGreatDoorFFor
import Derived.Test.YtanpmbiblibgfaaGreatDoorParW
import Derived.Test.YtanpmbiblibgfaaGreatDoorDrawV
import Derived.Test.YtanpmbiblibgfaaGreatDoorEvalO
import Derived.Test.YtanpmbiblibgfaaGreatDoorPlaces
import Derived.Deep.Cut
import Derived.BigQuiet
namespace Go.Proofs.YtanpmbiblibgfaaGreatDoor
open Go.RowKit Go.Lib
set_option linter.unusedVariables false
theorem laidP_ft {W : World} (h : laidMet Tryz.prog Rows.fnFormulaTextsRow.laid W) : LaidP W :=
  ⟨⟨laidW_of h (by kernel_rfl), sentinelOf (g := 3) (D := Rows.laid_strconv_ErrSyntax) h (by kernel_rfl) ⟨_, _, rfl⟩ (by kernel_rfl) (by kernel_rfl), sentinelOf (g := 4) (D := Rows.laid_strconv_ErrRange) h (by kernel_rfl) ⟨_, _, rfl⟩ (by kernel_rfl) (by kernel_rfl)⟩, by
    have k := h.filter (fun x => x.1 == "strings.asciiSpace")
    rw [show Rows.fnFormulaTextsRow.laid.filter (fun x => x.1 == "strings.asciiSpace") = [("strings.asciiSpace", Lib.tabData .u8 Lib.asciiSpaceTab)] by kernel_rfl] at k
    exact Lib.tabIs_of_head (g := 0) (t := 89) (e := 5) (n := 256) (by kernel_rfl) (by kernel_rfl) Tryz.underlying89 Tryz.underlying5 (by kernel_rfl) (by kernel_rfl) k⟩
theorem pFo_txt {N : Nat → No} {n : Nat} (hf : formB n N = true) (h24 : (wd N (n - 1)).length ≤ 24) : ∃ ns, pFo (txt (wd N (n - 1))) = some ns ∧ ns.length = (wd N (n - 1)).length ∧ 1 ≤ ns.length ∧ ftxt ns.length (noL ns) = txt (wd N (n - 1)) ∧ ∀ m V x, evOne n m N V = some x → evOne ns.length m (noL ns) V = some x := by
  have hl := formB_len hf
  obtain ⟨ns, h1, h2, h3, h4, h5⟩ := text_back hf h24
  refine ⟨ns, ?_, h2, (formB_len h3).1, ?_, h5⟩
  · rw [pFo_some (sfL_txt (formB_at hf) (by omega) h24)]
    exact h1
  · rw [ftxt, if_pos ⟨h3, by rw [h4]; exact h24⟩, h4]

set_option maxRecDepth 8000 in
set_option maxHeartbeats 6400000 in
theorem walkFormulaTexts (A : Option Addr) (n c : Nat) (w : World) (hb : Bys w w.heap.size A n) (hL : laidMet Tryz.prog Rows.fnFormulaTextsRow.laid w) :
    Calls Tryz.prog 3 #[.slice A n c] w fun e w' => e = .returned (.bool true) ∧ Below w.heap.size w w' := by
  have hn := hb.1
  by_cases hbig : (1048576 : Int) < n
  · have hd : decide ((1048576 : Int) < n) = true := by simpa using hbig
    go_enter Tryz.func3, Tryz.ntmps3
    go_wp2_with fail
    refine (lBig _ _ _ _ (by omega)).mono ?_
    rintro e w' ⟨rfl, rfl⟩
    go_wp2_with fail
    go_ret
    exact ⟨rfl, Below.refl _ _⟩
  · have hbg : decide ((1048576 : Int) < n) = false := by simpa using hbig
    have hT := laidP_ft hL
    clear hL
    go_enter Tryz.func3, Tryz.ntmps3
    go_wp2_with fail
    refine (lBig _ _ _ _ (by omega)).mono ?_
    rintro e w' ⟨rfl, rfl⟩
    go_wp2_with fail
    refine (sDrawFormula _ _ _ _ hb).mono ?_
    rintro e w1 ⟨k, D, cd, N, VA, vc, V, rfl, hk1, hk9, hf, hvg, rd, rdV, hb1⟩
    have hs1 := hb1.size
    have hsz := szL_val hf
    by_cases h24 : (wd N (k - 1)).length ≤ 24
    · obtain ⟨ns, hp, hnl, hn1, hft, hev⟩ := pFo_txt hf h24
      have hf1 : ftxt k N = txt (wd N (k - 1)) := by rw [ftxt, if_pos ⟨hf, h24⟩]
      have hsz2 : szL k N = (ns.length : Int) := by rw [hsz, hnl, m25, if_neg (by omega)]
      obtain ⟨L, hLL⟩ : ∃ L, L = txt (wd N (k - 1)) := ⟨_, rfl⟩
      obtain ⟨sb, hsb⟩ : ∃ sb : ByteArray, sb = ⟨L.toArray⟩ := ⟨_, rfl⟩
      have hsv : strV L = .string sb := by rw [hsb]
      have hsl : sb.data.toList = L := by rw [hsb]
      rw [← hLL] at hp hf1 hft
      have FF : ∀ v : World, RdNo v v.heap.size D k N → LaidP v → Calls Tryz.prog 6 #[.slice D k cd] v fun e w' => e = .returned (.string sb) ∧ Below v.heap.size v w' := fun v h hv => by
        have k0 := iFormatFormula v D k cd N h (by omega) hv.1.1
        rw [hf1, hsv] at k0
        exact k0
      obtain ⟨l, hl⟩ : ∃ l, l = ns.length := ⟨_, rfl⟩
      have hl24 : l ≤ 24 := by omega
      have SZ : ∀ v : World, RdNo v v.heap.size D k N → Calls Tryz.prog 7 #[.slice D k cd] v fun e w' => e = .returned (.int .i64 (l : Int)) ∧ Below v.heap.size v w' := fun v h => by
        have k0 := iFormulaSize v D k cd N h (by omega)
        rw [hsz2, ← hl] at k0
        exact k0
      have PF : ∀ v : World, LaidP v → Calls Tryz.prog 8 #[.string sb] v fun e w' => ∃ (A : Option Addr) (c : Nat), e = .returned (.tuple #[.slice A l c, .bool true]) ∧ RdNo w' w'.heap.size A l (noL ns) ∧ Below v.heap.size v w' := fun v hv => (iParseFormula sb v hv).mono fun e w' h => by
        rw [hsl, hp] at h
        obtain ⟨A, c, h1, h2, h3⟩ := h
        have hq : OwR w' v.heap.size 46 6 (.slice A ns.length c) ns.length (noAt (noL ns)) := OwNo.list h2 rfl
        rw [← hl] at hq
        exact ⟨A, c, by rw [hl]; exact h1, RdNo.own hq, h3⟩
      have F2 : ∀ (v : World) (A : Option Addr) (c : Nat), RdNo v v.heap.size A l (noL ns) → LaidP v → Calls Tryz.prog 6 #[.slice A l c] v fun e w' => e = .returned (.string sb) ∧ Below v.heap.size v w' := fun v A c h hv => by
        have k0 := iFormatFormula v A l c (noL ns) h (by omega) hv.1.1
        rw [hl, hft, hsv, ← hl] at k0
        exact k0
      have E1 := fun (v : World) (h1 : RdNo v v.heap.size D k N) (h2 : RdFr v v.heap.size VA 8 V) => sEval v D VA k cd 8 vc N V h1 h2 (by omega)
      have E2 := fun (v : World) (A : Option Addr) (c : Nat) (h1 : RdNo v v.heap.size A l (noL ns)) (h2 : RdFr v v.heap.size VA 8 V) => sEval v A VA l c 8 vc (noL ns) V h1 h2 (by omega)
      have hev8 := hev 8 V
      rw [← hl] at hev8
      obtain ⟨X, hX⟩ : ∃ X, X = evOne k 8 N V := ⟨_, rfl⟩
      obtain ⟨Y, hY⟩ : ∃ Y, Y = evOne l 8 (noL ns) V := ⟨_, rfl⟩
      rw [← hX] at E1 hev8
      rw [← hY] at E2 hev8
      simp only [vOpt] at E1 E2
      have HEV := Lib.hid hev8
      have hq24 : ¬ (24 : Int) < l := by omega
      clear hf1 hft hev hev8 hX hY hLL hp hf hvg hsv hsl hsb hsz hsz2 hl hn1 hnl h24 hl24
      go_wp2_with fail
      refine (FF w1 rd (hT.below hb1)).mono ?_
      rintro e w2 ⟨rfl, hb2⟩
      have hB2 := hb1.trans (hb2.mono hs1)
      replace rd := (rd.below hb2).more hb2.size
      replace rdV := (rdV.below hb2).more hb2.size
      clear FF
      go_wp2_with fail
      refine (SZ w2 rd).mono ?_
      rintro e w3 ⟨rfl, hb3⟩
      have hB3 := hB2.trans (hb3.mono hB2.size)
      replace rd := (rd.below hb3).more hb3.size
      replace rdV := (rdV.below hb3).more hb3.size
      clear SZ hb2
      go_wp2_with fail
      refine (PF w3 (hT.below hB3)).mono ?_
      rintro e w4 ⟨B, d, rfl, rdB, hb4⟩
      have hB4 := hB3.trans (hb4.mono hB3.size)
      replace rd := (rd.below hb4).more hb4.size
      replace rdV := (rdV.below hb4).more hb4.size
      clear PF hb3
      go_wp2_with fail
      refine (F2 w4 B d rdB (hT.below hB4)).mono ?_
      rintro e w5 ⟨rfl, hb5⟩
      have hB5 := hB4.trans (hb5.mono hB4.size)
      replace rd := (rd.below hb5).more hb5.size
      replace rdV := (rdV.below hb5).more hb5.size
      replace rdB := (rdB.below hb5).more hb5.size
      clear F2 hb4
      go_wp2_with fail
      refine (E1 w5 rd rdV).mono ?_
      rintro e w6 ⟨rfl, hb6⟩
      have hB6 := hB5.trans (hb6.mono hB5.size)
      replace rdV := (rdV.below hb6).more hb6.size
      replace rdB := (rdB.below hb6).more hb6.size
      clear E1 rd hb5 hb6
      cases X with
      | none =>
        simp only [oN_none, oD_none, oB_none]
        obtain ⟨yn, hyn⟩ : ∃ z, z = oN Y := ⟨_, rfl⟩
        obtain ⟨yd, hyd⟩ : ∃ z, z = oD Y := ⟨_, rfl⟩
        obtain ⟨yb, hyb⟩ : ∃ z, z = oB Y := ⟨_, rfl⟩
        rw [← hyn, ← hyd, ← hyb] at E2
        clear hyn hyd hyb HEV
        have hx6 := (Below.refl w6.heap.size w6).alloc (Nat.le_refl _) (.cells #[.int .i64 0, .int .i64 0] 33)
        have pX := Whole.new w6 33 #[.int .i64 0, .int .i64 0]
        have hA6 := hB6.trans (hx6.mono hB6.size)
        replace rdB := (rdB.below hx6).more hx6.size
        replace rdV := (rdV.below hx6).more hx6.size
        obtain ⟨bx, hbx⟩ : ∃ b, b = w6.heap.size := ⟨_, rfl⟩
        obtain ⟨u6, hu6⟩ : ∃ u, u = w6.alloc (.cells #[.int .i64 0, .int .i64 0] 33) := ⟨_, rfl⟩
        rw [← hu6] at pX hA6 rdB rdV
        rw [← hbx] at pX
        clear hx6
        go_upto_region 12 with fail
        rw [← hu6]
        rw [← hbx]
        clear hu6 hbx
        have c0 : u6.cell? ⟨bx, 0, none⟩ = some (.int .i64 0) := pX.cell 0
        have c1 : u6.cell? ⟨bx, 1, none⟩ = some (.int .i64 0) := pX.cell 1
        have zX := pX.lt
        go_wp2_with fail
        refine (E2 u6 B d rdB rdV).mono ?_
        rintro e w7 ⟨rfl, hb7⟩
        clear c0 c1 zX rdB rdV E2
        replace pX := pX.below hb7 pX.lt
        have hB7 := hA6.trans (hb7.mono hA6.size)
        have hx7 := (Below.refl w7.heap.size w7).alloc (Nat.le_refl _) (.cells #[.int .i64 yn, .int .i64 yd] 33)
        have pY := Whole.new w7 33 #[.int .i64 yn, .int .i64 yd]
        replace pX := pX.below hx7 pX.lt
        have hA7 := hB7.trans (hx7.mono hB7.size)
        obtain ⟨bY, hbY⟩ : ∃ b, b = w7.heap.size := ⟨_, rfl⟩
        obtain ⟨u7, hu7⟩ : ∃ u, u = w7.alloc (.cells #[.int .i64 yn, .int .i64 yd] 33) := ⟨_, rfl⟩
        rw [← hu7] at pX pY hA7
        rw [← hbY] at pY
        clear hx7 hb7
        go_upto_region 13 with fail
        rw [← hu7]
        rw [← hbY]
        clear hu7 hbY
        have c0 : u7.cell? ⟨bx, 0, none⟩ = some (.int .i64 0) := pX.cell 0
        have c1 : u7.cell? ⟨bx, 1, none⟩ = some (.int .i64 0) := pX.cell 1
        have zX := pX.lt
        have d0 : u7.cell? ⟨bY, 0, none⟩ = some (.int .i64 yn) := pY.cell 0
        have d1 : u7.cell? ⟨bY, 1, none⟩ = some (.int .i64 yd) := pY.cell 1
        have zY := pY.lt
        go_wp2_with fail
        go_ret
        exact ⟨ret_bool (by simp), hA7⟩
      | some x =>
        obtain ⟨xn, xd⟩ := x
        have hY := HEV.out _ rfl
        subst hY
        simp only [oN_some, oD_some, oB_some] at E2 ⊢
        clear HEV
        have hx6 := (Below.refl w6.heap.size w6).alloc (Nat.le_refl _) (.cells #[.int .i64 xn, .int .i64 xd] 33)
        have pX := Whole.new w6 33 #[.int .i64 xn, .int .i64 xd]
        have hA6 := hB6.trans (hx6.mono hB6.size)
        replace rdB := (rdB.below hx6).more hx6.size
        replace rdV := (rdV.below hx6).more hx6.size
        obtain ⟨bx, hbx⟩ : ∃ b, b = w6.heap.size := ⟨_, rfl⟩
        obtain ⟨u6, hu6⟩ : ∃ u, u = w6.alloc (.cells #[.int .i64 xn, .int .i64 xd] 33) := ⟨_, rfl⟩
        rw [← hu6] at pX hA6 rdB rdV
        rw [← hbx] at pX
        clear hx6
        go_upto_region 12 with fail
        rw [← hu6]
        rw [← hbx]
        clear hu6 hbx
        have c0 : u6.cell? ⟨bx, 0, none⟩ = some (.int .i64 xn) := pX.cell 0
        have c1 : u6.cell? ⟨bx, 1, none⟩ = some (.int .i64 xd) := pX.cell 1
        have zX := pX.lt
        go_wp2_with fail
        refine (E2 u6 B d rdB rdV).mono ?_
        rintro e w7 ⟨rfl, hb7⟩
        clear c0 c1 zX rdB rdV E2
        replace pX := pX.below hb7 pX.lt
        have hB7 := hA6.trans (hb7.mono hA6.size)
        have hx7 := (Below.refl w7.heap.size w7).alloc (Nat.le_refl _) (.cells #[.int .i64 xn, .int .i64 xd] 33)
        have pY := Whole.new w7 33 #[.int .i64 xn, .int .i64 xd]
        replace pX := pX.below hx7 pX.lt
        have hA7 := hB7.trans (hx7.mono hB7.size)
        obtain ⟨bY, hbY⟩ : ∃ b, b = w7.heap.size := ⟨_, rfl⟩
        obtain ⟨u7, hu7⟩ : ∃ u, u = w7.alloc (.cells #[.int .i64 xn, .int .i64 xd] 33) := ⟨_, rfl⟩
        rw [← hu7] at pX pY hA7
        rw [← hbY] at pY
        clear hx7 hb7
        go_upto_region 13 with fail
        rw [← hu7]
        rw [← hbY]
        clear hu7 hbY
        have c0 : u7.cell? ⟨bx, 0, none⟩ = some (.int .i64 xn) := pX.cell 0
        have c1 : u7.cell? ⟨bx, 1, none⟩ = some (.int .i64 xd) := pX.cell 1
        have zX := pX.lt
        have d0 : u7.cell? ⟨bY, 0, none⟩ = some (.int .i64 xn) := pY.cell 0
        have d1 : u7.cell? ⟨bY, 1, none⟩ = some (.int .i64 xd) := pY.cell 1
        have zY := pY.lt
        go_wp2_with fail
        go_ret
        exact ⟨ret_bool (by simp), hA7⟩
    · have hf1 : ftxt k N = [] := by rw [ftxt, if_neg (fun h => h24 h.2)]
      have hsz2 : szL k N = 25 := by rw [hsz, m25]; split <;> omega
      have FF : ∀ v : World, RdNo v v.heap.size D k N → LaidP v → Calls Tryz.prog 6 #[.slice D k cd] v fun e w' => e = .returned (.string ⟨#[]⟩) ∧ Below v.heap.size v w' := fun v h hv => by
        have k0 := iFormatFormula v D k cd N h (by omega) hv.1.1
        rw [hf1] at k0
        exact k0
      have SZ : ∀ v : World, RdNo v v.heap.size D k N → Calls Tryz.prog 7 #[.slice D k cd] v fun e w' => e = .returned (.int .i64 25) ∧ Below v.heap.size v w' := fun v h => by
        have k0 := iFormulaSize v D k cd N h (by omega)
        rw [hsz2] at k0
        exact k0
      clear hf1 hsz hsz2 h24 hf hvg
      go_wp2_with fail
      refine (FF w1 rd (hT.below hb1)).mono ?_
      rintro e w2 ⟨rfl, hb2⟩
      have hB2 := hb1.trans (hb2.mono hs1)
      replace rd := (rd.below hb2).more hb2.size
      clear FF
      go_wp2_with fail
      refine (SZ w2 rd).mono ?_
      rintro e w3 ⟨rfl, hb3⟩
      have hB3 := hB2.trans (hb3.mono hB2.size)
      clear SZ
      go_wp2_with fail
      go_ret
      exact ⟨rfl, hB3⟩
end Go.Proofs.YtanpmbiblibgfaaGreatDoor
