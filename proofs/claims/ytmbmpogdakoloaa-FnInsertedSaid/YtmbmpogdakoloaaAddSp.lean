/- AddSpell of the program and of the reference. Conditions: the spells can be read. -/
import Derived.Test.YtmbmpogdakoloaaIns
import Derived.Test.YtmbmpogdakoloaaSpOk
import Derived.Deep.DeepCutAuto
import Derived.Deep.RegionWith
namespace Go.Proofs.Ytmbmpogdakoloaa
open Go.RowKit
set_option linter.unusedVariables false

/-- The first of k spells that begins behind v, or k. -/
def atL (L : Nat → Sp) (v : Int) : Nat → Nat
  | 0 => 0
  | k + 1 => if atL L v k < k then atL L v k else if v < (L k).f then k else k + 1
theorem atL_le (L : Nat → Sp) (v : Int) : ∀ k, atL L v k ≤ k
  | 0 => Nat.le_refl _
  | k + 1 => by
    have := atL_le L v k
    rw [atL]
    split
    · omega
    · split <;> omega
theorem atL_no {L : Nat → Sp} {v : Int} : ∀ {k : Nat}, (∀ j, j < k → (L j).f ≤ v) → atL L v k = k
  | 0, _ => rfl
  | k + 1, h => by
    have := atL_no (k := k) fun j hj => h j (by omega)
    rw [atL, if_neg (by omega), if_neg (by have := h k (by omega); omega)]
theorem atL_hit {L : Nat → Sp} {v : Int} {k : Nat} (h : ∀ j, j < k → (L j).f ≤ v) (hk : v < (L k).f) : ∀ n, k < n → atL L v n = k
  | 0, h0 => by omega
  | n + 1, hn => by
    rw [atL]
    by_cases e : k < n
    · rw [atL_hit h hk n e, if_pos e]
    · have e2 : k = n := by omega
      subst e2
      rw [atL_no h, if_neg (by omega), if_pos hk]
def addL (n : Nat) (L : Nat → Sp) (x : Sp) : Nat → Sp := insL L (atL L x.f n) x
def addOk (n : Nat) (L : Nat → Sp) (x : Sp) : Bool := spOk n L && spOk (n + 1) (addL n L x)
def addM (n : Nat) (L : Nat → Sp) (x : Sp) : Nat → Sp := if addOk n L x = true then addL n L x else L
def addN (n : Nat) (L : Nat → Sp) (x : Sp) : Nat := if addOk n L x = true then n + 1 else n

theorem OwL.alloc {w : World} {base n : Nat} {v : Value} {L : Nat → Sp} (h : OwL w base v n L) (o : Obj) : OwL (w.alloc o) base v n L := World.ownsRow.alloc h o
theorem iInsert (w : World) (base : Nat) (B : Option Addr) (n c i : Nat) (L : Nat → Sp) (vb : Nat) (x : Sp) (own : OwL w base (.slice B n c) n L) (hv : Whole w vb 29 x.cells.toArray) (hne : (Value.slice B n c).ownBlock ≠ some vb) (hb : base ≤ w.heap.size) (hn : n ≤ 1048580) (hi : i ≤ n) :
    Calls Try.prog 59 #[.slice B n c, .int .i64 i, .slice (some ⟨vb, 0, none⟩) 1 1] w fun e w' => ∃ (B' : Option Addr) (c' : Nat), e = .returned (.slice B' (n + 1) c') ∧ OwR w' base 29 4 (.slice B' (n + 1) c') (n + 1) (spAt (insL L i x)) ∧ Below base w w' := by
  by_cases e : i = n
  · subst e
    exact iInsEnd w base B i c L vb x own hv hb hn
  · rcases own.ow with ⟨_, h0⟩ | ⟨g, cap, G, hs, hbg, hnc, hcm, hr, hG⟩
    · omega
    · injection hs with h1 _ h2
      subst h1 h2
      have hne2 : vb ≠ g := fun e => hne (by rw [e]; rfl)
      by_cases hc : n + 1 ≤ c
      · exact iInsShift w base g n c i L vb x G hr hG hbg (by omega) hc hcm hv hne2 hb hn
      · exact iInsGrow w base g n c i L vb x G hr hG (by omega) hnc (by omega) hv hb hn

theorem iClo (s : Sp) (w : World) (xb : Nat) (v : Int) (hx : w.cell? ⟨xb, 0, none⟩ = some (.int .i64 v)) (hxl : xb < w.heap.size) :
    Calls Try.prog 58 #[s.val, .pointer (some ⟨xb, 0, none⟩)] w fun e w' => e = .returned (.bool (decide (v < s.f))) ∧ Below w.heap.size w w' := by
  have hne : ¬ xb = w.heap.size := by omega
  go_enter Try.func58, Try.ntmps58
  go_wp2_with fail
  go_ret
  exact ⟨by simp, (by (repeat (first | (with_reducible exact Below.refl _ _) | ((with_reducible refine Below.alloc ?_ ?_ _); rotate_left; focus (first | exact Nat.le_refl _ | omega | (simp; done) | (simp; omega))))))⟩

set_option maxHeartbeats 800000 in
theorem iIndexF (w : World) (A : Option Addr) (n c : Nat) (L : Nat → Sp) (h : RdSp w w.heap.size A n L) (xb : Nat) (v : Int) (hx : w.cell? ⟨xb, 0, none⟩ = some (.int .i64 v)) (hxl : xb < w.heap.size) :
    Calls Try.prog 57 #[.slice A n c, .func (.func 58) #[] #[.pointer (some ⟨xb, 0, none⟩)]] w fun e w' => e = .returned (.int .i64 (if atL L v n < n then (atL L v n : Int) else -1)) ∧ Below w.heap.size w w' := by
  have hn := h.1
  obtain ⟨R, hR⟩ : ∃ R : Int, R = (if atL L v n < n then (atL L v n : Int) else -1) := ⟨_, rfl⟩
  rw [← hR]
  replace hR := Lib.hid hR
  go_enter Try.func57, Try.ntmps57
  go_wp2_with fail
  go_loopw [5, 8] (fun _ i wr => ∃ k : Nat, k ≤ n ∧ i = .int .i64 k ∧ Hid (∀ j, j < k → (L j).f ≤ v) ∧ Below w.heap.size w wr) (fun _ i _ => n - (intOf i).toNat)
  case atStart => exact ⟨0, Nat.zero_le _, rfl, Lib.hid (fun j hj => absurd hj (Nat.not_lt_zero _)), Below.refl _ _⟩
  case round =>
    obtain ⟨k, hk, rfl, hno, hbr⟩ := hrel
    have hs1 := hbr.size
    by_cases hlt : k < n
    · obtain ⟨b, off, rfl, hbB, h0, h1, h2, h3⟩ := (h.below hbr).2 k hlt
      have hlt2 : (k : Int) < n := by omega
      have hx2 : wr.cell? ⟨xb, 0, none⟩ = some (.int .i64 v) := (hbr.cell (p := ⟨xb, 0, none⟩) hxl).trans hx
      clear h hx
      go_wp2_with fail
      refine (iClo (L k) wr xb v hx2 (by omega)).mono ?_
      rintro e w2 ⟨rfl, hb2⟩
      have hbr2 := hbr.trans (hb2.mono hs1)
      by_cases hq : v < (L k).f
      · have hh := atL_hit hno.out hq n hlt
        have hRk : R = k := by rw [hR.out, hh, if_pos hlt]
        subst hRk
        clear hh hb2 hbr hx2 h0 h1 h2 h3
        go_wp2_with fail
        go_ret
        exact ⟨rfl, hbr2⟩
      · have hno2 : Hid (∀ j, j < k + 1 → (L j).f ≤ v) := Lib.hid fun j hj => by
          by_cases e : j = k
          · rw [e]; omega
          · exact hno.out j (by omega)
        clear hb2 hbr hx2 h0 h1 h2 h3
        go_wp2_with fail
        go_roundw
        case rel => exact ⟨k + 1, by omega, by go_num, hno2, hbr2⟩
        case measure => simp [intOf]; omega
    · have hkn : k = n := by omega
      subst hkn
      have hRk : R = -1 := by rw [hR.out, atL_no hno.out, if_neg (by omega)]
      subst hRk
      go_wp2_with fail
      go_ret
      exact ⟨rfl, hbr⟩

set_option maxRecDepth 4000 in
set_option maxHeartbeats 3200000 in
theorem iAddSpell (w : World) (A : Option Addr) (n c : Nat) (L : Nat → Sp) (x : Sp) (h : RdSp w w.heap.size A n L) (hA : A = none → n = 0 ∧ c = 0) (hn : n ≤ 1048578) :
    Calls Try.prog 38 #[.slice A n c, x.val] w fun e w' => ∃ (B : Option Addr) (cc : Nat), e = .returned (.tuple #[.slice B (addN n L x) cc, .bool (addOk n L x)]) ∧ OwR w' w.heap.size 29 4 (.slice B (addN n L x) cc) (addN n L x) (spAt (addM n L x)) ∧ Below w.heap.size w w' := by
  obtain ⟨at0, hat⟩ : ∃ a, a = atL L x.f n := ⟨_, rfl⟩
  have hal : at0 ≤ n := by rw [hat]; exact atL_le _ _ _
  have hL : addL n L x = insL L at0 x := by rw [addL, hat]
  obtain ⟨wb, hwb⟩ : ∃ v, v = w.alloc (.cells #[.int .i64 x.f, .int .i64 x.t, .int .i64 x.p, .bool x.v] 29) := ⟨_, rfl⟩
  have hbb : Below w.heap.size w wb := by rw [hwb]; exact (Below.refl _ _).alloc (Nat.le_refl _) _
  have pX : Whole wb w.heap.size 29 x.cells.toArray := by rw [hwb]; exact Whole.new w _ _
  have hx0 := pX.cell 0
  have hxl := pX.lt
  have hC := iIndexF wb A n c L ((h.below hbb).more hbb.size) w.heap.size x.f (by rw [hx0]; rfl) hxl
  rw [← hat] at hC
  have hCl : ∀ u : World, Below wb.heap.size wb u → Calls Try.prog 60 #[.slice A n c] u fun e w' => ∃ (B : Option Addr) (cc : Nat), e = .returned (.slice B n cc) ∧ OwL w' u.heap.size (.slice B n cc) n L ∧ Below u.heap.size u w' := fun u hu => (iClone u A n c L ((h.below (hbb.trans (hu.mono hbb.size))).more (Nat.le_trans hbb.size hu.size)) hA (by omega)).mono fun e w' k => by
    obtain ⟨B, cc, rfl, ow, _, hb⟩ := k
    exact ⟨B, cc, rfl, ow, hb⟩
  have hIn : ∀ (u : World) (B : Option Addr) (cc vb bs : Nat), OwL u bs (.slice B n cc) n L → Whole u vb 29 #[.int .i64 x.f, .int .i64 x.t, .int .i64 x.p, .bool x.v] → (Value.slice B n cc).ownBlock ≠ some vb → bs ≤ u.heap.size → w.heap.size ≤ bs → Below w.heap.size w u → Calls Try.prog 59 #[.slice B n cc, .int .i64 at0, .slice (some ⟨vb, 0, none⟩) 1 1] u fun e w' => ∃ (B' : Option Addr) (c' : Nat), e = .returned (.slice B' (n + 1) c') ∧ OwR w' w.heap.size 29 4 (.slice B' (n + 1) c') (n + 1) (spAt (addL n L x)) ∧ Below w.heap.size w w' := fun u B cc vb bs h1 h2 h3 h4 h5 h6 => (iInsert u bs B n cc at0 L vb x h1 h2 h3 h4 (by omega) hal).mono fun e w' k => by
    obtain ⟨B', c', rfl, ow, hb⟩ := k
    exact ⟨B', c', rfl, by rw [hL]; exact ow.less h5, h6.trans (hb.mono h5)⟩
  have hno : addOk n L x = false → ∀ (B : Option Addr) (cc : Nat) (w' : World), OwR w' w.heap.size 29 4 (.slice B n cc) n (spAt L) → Below w.heap.size w w' → ∃ (B' : Option Addr) (cc' : Nat), Ending.returned (.tuple #[.slice B n cc, .bool false]) = .returned (.tuple #[.slice B' (addN n L x) cc', .bool (addOk n L x)]) ∧ OwR w' w.heap.size 29 4 (.slice B' (addN n L x) cc') (addN n L x) (spAt (addM n L x)) ∧ Below w.heap.size w w' := fun hk B cc w' h1 h2 => by
    have e1 : addN n L x = n := by rw [addN, hk]; rfl
    have e2 : addM n L x = L := by rw [addM, hk]; rfl
    rw [e1, e2, hk]
    exact ⟨B, cc, rfl, h1, h2⟩
  have hye : addOk n L x = true → ∀ (B : Option Addr) (cc : Nat) (w' : World), OwR w' w.heap.size 29 4 (.slice B (n + 1) cc) (n + 1) (spAt (addL n L x)) → Below w.heap.size w w' → ∃ (B' : Option Addr) (cc' : Nat), Ending.returned (.tuple #[.slice B (n + 1) cc, .bool true]) = .returned (.tuple #[.slice B' (addN n L x) cc', .bool (addOk n L x)]) ∧ OwR w' w.heap.size 29 4 (.slice B' (addN n L x) cc') (addN n L x) (spAt (addM n L x)) ∧ Below w.heap.size w w' := fun hk B cc w' h1 h2 => by
    have e1 : addN n L x = (n + 1) := by rw [addN, hk]; rfl
    have e2 : addM n L x = (addL n L x) := by rw [addM, hk]; rfl
    rw [e1, e2, hk]
    exact ⟨B, cc, rfl, h1, h2⟩
  have HNO := Lib.hid hno
  have HYES := Lib.hid hye
  clear hno hye
  have HAL := Lib.hid hal
  have HA := Lib.hid hA
  clear hat hL hA hal
  go_enter Try.func38, Try.ntmps38
  go_upto_region 1 with fail
  rw [← hwb]
  clear hwb
  go_wp2_with fail
  refine hC.mono ?_
  rintro e w2 ⟨rfl, hb2⟩
  have pX2 := pX.below hb2 hxl
  have hs2 := hb2.size
  have hs1 := hbb.size
  have hB2 := hbb.trans (hb2.mono hs1)
  have hxl2 : w.heap.size < w2.heap.size := by omega
  have CL1 := hCl w2.drew hb2.drew
  have CL2 := hCl (w2.alloc (.cells #[.int .i64 x.f, .int .i64 x.t, .int .i64 x.p, .bool x.v] 29)).drew ((hb2.alloc hs2 _).drew)
  clear hC hx0
  by_cases hlt : at0 < n
  · rw [if_pos hlt]
    have hn0 : ¬ (at0 : Int) < 0 := by omega
    go_upto_region 4 with fail
    have c0 : w2.cell? ⟨w.heap.size, 0, none⟩ = some (.int .i64 x.f) := pX2.cell 0
    have c1 : w2.cell? ⟨w.heap.size, 1, none⟩ = some (.int .i64 x.t) := pX2.cell 1
    have c2 : w2.cell? ⟨w.heap.size, 2, none⟩ = some (.int .i64 x.p) := pX2.cell 2
    have c3 : w2.cell? ⟨w.heap.size, 3, none⟩ = some (.bool x.v) := pX2.cell 3
    go_cut [7] (fun o wq => ∃ (B : Option Addr) (cc : Nat), o = .slice B (n + 1) cc ∧ OwR wq w.heap.size 29 4 (.slice B (n + 1) cc) (n + 1) (spAt (addL n L x)) ∧ Below w.heap.size w wq)
    case first =>
      go_region_with (first
        | (go_at_call 60; (with_reducible refine CL1.mono ?_); rintro e w3 ⟨B3, cc3, rfl, own3, hb3⟩; have hb3' : Below w2.heap.size w2 w3 := ⟨hb3.os, hb3.tape, hb3.output, hb3.size, hb3.block⟩; have hs3 := hb3'.size; have pX3 := pX2.below hb3' hxl2; have q0 : w3.cell? ⟨w.heap.size, 0, none⟩ = some (.int .i64 x.f) := pX3.cell 0; have q1 : w3.cell? ⟨w.heap.size, 1, none⟩ = some (.int .i64 x.t) := pX3.cell 1; have q2 : w3.cell? ⟨w.heap.size, 2, none⟩ = some (.int .i64 x.p) := pX3.cell 2; have q3 : w3.cell? ⟨w.heap.size, 3, none⟩ = some (.bool x.v) := pX3.cell 3; have hB3 := hB2.trans (hb3'.mono hB2.size); have hxl3 := pX3.lt; have IN1 := hIn (w3.alloc (.cells #[.int .i64 x.f, .int .i64 x.t, .int .i64 x.p, .bool x.v] 29)) B3 cc3 w3.heap.size w2.heap.size (own3.alloc _) (Whole.new w3 _ _) (fun e => by have := (own3.lt _ e).2; omega) (by simp; omega) (by omega) (hB3.alloc (by omega) _); clear own3 hb3)
        | (go_at_call 60; (with_reducible refine CL2.mono ?_); rintro e w3 ⟨B3, cc3, rfl, own3, hb3⟩; have hb3' : Below w2.heap.size w2 w3 := ((Below.refl _ _).alloc (Nat.le_refl _) _).trans ((show Below (w2.alloc (.cells #[.int .i64 x.f, .int .i64 x.t, .int .i64 x.p, .bool x.v] 29)).heap.size (w2.alloc (.cells #[.int .i64 x.f, .int .i64 x.t, .int .i64 x.p, .bool x.v] 29)) w3 from ⟨hb3.os, hb3.tape, hb3.output, hb3.size, hb3.block⟩).mono (by simp)); have hB3 := hB2.trans (hb3'.mono hB2.size); have hVV : Whole w3 w2.heap.size 29 #[.int .i64 x.f, .int .i64 x.t, .int .i64 x.p, .bool x.v] := (show Whole (w2.alloc (.cells #[.int .i64 x.f, .int .i64 x.t, .int .i64 x.p, .bool x.v] 29)).drew w2.heap.size 29 #[.int .i64 x.f, .int .i64 x.t, .int .i64 x.p, .bool x.v] from Whole.new w2 _ _).below hb3 (by show _ < (w2.alloc (.cells #[.int .i64 x.f, .int .i64 x.t, .int .i64 x.p, .bool x.v] 29)).heap.size; simp); have hz3 : w2.heap.size + 1 ≤ w3.heap.size := (by have := hb3.size; simpa using this); have IN1 := hIn w3 B3 cc3 w2.heap.size (w2.alloc (.cells #[.int .i64 x.f, .int .i64 x.t, .int .i64 x.p, .bool x.v] 29)).drew.heap.size own3 hVV (fun e => by have := (own3.lt _ e).1; simp at this; omega) (by simpa using hz3) (by simp; omega) hB3; clear own3 hb3)
        | (go_at_call 59; (with_reducible refine IN1.mono ?_); rintro e w4 ⟨B4, cc4, rfl, ow4, hB4⟩))
      all_goals (go_wp2_with fail; go_meet; exact ⟨B4, cc4, rfl, ow4, hB4⟩)
    case rest =>
      obtain ⟨B, cc, rfl, ow, hB⟩ := hcut
      clear c0 c1 c2 c3 pX2 CL1 CL2 hIn hb2 hs2 hB2 hxl2 hs1
      have hsc := hB.size
      have hrd := RdSp.own ow
      have hl := (h.below hB).more hsc
      cases t1 : spOk n L
      · have CS := iSpellsOk wc A n c L hl
        simp only [t1] at CS
        have hk0 : addOk n L x = false := by rw [addOk, t1]; rfl
        clear t1
        go_wp2_with fail
        refine CS.mono ?_
        rintro e w5 ⟨rfl, hb5⟩
        have hB5 := hB.trans (hb5.mono hsc)
        have hs5 := hB5.size
        have CC := iClone w5 A n c L ((h.below hB5).more hs5) HA.out (by omega)
        clear CS hb5 hB ow hrd hl
        go_wp2_with fail
        refine CC.mono ?_
        rintro e w6 ⟨D, cd, rfl, owD, _, hb6⟩
        have hB6 := hB5.trans (hb6.mono hs5)
        clear CC
        go_wp2_with fail
        refine bodyPost_ret (v := .tuple #[.slice D n cd, .bool false]) (by simp [results, Try.results38, go_sem]) rfl (HNO.out hk0 D cd _ (owD.ow.less hs5) hB6)
      · have CS := iSpellsOk wc A n c L hl
        simp only [t1] at CS
        cases t2 : spOk (n + 1) (addL n L x)
        · have hk0 : addOk n L x = false := by rw [addOk, t1, t2]; rfl
          clear t1
          go_wp2_with fail
          refine CS.mono ?_
          rintro e w5 ⟨rfl, hb5⟩
          have hB5 := hB.trans (hb5.mono hsc)
          have hs5 := hB5.size
          have CT := iSpellsOk w5 B (n + 1) cc _ ((hrd.below hb5).more hb5.size)
          simp only [t2] at CT
          clear CS hb5 hB ow hrd hl t2
          go_wp2_with fail
          refine CT.mono ?_
          rintro e w7 ⟨rfl, hb7⟩
          have hB7 := hB5.trans (hb7.mono hs5)
          have hs7 := hB7.size
          have CC := iClone w7 A n c L ((h.below hB7).more hs7) HA.out (by omega)
          clear CT hb7 hB5
          go_wp2_with fail
          refine CC.mono ?_
          rintro e w6 ⟨D, cd, rfl, owD, _, hb6⟩
          have hB6 := hB7.trans (hb6.mono hs7)
          clear CC
          go_wp2_with fail
          refine bodyPost_ret (v := .tuple #[.slice D n cd, .bool false]) (by simp [results, Try.results38, go_sem]) rfl (HNO.out hk0 D cd _ (owD.ow.less hs7) hB6)
        · have hk0 : addOk n L x = true := by rw [addOk, t1, t2]; rfl
          clear t1
          go_wp2_with fail
          refine CS.mono ?_
          rintro e w5 ⟨rfl, hb5⟩
          have hB5 := hB.trans (hb5.mono hsc)
          have hs5 := hB5.size
          have CT := iSpellsOk w5 B (n + 1) cc _ ((hrd.below hb5).more hb5.size)
          simp only [t2] at CT
          have ow5 := ow.all hb5
          clear CS hb5 hB ow hrd hl t2
          go_wp2_with fail
          refine CT.mono ?_
          rintro e w7 ⟨rfl, hb7⟩
          have hB7 := hB5.trans (hb7.mono hs5)
          have ow7 := ow5.all hb7
          clear CT hb7 hB5 ow5
          go_wp2_with fail
          refine bodyPost_ret (v := .tuple #[.slice B (n + 1) cc, .bool true]) (by simp [results, Try.results38, go_sem]) rfl (HYES.out hk0 B cc _ ow7 hB7)
  · have hal := HAL.out
    have e0 : n = at0 := by omega
    subst e0
    rw [if_neg hlt]
    go_upto_region 4 with fail
    have c0 : w2.cell? ⟨w.heap.size, 0, none⟩ = some (.int .i64 x.f) := pX2.cell 0
    have c1 : w2.cell? ⟨w.heap.size, 1, none⟩ = some (.int .i64 x.t) := pX2.cell 1
    have c2 : w2.cell? ⟨w.heap.size, 2, none⟩ = some (.int .i64 x.p) := pX2.cell 2
    have c3 : w2.cell? ⟨w.heap.size, 3, none⟩ = some (.bool x.v) := pX2.cell 3
    go_cut [7] (fun o wq => ∃ (B : Option Addr) (cc : Nat), o = .slice B (n + 1) cc ∧ OwR wq w.heap.size 29 4 (.slice B (n + 1) cc) (n + 1) (spAt (addL n L x)) ∧ Below w.heap.size w wq)
    case first =>
      go_region_with (first
        | (go_at_call 60; (with_reducible refine CL1.mono ?_); rintro e w3 ⟨B3, cc3, rfl, own3, hb3⟩; have hb3' : Below w2.heap.size w2 w3 := ⟨hb3.os, hb3.tape, hb3.output, hb3.size, hb3.block⟩; have hs3 := hb3'.size; have pX3 := pX2.below hb3' hxl2; have q0 : w3.cell? ⟨w.heap.size, 0, none⟩ = some (.int .i64 x.f) := pX3.cell 0; have q1 : w3.cell? ⟨w.heap.size, 1, none⟩ = some (.int .i64 x.t) := pX3.cell 1; have q2 : w3.cell? ⟨w.heap.size, 2, none⟩ = some (.int .i64 x.p) := pX3.cell 2; have q3 : w3.cell? ⟨w.heap.size, 3, none⟩ = some (.bool x.v) := pX3.cell 3; have hB3 := hB2.trans (hb3'.mono hB2.size); have hxl3 := pX3.lt; have IN1 := hIn (w3.alloc (.cells #[.int .i64 x.f, .int .i64 x.t, .int .i64 x.p, .bool x.v] 29)) B3 cc3 w3.heap.size w2.heap.size (own3.alloc _) (Whole.new w3 _ _) (fun e => by have := (own3.lt _ e).2; omega) (by simp; omega) (by omega) (hB3.alloc (by omega) _); clear own3 hb3)
        | (go_at_call 60; (with_reducible refine CL2.mono ?_); rintro e w3 ⟨B3, cc3, rfl, own3, hb3⟩; have hb3' : Below w2.heap.size w2 w3 := ((Below.refl _ _).alloc (Nat.le_refl _) _).trans ((show Below (w2.alloc (.cells #[.int .i64 x.f, .int .i64 x.t, .int .i64 x.p, .bool x.v] 29)).heap.size (w2.alloc (.cells #[.int .i64 x.f, .int .i64 x.t, .int .i64 x.p, .bool x.v] 29)) w3 from ⟨hb3.os, hb3.tape, hb3.output, hb3.size, hb3.block⟩).mono (by simp)); have hB3 := hB2.trans (hb3'.mono hB2.size); have hVV : Whole w3 w2.heap.size 29 #[.int .i64 x.f, .int .i64 x.t, .int .i64 x.p, .bool x.v] := (show Whole (w2.alloc (.cells #[.int .i64 x.f, .int .i64 x.t, .int .i64 x.p, .bool x.v] 29)).drew w2.heap.size 29 #[.int .i64 x.f, .int .i64 x.t, .int .i64 x.p, .bool x.v] from Whole.new w2 _ _).below hb3 (by show _ < (w2.alloc (.cells #[.int .i64 x.f, .int .i64 x.t, .int .i64 x.p, .bool x.v] 29)).heap.size; simp); have hz3 : w2.heap.size + 1 ≤ w3.heap.size := (by have := hb3.size; simpa using this); have IN1 := hIn w3 B3 cc3 w2.heap.size (w2.alloc (.cells #[.int .i64 x.f, .int .i64 x.t, .int .i64 x.p, .bool x.v] 29)).drew.heap.size own3 hVV (fun e => by have := (own3.lt _ e).1; simp at this; omega) (by simpa using hz3) (by simp; omega) hB3; clear own3 hb3)
        | (go_at_call 59; (with_reducible refine IN1.mono ?_); rintro e w4 ⟨B4, cc4, rfl, ow4, hB4⟩))
      all_goals (go_wp2_with fail; go_meet; exact ⟨B4, cc4, rfl, ow4, hB4⟩)
    case rest =>
      obtain ⟨B, cc, rfl, ow, hB⟩ := hcut
      clear c0 c1 c2 c3 pX2 CL1 CL2 hIn hb2 hs2 hB2 hxl2 hs1
      have hsc := hB.size
      have hrd := RdSp.own ow
      have hl := (h.below hB).more hsc
      cases t1 : spOk n L
      · have CS := iSpellsOk wc A n c L hl
        simp only [t1] at CS
        have hk0 : addOk n L x = false := by rw [addOk, t1]; rfl
        clear t1
        go_wp2_with fail
        refine CS.mono ?_
        rintro e w5 ⟨rfl, hb5⟩
        have hB5 := hB.trans (hb5.mono hsc)
        have hs5 := hB5.size
        have CC := iClone w5 A n c L ((h.below hB5).more hs5) HA.out (by omega)
        clear CS hb5 hB ow hrd hl
        go_wp2_with fail
        refine CC.mono ?_
        rintro e w6 ⟨D, cd, rfl, owD, _, hb6⟩
        have hB6 := hB5.trans (hb6.mono hs5)
        clear CC
        go_wp2_with fail
        refine bodyPost_ret (v := .tuple #[.slice D n cd, .bool false]) (by simp [results, Try.results38, go_sem]) rfl (HNO.out hk0 D cd _ (owD.ow.less hs5) hB6)
      · have CS := iSpellsOk wc A n c L hl
        simp only [t1] at CS
        cases t2 : spOk (n + 1) (addL n L x)
        · have hk0 : addOk n L x = false := by rw [addOk, t1, t2]; rfl
          clear t1
          go_wp2_with fail
          refine CS.mono ?_
          rintro e w5 ⟨rfl, hb5⟩
          have hB5 := hB.trans (hb5.mono hsc)
          have hs5 := hB5.size
          have CT := iSpellsOk w5 B (n + 1) cc _ ((hrd.below hb5).more hb5.size)
          simp only [t2] at CT
          clear CS hb5 hB ow hrd hl t2
          go_wp2_with fail
          refine CT.mono ?_
          rintro e w7 ⟨rfl, hb7⟩
          have hB7 := hB5.trans (hb7.mono hs5)
          have hs7 := hB7.size
          have CC := iClone w7 A n c L ((h.below hB7).more hs7) HA.out (by omega)
          clear CT hb7 hB5
          go_wp2_with fail
          refine CC.mono ?_
          rintro e w6 ⟨D, cd, rfl, owD, _, hb6⟩
          have hB6 := hB7.trans (hb6.mono hs7)
          clear CC
          go_wp2_with fail
          refine bodyPost_ret (v := .tuple #[.slice D n cd, .bool false]) (by simp [results, Try.results38, go_sem]) rfl (HNO.out hk0 D cd _ (owD.ow.less hs7) hB6)
        · have hk0 : addOk n L x = true := by rw [addOk, t1, t2]; rfl
          clear t1
          go_wp2_with fail
          refine CS.mono ?_
          rintro e w5 ⟨rfl, hb5⟩
          have hB5 := hB.trans (hb5.mono hsc)
          have hs5 := hB5.size
          have CT := iSpellsOk w5 B (n + 1) cc _ ((hrd.below hb5).more hb5.size)
          simp only [t2] at CT
          have ow5 := ow.all hb5
          clear CS hb5 hB ow hrd hl t2
          go_wp2_with fail
          refine CT.mono ?_
          rintro e w7 ⟨rfl, hb7⟩
          have hB7 := hB5.trans (hb7.mono hs5)
          have ow7 := ow5.all hb7
          clear CT hb7 hB5 ow5
          go_wp2_with fail
          refine bodyPost_ret (v := .tuple #[.slice B (n + 1) cc, .bool true]) (by simp [results, Try.results38, go_sem]) rfl (HYES.out hk0 B cc _ ow7 hB7)
end Go.Proofs.Ytmbmpogdakoloaa
