/- The text of a formula, of the program and of the reference. Conditions: the nodes can be read, the table lies as the library lays it. -/
import Derived.Test.YtdccdoodmiihbaaDoorSFor
import Derived.Test.YtdccdoodmiihbaaDoorIWor
import Derived.Test.YtdccdoodmiihbaaDoorShJ
namespace Go.Proofs.YtdccdoodmiihbaaDoor
open Go.RowKit Go.Lib
set_option linter.unusedVariables false
/-- The text of a formula; none where it is not valid or has more than 24 words. -/
def ftxt (n : Nat) (N : Nat → No) : List UInt8 := if formB n N = true ∧ (wd N (n - 1)).length ≤ 24 then txt (wd N (n - 1)) else []
theorem szL_val {n : Nat} {N : Nat → No} (hf : formB n N = true) : szL n N = m25 ((wd N (n - 1)).length : Int) := by
  have := formB_len hf
  rw [szL, if_pos hf]
  exact szF_wd (formB_at hf) n (Nat.le_refl _) (n - 1) (by omega)

set_option maxRecDepth 8000 in
set_option maxHeartbeats 1600000 in
theorem sFormatFormula (w : World) (A : Option Addr) (n c : Nat) (N : Nat → No) (hN : RdNo w w.heap.size A n N) (hn : n ≤ 1099511627776) :
    Calls Tryd.prog 20 #[.slice A n c] w fun e w' => e = .returned (strV (ftxt n N)) ∧ Below w.heap.size w w' := by
  have FZ := sFormulaSize w A n c N hN hn
  cases hf : formB n N with
  | false =>
    have e0 : szL n N = 0 := by rw [szL, if_neg (by simp [hf])]
    have et : ftxt n N = [] := by rw [ftxt, if_neg (by simp [hf])]
    rw [e0] at FZ
    rw [et]
    clear e0 et hf
    go_enter Tryd.func20, Tryd.ntmps20
    go_wp2_with fail
    refine FZ.mono ?_
    rintro e w1 ⟨rfl, hb1⟩
    go_wp2_with fail
    go_ret
    exact ⟨rfl, hb1⟩
  | true =>
    have hl := formB_len hf
    have hok : nodesOk N n := formB_at hf
    have hsz := szL_val hf
    obtain ⟨p, rfl⟩ : ∃ p, n = p + 1 := ⟨n - 1, by omega⟩
    rw [show p + 1 - 1 = p by omega] at hsz
    have hne := wd_ne hok p (by omega)
    have hw := wd_word hok p (by omega)
    have hne1 : 1 ≤ (wd N p).length := by
      cases hq : wd N p with
      | nil => exact absurd hq hne
      | cons _ _ => simp
    by_cases h24 : (wd N p).length ≤ 24
    · have et : ftxt (p + 1) N = txt (wd N p) := by rw [ftxt, if_pos ⟨hf, h24⟩]; rfl
      have es : szL (p + 1) N = ((wd N p).length : Int) := by rw [hsz, m25, if_neg (by omega)]
      have hlen := txt_len hw
      rw [et]
      rw [es] at FZ
      obtain ⟨m, hm⟩ : ∃ m : Nat, m = (wd N p).length := ⟨_, rfl⟩
      have hm2 : (m : Int) = (wd N p).length := by omega
      rw [← hm2] at FZ
      have hm0 : ¬ (m : Int) = 0 := by omega
      have hm24 : ¬ (24 : Int) < m := by omega
      have hmb : ((m : Int) == 0) = false := by simp; omega
      have hmd : decide ((24 : Int) < m) = false := by simp; omega
      have HM := Lib.hid hm
      have e1 : IntKind.i64.wrap ((p : Int) + 1 - 1) = p := by rw [show (p : Int) + 1 - 1 = p by omega]; exact IntWalk.i64_in _ ⟨by omega, by omega⟩
      have e2 : (p : Int) + 1 - 1 = p := by omega
      have CT := fun (v : World) (hv : RdNo v v.heap.size A (p + 1) N) => sl09Text A (p + 1) c N hok hn p (by omega) h24 v hv
      obtain ⟨ws, hws⟩ : ∃ ws, ws = wd N p := ⟨_, rfl⟩
      rw [← hws] at CT HM hlen h24 hne1 ⊢
      clear hf hl hok hsz hne hw et es hm hm2 hws hm0 hm24
      go_enter Tryd.func20, Tryd.ntmps20
      go_wp2_with fail
      refine FZ.mono ?_
      rintro e w1 ⟨rfl, hb1⟩
      have rd1 := (hN.below hb1).more hb1.size
      clear FZ
      go_wp2_with fail
      refine (CT _ rd1).mono ?_
      rintro e w2 ⟨rfl, hb2⟩
      go_wp2_with fail
      go_ret
      exact ⟨rfl, hb1.trans (hb2.mono hb1.size)⟩
    · have et : ftxt (p + 1) N = [] := by rw [ftxt, if_neg (fun h => h24 h.2)]
      have es : szL (p + 1) N = 25 := by rw [hsz, m25]; split <;> omega
      rw [et]
      rw [es] at FZ
      clear hf hl hok hsz hne hw et es hne1 h24
      go_enter Tryd.func20, Tryd.ntmps20
      go_wp2_with fail
      refine FZ.mono ?_
      rintro e w1 ⟨rfl, hb1⟩
      go_wp2_with fail
      go_ret
      exact ⟨rfl, hb1⟩

set_option maxRecDepth 8000 in
set_option maxHeartbeats 1600000 in
theorem iFormatFormula (w : World) (A : Option Addr) (n c : Nat) (N : Nat → No) (hN : RdNo w w.heap.size A n N) (hn : n ≤ 1099511627776) (hT : LaidW w) :
    Calls Tryd.prog 22 #[.slice A n c] w fun e w' => e = .returned (strV (ftxt n N)) ∧ Below w.heap.size w w' := by
  have FZ := iFormulaSize w A n c N hN hn
  cases hf : formB n N with
  | false =>
    have e0 : szL n N = 0 := by rw [szL, if_neg (by simp [hf])]
    have et : ftxt n N = [] := by rw [ftxt, if_neg (by simp [hf])]
    rw [e0] at FZ
    rw [et]
    clear e0 et hf
    go_enter Tryd.func22, Tryd.ntmps22
    go_wp2_with fail
    refine FZ.mono ?_
    rintro e w1 ⟨rfl, hb1⟩
    go_wp2_with fail
    go_ret
    exact ⟨rfl, hb1⟩
  | true =>
    have hl := formB_len hf
    have hok : nodesOk N n := formB_at hf
    have hsz := szL_val hf
    obtain ⟨p, rfl⟩ : ∃ p, n = p + 1 := ⟨n - 1, by omega⟩
    rw [show p + 1 - 1 = p by omega] at hsz
    have hne := wd_ne hok p (by omega)
    have hw := wd_word hok p (by omega)
    have hne1 : 1 ≤ (wd N p).length := by
      cases hq : wd N p with
      | nil => exact absurd hq hne
      | cons _ _ => simp
    by_cases h24 : (wd N p).length ≤ 24
    · have et : ftxt (p + 1) N = txt (wd N p) := by rw [ftxt, if_pos ⟨hf, h24⟩]; rfl
      have es : szL (p + 1) N = ((wd N p).length : Int) := by rw [hsz, m25, if_neg (by omega)]
      have hlen := txt_len hw
      rw [et]
      rw [es] at FZ
      obtain ⟨m, hm⟩ : ∃ m : Nat, m = (wd N p).length := ⟨_, rfl⟩
      have hm2 : (m : Int) = (wd N p).length := by omega
      rw [← hm2] at FZ
      have hm0 : ¬ (m : Int) = 0 := by omega
      have hm24 : ¬ (24 : Int) < m := by omega
      have hmb : ((m : Int) == 0) = false := by simp; omega
      have hmd : decide ((24 : Int) < m) = false := by simp; omega
      have HM := Lib.hid hm
      have e1 : IntKind.i64.wrap ((p : Int) + 1 - 1) = p := by rw [show (p : Int) + 1 - 1 = p by omega]; exact IntWalk.i64_in _ ⟨by omega, by omega⟩
      have e2 : (p : Int) + 1 - 1 = p := by omega
      have CT := fun (v : World) (hv : RdNo v v.heap.size A (p + 1) N) (hw : LaidW v) => iNodeWords A (p + 1) c N hok hn p (by omega) h24 v hv hw
      obtain ⟨ws, hws⟩ : ∃ ws, ws = wd N p := ⟨_, rfl⟩
      rw [← hws] at CT HM hlen h24 hne1 ⊢
      clear hf hl hok hsz hne hw et es hm hm2 hws hm0 hm24
      go_enter Tryd.func22, Tryd.ntmps22
      go_wp2_with fail
      refine FZ.mono ?_
      rintro e w1 ⟨rfl, hb1⟩
      have rd1 := (hN.below hb1).more hb1.size
      clear FZ
      go_wp2_with fail
      refine (CT _ rd1 (hT.below hb1)).mono ?_
      rintro e w2 ⟨B, cc, rfl, own, hb2⟩
      obtain ⟨g, rfl, -, hgz, hcc, -, hcell⟩ := own_cells own hne1
      have IJ := iJoin g cc ws w2 hcell hgz (by omega) hcc (by have h0 : (Lib.join ws [32]).length ≤ 26 * ws.length := hlen; omega)
      clear CT own hcell
      go_wp2_with fail
      refine IJ.mono ?_
      rintro e w3 ⟨rfl, hb3⟩
      go_wp2_with fail
      go_ret
      exact ⟨rfl, (hb1.trans (hb2.mono hb1.size)).trans (hb3.mono (by have := hb1.size; have := hb2.size; omega))⟩
    · have et : ftxt (p + 1) N = [] := by rw [ftxt, if_neg (fun h => h24 h.2)]
      have es : szL (p + 1) N = 25 := by rw [hsz, m25]; split <;> omega
      rw [et]
      rw [es] at FZ
      clear hf hl hok hsz hne hw et es hne1 h24
      go_enter Tryd.func22, Tryd.ntmps22
      go_wp2_with fail
      refine FZ.mono ?_
      rintro e w1 ⟨rfl, hb1⟩
      go_wp2_with fail
      go_ret
      exact ⟨rfl, hb1⟩
end Go.Proofs.YtdccdoodmiihbaaDoor
