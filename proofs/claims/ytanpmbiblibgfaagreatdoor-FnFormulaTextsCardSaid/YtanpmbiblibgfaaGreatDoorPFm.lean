/- A formula out of its text, by the program and by the reference. Conditions: the tables lie as the library lays them. -/
import Derived.Test.YtanpmbiblibgfaaGreatDoorIRd
import Derived.Test.YtanpmbiblibgfaaGreatDoorISpl
import Derived.Test.YtanpmbiblibgfaaGreatDoorRtx
namespace Go.Proofs.YtanpmbiblibgfaaGreatDoor
open Go.RowKit Go.Lib
set_option linter.unusedVariables false
set_option linter.unusedSimpArgs false
/-- The formula of a text. -/
def pFo (l : List UInt8) : Option (List No) := match sfL l with
  | none => none
  | some ws => pfm ws
theorem pFo_none {l : List UInt8} (h : sfL l = none) : pFo l = none := by rw [pFo, h]
theorem pFo_some {l : List UInt8} {ws : List (List UInt8)} (h : sfL l = some ws) : pFo l = pfm ws := by rw [pFo, h]
theorem pfm_none {ws : List (List UInt8)} (h : rdN ws.length ws 0 = none) : pfm ws = none := by rw [pfm, h]
theorem pfm_rest {ws r : List (List UInt8)} {ns : List No} (h : rdN ws.length ws 0 = some (ns, r)) (hr : r ≠ []) : pfm ws = none := by
  rw [pfm, h]
  cases r with
  | nil => exact absurd rfl hr
  | cons _ _ => rfl
theorem pfm_all {ws : List (List UInt8)} {ns : List No} (h : rdN ws.length ws 0 = some (ns, [])) : pfm ws = some ns := by rw [pfm, h]
theorem fieldsGo_len : ∀ (l cur : List UInt8), ∀ x ∈ fieldsGo cur l, x.length ≤ cur.length + l.length
  | [], cur, x, h => by
    rw [fieldsGo] at h
    split at h
    · cases h
    · rw [List.mem_singleton.1 h]; omega
  | b :: l, cur, x, h => by
    rw [fieldsGo] at h
    simp only [List.length_cons]
    split at h
    · split at h
      · have := fieldsGo_len l [] x h
        simp only [List.length_nil] at this
        omega
      · rcases List.mem_cons.1 h with e | h
        · subst e; omega
        · have := fieldsGo_len l [] x h
          simp only [List.length_nil] at this
          omega
    · have := fieldsGo_len l (cur ++ [b]) x h
      simp only [List.length_append, List.length_singleton] at this
      omega
theorem sfL_parts {l : List UInt8} {ws : List (List UInt8)} (h : sfL l = some ws) : ws.length ≤ 24 ∧ ∀ x ∈ ws, x.length ≤ 1000 := by
  rw [sfL] at h
  split at h
  · rename_i hc
    injection h with h
    subst h
    simp only [Bool.and_eq_true, decide_eq_true_eq] at hc
    refine ⟨hc.2.2, fun x hx => ?_⟩
    have := fieldsGo_len l [] x hx
    simp only [List.length_nil] at this
    omega
  · cases h
/-- What a reading of a text leaves. -/
def PfE (w : World) (res : Option (List No)) (e : Ending) (w' : World) : Prop :=
  ∃ (A : Option Addr) (c : Nat), e = .returned (.tuple #[.slice A (res.getD []).length c, .bool res.isSome]) ∧ w'.ownsRow w.heap.size 46 6 (.slice A (res.getD []).length c) (res.getD []).length ((res.getD []).flatMap No.cells) ∧ Below w.heap.size w w'
theorem own_less {w : World} {base base' size n : Nat} {e : TypeId} {v : Value} {xs : List Value} (h : w.ownsRow base e size v n xs) (hb : base' ≤ base) : w.ownsRow base' e size v n xs :=
  ⟨h.1, by
    rcases h.2 with k | ⟨g, cap, cur, h1, h2, h3⟩
    · exact .inl k
    · exact .inr ⟨g, cap, cur, h1, Nat.le_trans hb h2, h3⟩⟩
theorem own_no_nil (w : World) (base : Nat) : w.ownsRow base 46 6 (.slice none 0 0) ([] : List No).length (([] : List No).flatMap No.cells) := ⟨by simp, .inl ⟨rfl, rfl⟩⟩
theorem own_cap {w : World} {base e n c : Nat} {B : Option Addr} {xs : List Value} (h : w.ownsRow base e 1 (.slice B n c) n xs) : n ≤ c := by
  rcases h.2 with ⟨hv, h0⟩ | ⟨g, cap, cur, hv, _, _, h1, _⟩
  · omega
  · injection hv with _ _ hv
    omega

set_option maxRecDepth 8000 in
set_option maxHeartbeats 3200000 in
theorem iParseFormula (s : ByteArray) (w : World) (hT : LaidP w) :
    Calls Tryz.prog 8 #[.string s] w (PfE w (pFo s.data.toList)) := by
  have SF := iSplitFields s w hT
  cases hs : sfL s.data.toList with
  | none =>
    rw [hs] at SF
    rw [pFo_none hs]
    clear hs
    go_enter Tryz.func8, Tryz.ntmps8
    go_wp2_with fail
    refine SF.mono ?_
    rintro e w1 ⟨B, cc, rfl, own, hb1⟩
    simp only [Option.isSome_none]
    go_wp2_with fail
    refine bodyPost_ret (v := .tuple #[.slice none 0 0, .bool false]) (by simp [results, Tryz.results8, go_sem]) rfl ⟨none, 0, rfl, own_no_nil _ _, hb1⟩
  | some ws =>
    obtain ⟨h24, hwl⟩ := sfL_parts hs
    rw [hs] at SF
    rw [pFo_some hs]
    clear hs
    have HW := Lib.hid hwl
    clear hwl
    go_enter Tryz.func8, Tryz.ntmps8
    go_wp2_with fail
    refine SF.mono ?_
    rintro e w1 ⟨B, cc, rfl, own, hb1⟩
    simp only [Option.isSome_some, Option.getD_some] at own ⊢
    have hcap := own_cap own
    have hw1 := WdR.own own
    have hbx := (Below.refl w1.heap.size w1).alloc (Nat.le_refl _) (.cells #[.slice B ws.length cc, .slice none 0 0] 52)
    have IN := iNode w1.heap.size w1 (fun u hu => (hT.below (hb1.trans (hu.mono hb1.size))).1) ws.length (w1.alloc (.cells #[.slice B ws.length cc, .slice none 0 0] 52)) w1.heap.size B cc ws (.slice none 0 0) [] (Nat.le_refl _) h24 hcap HW.out (by simp; omega) (hw1.below hbx) ⟨Whole.new _ _ _, own_no_nil _ _⟩ (Nat.le_refl _) hbx.size hbx
    clear SF own hw1 hcap
    go_wp2_with fail
    refine IN.mono ?_
    rintro e w2 ⟨v2, fr, h⟩
    clear IN
    have hb2 := hbx.trans (fr.below (base := w1.heap.size) (Nat.le_refl _) (fun q hq => by simp [Value.ownBlock] at hq) hbx.size)
    have hB := hb1.trans (hb2.mono hb1.size)
    have hs1 := hb1.size
    cases hr : rdN ws.length ws ([] : List No).length with
    | none =>
      rw [hr] at h
      subst h
      have HP := Lib.hid (pfm_none hr)
      clear hr fr hb2 hbx
      go_wp2_with fail
      refine bodyPost_ret (v := .tuple #[.slice none 0 0, .bool false]) (by simp [results, Tryz.results8, go_sem]) rfl ?_
      rw [HP.out]
      exact ⟨none, 0, rfl, own_no_nil _ _, hB⟩
    | some q =>
      obtain ⟨ns, r⟩ := q
      rw [hr] at h
      obtain ⟨rfl, A2, c2, bx, hc2, -⟩ := h
      rw [List.nil_append] at bx
      have zR := bx.1.lt
      cases r with
      | nil =>
        have HP := Lib.hid (pfm_all hr)
        have c0 : w2.cell? ⟨w1.heap.size, 0, none⟩ = some (.slice A2 0 c2) := bx.1.cell 0
        obtain ⟨B3, n3, c3, rfl, rfl⟩ := bx.shape
        have c1 : w2.cell? ⟨w1.heap.size, 1, none⟩ = some (.slice B3 ns.length c3) := bx.1.cell 1
        have own3 := own_less bx.2 hs1
        clear hr fr hb2 hbx bx
        go_wp2_with fail
        refine bodyPost_ret (v := .tuple #[.slice B3 ns.length c3, .bool true]) (by simp [results, Tryz.results8, go_sem]) rfl ?_
        rw [HP.out]
        exact ⟨B3, c3, rfl, own3, hB⟩
      | cons y r =>
        have HP := Lib.hid (pfm_rest hr (by simp))
        have c0 : w2.cell? ⟨w1.heap.size, 0, none⟩ = some (.slice A2 (r.length + 1) c2) := bx.1.cell 0
        have hp0 : (0 : Int) < (r.length : Int) + 1 := by omega
        clear hr fr hb2 hbx bx hc2
        go_wp2_with fail
        refine bodyPost_ret (v := .tuple #[.slice none 0 0, .bool false]) (by simp [results, Tryz.results8, go_sem]) rfl ?_
        rw [HP.out]
        exact ⟨none, 0, rfl, own_no_nil _ _, hB⟩

end Go.Proofs.YtanpmbiblibgfaaGreatDoor
