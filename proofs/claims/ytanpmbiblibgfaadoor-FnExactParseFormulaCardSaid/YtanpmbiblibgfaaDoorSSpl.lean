/- The words of a line, by the reference. Conditions: none. -/
import Derived.Test.YtanpmbiblibgfaaDoorIWor
import Derived.Test.YtanpmbiblibgfaaDoorSPar
import Derived.Lib.Fields
namespace Go.Proofs.YtanpmbiblibgfaaDoor
open Go.RowKit Go.Lib
set_option linter.unusedVariables false
set_option linter.unusedSimpArgs false
def goodB (b : UInt8) : Bool := decide (32 ≤ b.toNat ∧ b.toNat ≤ 126)
/-- The words of a line; none where it is too long, has a bad byte or too many words. -/
def sfL (l : List UInt8) : Option (List (List UInt8)) := if (decide (l.length ≤ 600) && (l.all goodB && decide ((fields l).length ≤ 24))) = true then some (fields l) else none
theorem sfL_long {l : List UInt8} (h : 600 < l.length) : sfL l = none := by rw [sfL, if_neg (by simp; omega)]
theorem sfL_bad {l : List UInt8} {k : Nat} {b : UInt8} (hb : l[k]? = some b) (h : ¬ (32 ≤ b.toNat ∧ b.toNat ≤ 126)) : sfL l = none := by
  rw [sfL, if_neg]
  intro e
  simp only [Bool.and_eq_true, List.all_eq_true] at e
  have := e.2.1 b (List.mem_of_getElem? hb)
  rw [goodB, decide_eq_true_eq] at this
  exact h this
theorem sfL_many {l : List UInt8} (h : 24 < (fields l).length) : sfL l = none := by rw [sfL, if_neg (by simp; omega)]
theorem sfL_ok {l : List UInt8} (h1 : l.length ≤ 600) (h2 : ∀ b ∈ l, 32 ≤ b.toNat ∧ b.toNat ≤ 126) (h3 : (fields l).length ≤ 24) : sfL l = some (fields l) := by
  rw [sfL, if_pos]
  simp only [Bool.and_eq_true, List.all_eq_true, decide_eq_true_eq]
  exact ⟨h1, fun b hb => by rw [goodB, decide_eq_true_eq]; exact h2 b hb, h3⟩
/-- What SplitFields leaves. -/
def SplE (w : World) (r : Option (List (List UInt8))) (e : Ending) (w' : World) : Prop :=
  ∃ (B : Option Addr) (cc : Nat), e = .returned (.tuple #[.slice B (r.getD []).length cc, .bool r.isSome]) ∧ w'.ownsRow w.heap.size 9 1 (.slice B (r.getD []).length cc) (r.getD []).length (strs (r.getD [])) ∧ Below w.heap.size w w'
theorem isSp_32 : isSp 32 = true := by decide
theorem isSp_good {b : UInt8} (h : 32 ≤ b.toNat) (hn : b.toNat ≠ 32) : isSp b = false := by
  cases e : isSp b with
  | false => rfl
  | true =>
    exfalso
    simp only [isSp, Bool.or_eq_true, beq_iff_eq] at e
    rcases e with ((((e | e) | e) | e) | e) | e
    all_goals
      subst e
      first
        | exact hn rfl
        | (revert h; decide)
/-- What the words ahead of byte i are, the word under way beginning at g. -/
def splI (l : List UInt8) (i g : Nat) (xs : List (List UInt8)) : Prop :=
  xs.length ≤ i ∧ (i ≤ l.length → g ≤ i ∧ (∀ b ∈ l.take i, 32 ≤ b.toNat ∧ b.toNat ≤ 126) ∧ fields l = xs ++ fieldsGo ((l.take i).drop g) (l.drop i)) ∧ (l.length < i → (∀ b ∈ l, 32 ≤ b.toNat ∧ b.toNat ≤ 126) ∧ fields l = xs)
theorem splI_zero (l : List UInt8) : splI l 0 0 [] := ⟨Nat.le_refl _, fun _ => ⟨Nat.le_refl _, fun b hb => by simp at hb, by simp [fields]⟩, fun h => by omega⟩
theorem take_snoc' {l : List UInt8} {i : Nat} {b : UInt8} (hb : l[i]? = some b) : l.take (i + 1) = l.take i ++ [b] := by
  have hi : i < l.length := (List.getElem?_eq_some_iff.1 hb).1
  rw [List.take_succ_eq_append_getElem hi]
  rw [List.getElem?_eq_getElem hi] at hb
  injection hb with hb
  rw [hb]
theorem good_snoc {l : List UInt8} {i : Nat} {b : UInt8} (hb : l[i]? = some b) (h : ∀ x ∈ l.take i, 32 ≤ x.toNat ∧ x.toNat ≤ 126) (hg : 32 ≤ b.toNat ∧ b.toNat ≤ 126) : ∀ x ∈ l.take (i + 1), 32 ≤ x.toNat ∧ x.toNat ≤ 126 := by
  intro x hx
  rw [take_snoc' hb] at hx
  rcases List.mem_append.1 hx with hx | hx
  · exact h x hx
  · rw [List.mem_singleton.1 hx]; exact hg
theorem drop_cons' {l : List UInt8} {i : Nat} {b : UInt8} (hb : l[i]? = some b) : l.drop i = b :: l.drop (i + 1) := by
  have hi : i < l.length := (List.getElem?_eq_some_iff.1 hb).1
  rw [List.drop_eq_getElem_cons hi]
  rw [List.getElem?_eq_getElem hi] at hb
  injection hb with hb
  rw [hb]
theorem splI_more {l : List UInt8} {i g : Nat} {xs : List (List UInt8)} {b : UInt8} (h : splI l i g xs) (hb : l[i]? = some b) (hg : 32 ≤ b.toNat ∧ b.toNat ≤ 126) (hn : b.toNat ≠ 32) : splI l (i + 1) g xs := by
  have hi : i < l.length := (List.getElem?_eq_some_iff.1 hb).1
  obtain ⟨h0, h1, -⟩ := h
  obtain ⟨k1, k2, k3⟩ := h1 (by omega)
  refine ⟨by omega, fun _ => ⟨by omega, good_snoc hb k2 hg, ?_⟩, fun h => by omega⟩
  rw [k3, drop_cons' hb, fieldsGo_more _ _ _ (isSp_good hg.1 hn), take_snoc' hb, List.drop_append_of_le_length (by rw [List.length_take]; omega)]
theorem splI_space {l : List UInt8} {i g : Nat} {xs : List (List UInt8)} {b : UInt8} (h : splI l i g xs) (hb : l[i]? = some b) (hn : b.toNat = 32) (hgi : ¬ g < i) : splI l (i + 1) (i + 1) xs := by
  have hi : i < l.length := (List.getElem?_eq_some_iff.1 hb).1
  obtain ⟨h0, h1, -⟩ := h
  obtain ⟨k1, k2, k3⟩ := h1 (by omega)
  obtain rfl : b = 32 := UInt8.toNat_inj.1 hn
  have hg : g = i := by omega
  refine ⟨by omega, fun _ => ⟨Nat.le_refl _, good_snoc hb k2 (by decide), ?_⟩, fun h => by omega⟩
  have e1 : (l.take i).drop g = [] := List.drop_eq_nil_of_le (by rw [List.length_take]; omega)
  have e2 : (l.take (i + 1)).drop (i + 1) = [] := List.drop_eq_nil_of_le (by rw [List.length_take]; omega)
  rw [k3, drop_cons' hb, e1, e2, fieldsGo_sp _ _ isSp_32]
theorem splI_word {l : List UInt8} {i g : Nat} {xs : List (List UInt8)} {b : UInt8} (h : splI l i g xs) (hb : l[i]? = some b) (hn : b.toNat = 32) (hgi : g < i) : splI l (i + 1) (i + 1) (xs ++ [(l.take i).drop g]) := by
  have hi : i < l.length := (List.getElem?_eq_some_iff.1 hb).1
  obtain ⟨h0, h1, -⟩ := h
  obtain ⟨k1, k2, k3⟩ := h1 (by omega)
  obtain rfl : b = 32 := UInt8.toNat_inj.1 hn
  refine ⟨by rw [List.length_append]; simp; omega, fun _ => ⟨Nat.le_refl _, good_snoc hb k2 (by decide), ?_⟩, fun h => by omega⟩
  have e1 : (l.take i).drop g ≠ [] := fun e => by
    have := congrArg List.length e
    rw [List.length_drop, List.length_take] at this
    simp at this
    omega
  have e2 : (l.take (i + 1)).drop (i + 1) = [] := List.drop_eq_nil_of_le (by rw [List.length_take]; omega)
  rw [k3, drop_cons' hb, e2, fieldsGo_end _ _ _ isSp_32 e1, List.append_assoc]
  rfl
theorem splI_end {l : List UInt8} {g : Nat} {xs : List (List UInt8)} (h : splI l l.length g xs) (hgi : ¬ g < l.length) : splI l (l.length + 1) (l.length + 1) xs := by
  obtain ⟨h0, h1, -⟩ := h
  obtain ⟨k1, k2, k3⟩ := h1 (Nat.le_refl _)
  have e1 : (l.take l.length).drop g = [] := List.drop_eq_nil_of_le (by rw [List.length_take]; omega)
  refine ⟨by omega, fun h => by omega, fun _ => ⟨fun b hb => k2 b (by rw [List.take_length]; exact hb), ?_⟩⟩
  rw [k3, e1, List.drop_length]
  simp [fieldsGo]
theorem splI_endw {l : List UInt8} {g : Nat} {xs : List (List UInt8)} (h : splI l l.length g xs) (hgi : g < l.length) : splI l (l.length + 1) (l.length + 1) (xs ++ [(l.take l.length).drop g]) := by
  obtain ⟨h0, h1, -⟩ := h
  obtain ⟨k1, k2, k3⟩ := h1 (Nat.le_refl _)
  have e1 : (l.take l.length).drop g ≠ [] := fun e => by
    have := congrArg List.length e
    rw [List.length_drop, List.length_take] at this
    simp at this
    omega
  refine ⟨by rw [List.length_append]; simp; omega, fun h => by omega, fun _ => ⟨fun b hb => k2 b (by rw [List.take_length]; exact hb), ?_⟩⟩
  rw [k3, List.drop_length]
  cases hq : (l.take l.length).drop g with
  | nil => exact absurd hq e1
  | cons a r => simp [fieldsGo]
theorem str_cells_new (w : World) (xs : List Value) (t : TypeId) : ∀ j u, xs[j]? = some u → (w.alloc (.cells xs.toArray t)).cell? ((⟨w.heap.size, 0, none⟩ : Addr).add j) = some u := by
  intro j u hj
  have ha : Addr.add ⟨w.heap.size, 0, none⟩ j = ⟨w.heap.size, j, none⟩ := by unfold Addr.add; split <;> simp_all
  rw [ha, (Whole.new w t xs.toArray).cell j, List.getElem?_toArray, hj]
theorem extractMid (s : ByteArray) (a b : Nat) : s.extract a b = ⟨((s.data.toList.take b).drop a).toArray⟩ := by
  have h := ByteArray.extract_mk s.data.toList a b
  rw [← baList s] at h
  rw [h, List.drop_take]

set_option maxRecDepth 8000 in
set_option maxHeartbeats 12800000 in
theorem sSplitFields (s : ByteArray) (w : World) (hs : s.size ≤ 9223372036854775807) :
    Calls Tryd.prog 9 #[.string s] w (SplE w (sfL s.data.toList)) := by
  obtain ⟨i0, hi, hz0, hz1, hz2⟩ := info_parts str_inf
  have hlen : s.data.toList.length = s.size := Array.length_toList
  have own0 := own_empty w w.heap.size 9 1 (Nat.le_refl _)
  have hbx : Below w.heap.size w (w.alloc (.cells #[] 9)) := (by (repeat (first | (with_reducible exact Below.refl _ _) | (with_reducible assumption) | (with_reducible refine Below.drew ?_) | (with_reducible refine below_drewN ?_ _) | ((with_reducible refine Below.setCell ?_ ?_ _); rotate_left; focus (first | (simp; done) | omega | (simp; omega))) | ((with_reducible refine Below.alloc ?_ ?_ _); rotate_left; focus (first | exact Nat.le_refl _ | omega | (simp; done) | (simp; omega))))))
  by_cases hbig : 600 < s.size
  · have hres : sfL s.data.toList = none := sfL_long (by omega)
    have hbi : (600 : Int) < s.size := by omega
    rw [hres]
    clear hlen hres
    go_enter Tryd.func9, Tryd.ntmps9
    go_wp2_with fail
    refine bodyPost_ret (v := .tuple #[.slice (some ⟨w.heap.size, 0, none⟩) 0 0, .bool false]) (by simp [results, Tryd.results9, go_sem]) rfl ⟨_, _, rfl, own0, hbx⟩
  · have hbi : ¬ (600 : Int) < s.size := by omega
    go_enter Tryd.func9, Tryd.ntmps9
    go_wp2_with fail
    go_loopw [4, 5, 6] (fun v bg i wr => ∃ (k g : Nat) (xs : List (List UInt8)) (B : Option Addr) (cc : Nat), k ≤ s.size + 1 ∧ i = .int .i64 k ∧ bg = .int .i64 g ∧ v = .slice B xs.length cc ∧ Hid (splI s.data.toList k g xs) ∧ g ≤ s.size + 1 ∧ xs.length ≤ 700 ∧ wr.ownsRow w.heap.size 9 1 (.slice B xs.length cc) xs.length (strs xs) ∧ Below w.heap.size w wr) (fun _ _ i _ => s.size + 1 - (Go.RowKit.intOf i).toNat)
    case atStart => exact ⟨0, 0, [], _, _, Nat.zero_le _, rfl, rfl, rfl, Lib.hid (splI_zero _), Nat.zero_le _, by simp, own0, hbx⟩
    case round =>
      clear own0 hbx
      obtain ⟨k, g, xs, B, cc, hk, rfl, rfl, rfl, hI, hg, hx7, own, hbr⟩ := hrel
      have hsr := hbr.size
      have hbi2 : s.size ≤ 600 := by omega
      by_cases hle : k ≤ s.size
      · have hlei : (k : Int) ≤ s.size := by omega
        by_cases hlt : k < s.size
        · have hlt2 : (k : Int) < s.size := by omega
          have hb : s.data.toList[k]? = some s[k] := by rw [List.getElem?_eq_getElem (by omega)]; rfl
          by_cases h32 : s[k].toNat < 32
          · have f1 : decide ((s[k].toNat : Int) < 32) = true := by simp; omega
            have hres : sfL s.data.toList = none := sfL_bad hb (by omega)
            have HRES := Lib.hid hres
            clear hb hres hI hlen
            have hE := own_empty wr w.heap.size 9 1 hsr
            go_wp2_with fail
            refine bodyPost_ret (v := .tuple #[.slice (some ⟨wr.heap.size, 0, none⟩) 0 0, .bool false]) (by simp [results, Tryd.results9, go_sem]) rfl ?_
            rw [HRES.out]
            exact ⟨_, _, rfl, hE, hbr.alloc hsr _⟩
          · have f1 : decide ((s[k].toNat : Int) < 32) = false := by simp; omega
            by_cases h126 : 126 < s[k].toNat
            · have f2 : decide (126 < (s[k].toNat : Int)) = true := by simp; omega
              have hres : sfL s.data.toList = none := sfL_bad hb (by omega)
              have HRES := Lib.hid hres
              clear hb hres hI hlen
              have hE := own_empty wr w.heap.size 9 1 hsr
              go_wp2_with fail
              refine bodyPost_ret (v := .tuple #[.slice (some ⟨wr.heap.size, 0, none⟩) 0 0, .bool false]) (by simp [results, Tryd.results9, go_sem]) rfl ?_
              rw [HRES.out]
              exact ⟨_, _, rfl, hE, hbr.alloc hsr _⟩
            · have f2 : decide (126 < (s[k].toNat : Int)) = false := by simp; omega
              by_cases hs32 : s[k].toNat = 32
              · have f3 : ((s[k].toNat : Int) != 32) = false := by simp; omega
                by_cases hgk0 : g < k
                · have hxm := extractMid s g k
                  have H2 : Hid (splI s.data.toList (k + 1) (k + 1) (xs ++ [(s.data.toList.take k).drop g])) := Lib.hid (splI_word hI.out hb hs32 hgk0)
                  have hxl := H2.out.1
                  rw [List.length_append, List.length_singleton] at hxl
                  have hgk : (g : Int) ≤ k := by omega
                  have hg0 : (0 : Int) ≤ g := by omega
                  have hks : (k : Int) ≤ s.size := by omega
                  have HXM := Lib.hid hxm
                  have hlt2 : (g : Int) < k := by omega
                  clear hI hxm
                  go_wp2_with (at_builtin; refine wpList_append_own_at _ rfl _ _ 28 rfl w.heap.size 9 i0 (.string ByteArray.empty) 1 16 Tryd.underlying28 hi hz0 hz1 hz2 rfl (by decide) _ _ _ rfl (own.alloc _) ⟨wr.heap.size, 0, none⟩ 1 1 [.string (s.extract g k)] rfl rfl ?c1 ?c2 ?c3 ?c4 ?c5 ?_)
                  try (case c1 => (have h := str_cells_new wr [.string (s.extract g k)] 9; simpa using h))
                  case c2 => first | rfl | (intro u hu; simp at hu; subst hu; rfl)
                  case c3 => unfold maxLen; omega
                  case c4 => omega
                  case c5 => first | omega | (simp; omega)
                  intro v' w7 hown7 hg7 _ hat
                  have hbn : Below w.heap.size w (wr.alloc (.cells #[.string (s.extract g k)] 9)) := hbr.alloc hsr _
                  have hB7 : Below w.heap.size w w7 := hbn.grown hg7 hbn.size (fun q hq => (own.lt q hq).1)
                  obtain ⟨B7, c7, rfl⟩ := (OwR.of_own hown7).form
                  clear hg7 hat hbn own hbr
                  have e1 : IntKind.i64.wrap ((k : Int) + 1) = (k : Int) + 1 := IntWalk.i64_in _ ⟨by omega, by omega⟩
                  go_wp2_with fail
                  go_roundw
                  case rel => exact ⟨k + 1, k + 1, xs ++ [(s.data.toList.take k).drop g], B7, c7, by omega, by go_num, by go_num, by rw [List.length_append]; rfl, H2, by omega, by rw [List.length_append, List.length_singleton]; omega, by rw [List.length_append, show strs (xs ++ [(s.data.toList.take k).drop g]) = strs xs ++ [.string (s.extract g k)] by rw [HXM.out]; exact List.map_append]; exact hown7, hB7⟩
                  case measure => (simp [Go.RowKit.intOf]; try omega)
                · have hgk1 : ¬ (g : Int) < k := by omega
                  have H2 : Hid (splI s.data.toList (k + 1) (k + 1) xs) := Lib.hid (splI_space hI.out hb hs32 hgk0)
                  have e1 : IntKind.i64.wrap ((k : Int) + 1) = (k : Int) + 1 := IntWalk.i64_in _ ⟨by omega, by omega⟩
                  clear hI
                  go_wp2_with fail
                  go_roundw
                  case rel => exact ⟨k + 1, (k + 1), xs, B, cc, by omega, by go_num, by go_num, rfl, H2, by omega, hx7, own, hbr⟩
                  case measure => (simp [Go.RowKit.intOf]; try omega)
              · have f3 : ((s[k].toNat : Int) != 32) = true := by simp; omega
                have H2 : Hid (splI s.data.toList (k + 1) g xs) := Lib.hid (splI_more hI.out hb ⟨by omega, by omega⟩ hs32)
                have e1 : IntKind.i64.wrap ((k : Int) + 1) = (k : Int) + 1 := IntWalk.i64_in _ ⟨by omega, by omega⟩
                clear hI
                go_wp2_with fail
                go_roundw
                case rel => exact ⟨k + 1, g, xs, B, cc, by omega, by go_num, by go_num, rfl, H2, by omega, hx7, own, hbr⟩
                case measure => (simp [Go.RowKit.intOf]; try omega)
        · have hke : k = s.size := by omega
          have hI2 : splI s.data.toList s.data.toList.length g xs := by rw [hlen, ← hke]; exact hI.out
          have hlt2 : ¬ (k : Int) < s.size := by omega
          have HKE := Lib.hid hke
          clear hke
          by_cases hgk0 : g < k
          · have hxm := extractMid s g k
            have H2 : Hid (splI s.data.toList (k + 1) (k + 1) (xs ++ [(s.data.toList.take k).drop g])) := Lib.hid (by have k0 := splI_endw hI2 (by rw [hlen, ← HKE.out]; exact hgk0); rw [hlen, ← HKE.out] at k0; exact k0)
            have hxl := H2.out.1
            rw [List.length_append, List.length_singleton] at hxl
            have hgk : (g : Int) ≤ k := by omega
            have hg0 : (0 : Int) ≤ g := by omega
            have hks : (k : Int) ≤ s.size := by omega
            have HXM := Lib.hid hxm
            have hlt2 : (g : Int) < k := by omega
            clear hI hxm
            go_wp2_with (at_builtin; refine wpList_append_own_at _ rfl _ _ 28 rfl w.heap.size 9 i0 (.string ByteArray.empty) 1 16 Tryd.underlying28 hi hz0 hz1 hz2 rfl (by decide) _ _ _ rfl (own.alloc _) ⟨wr.heap.size, 0, none⟩ 1 1 [.string (s.extract g k)] rfl rfl ?c1 ?c2 ?c3 ?c4 ?c5 ?_)
            try (case c1 => (have h := str_cells_new wr [.string (s.extract g k)] 9; simpa using h))
            case c2 => first | rfl | (intro u hu; simp at hu; subst hu; rfl)
            case c3 => unfold maxLen; omega
            case c4 => omega
            case c5 => first | omega | (simp; omega)
            intro v' w7 hown7 hg7 _ hat
            have hbn : Below w.heap.size w (wr.alloc (.cells #[.string (s.extract g k)] 9)) := hbr.alloc hsr _
            have hB7 : Below w.heap.size w w7 := hbn.grown hg7 hbn.size (fun q hq => (own.lt q hq).1)
            obtain ⟨B7, c7, rfl⟩ := (OwR.of_own hown7).form
            clear hg7 hat hbn own hbr
            have e1 : IntKind.i64.wrap ((k : Int) + 1) = (k : Int) + 1 := IntWalk.i64_in _ ⟨by omega, by omega⟩
            go_wp2_with fail
            go_roundw
            case rel => exact ⟨k + 1, k + 1, xs ++ [(s.data.toList.take k).drop g], B7, c7, by omega, by go_num, by go_num, by rw [List.length_append]; rfl, H2, by omega, by rw [List.length_append, List.length_singleton]; omega, by rw [List.length_append, show strs (xs ++ [(s.data.toList.take k).drop g]) = strs xs ++ [.string (s.extract g k)] by rw [HXM.out]; exact List.map_append]; exact hown7, hB7⟩
            case measure => (simp [Go.RowKit.intOf]; try omega)
          · have hgk1 : ¬ (g : Int) < k := by omega
            have H2 : Hid (splI s.data.toList (k + 1) (k + 1) xs) := Lib.hid (by have k0 := splI_end hI2 (by rw [hlen, ← HKE.out]; exact hgk0); rw [hlen, ← HKE.out] at k0; exact k0)
            have e1 : IntKind.i64.wrap ((k : Int) + 1) = (k : Int) + 1 := IntWalk.i64_in _ ⟨by omega, by omega⟩
            clear hI
            go_wp2_with fail
            go_roundw
            case rel => exact ⟨k + 1, (k + 1), xs, B, cc, by omega, by go_num, by go_num, rfl, H2, by omega, hx7, own, hbr⟩
            case measure => (simp [Go.RowKit.intOf]; try omega)
      · obtain rfl : k = s.size + 1 := by omega
        have hq := hI.out.2.2 (by omega)
        obtain ⟨hgood, hf⟩ := hq
        have hle1 : ¬ (((s.size + 1 : Nat) : Int)) ≤ s.size := by omega
        by_cases h24 : 24 < xs.length
        · have hres : sfL s.data.toList = none := sfL_many (by rw [hf]; exact h24)
          have HRES := Lib.hid hres
          have h24i : (24 : Int) < xs.length := by omega
          have hE := own_empty wr w.heap.size 9 1 hsr
          clear hres hI hlen hgood hf
          go_wp2_with fail
          refine bodyPost_ret (v := .tuple #[.slice (some ⟨wr.heap.size, 0, none⟩) 0 0, .bool false]) (by simp [results, Tryd.results9, go_sem]) rfl ?_
          rw [HRES.out]
          exact ⟨_, _, rfl, hE, hbr.alloc hsr _⟩
        · have hres : sfL s.data.toList = some xs := by rw [sfL_ok (by omega) hgood (by rw [hf]; omega), hf]
          have HRES := Lib.hid hres
          have h24i : ¬ (24 : Int) < xs.length := by omega
          clear hres hI hlen hgood hf
          go_wp2_with fail
          refine bodyPost_ret (v := .tuple #[.slice B xs.length cc, .bool true]) (by simp [results, Tryd.results9, go_sem]) rfl ?_
          rw [HRES.out]
          exact ⟨_, _, rfl, own, hbr⟩
end Go.Proofs.YtanpmbiblibgfaaDoor
