/- slices.Insert, slices.Clone at spells. Conditions: the row is the caller's own. -/
import Derived.Test.YtmbmpogdakoloaaSp
import Derived.Deep.RegionLaw
import Derived.Deep.AppendSrc
import Derived.Lib.SliceRun
import Derived.Lib.AppendZeros
import Derived.Lib.AppendZerosOnto
import Derived.Lib.Overlaps
import Derived.Laws.Externs
import Derived.Laws.CopyRow
import Derived.Shelf.Spec.SlicesInsert
namespace Go.Proofs.Ytmbmpogdakoloaa
open Go.RowKit

/-- copy at elements of k cells: dst in a row that is known, src anywhere. -/
theorem copyR {P : Program} {dT sT elem : TypeId} {k : Nat} (hu : P.underlying dT = some (.slice elem)) (hs : (P.info? elem).map (·.size) = some k) {w : World} {g o N : Nat} {G : Nat → Value} {t : TypeId} (h : w.rowIs g t N G)
    (b so dLen sLen m : Nat) (C : Nat → Value) (hm : m = Nat.min sLen dLen) (hsrc : ∀ j, j < m * k → w.cell? ⟨b, so + j, none⟩ = some (C j)) (h1 : ∀ j, j < m * k → (C j).oneCell' = true) (hfit : o + m * k ≤ N) :
    ∃ w', (∀ ty dc sc, (Builtin.copy_ #[dT, sT] ty #[.slice (some ⟨g, o, none⟩) dLen dc, .slice (some ⟨b, so, none⟩) sLen sc]).run P w = .ok (goInt m) w') ∧ w'.rowIs g t N (fun j => if o ≤ j ∧ j < o + m * k then C (j - o) else G j) ∧ w.grownBy w' (some g) := by
  obtain ⟨cur, hg, hsz, hG⟩ := h
  have hgl : g < w.heap.size := by
    rcases Nat.lt_or_ge g w.heap.size with k' | k'
    · exact k'
    · rw [Array.getElem?_eq_none k'] at hg
      cases hg
  obtain ⟨cs, hcs⟩ : ∃ cs : List Value, cs = (List.range (m * k)).map C := ⟨_, rfl⟩
  have hcl : cs.length = m * k := by rw [hcs]; simp
  have hget : ∀ j, cs[j]? = if j < m * k then some (C j) else none := fun j => by
    rw [hcs, List.getElem?_map]
    by_cases hj : j < m * k
    · rw [List.getElem?_range hj, if_pos hj]
      rfl
    · rw [List.getElem?_eq_none (by simp; omega), if_neg hj]
      rfl
  have hsrc' : ∀ j v, cs[j]? = some v → w.cell? ((⟨b, so, none⟩ : Addr).add j) = some v := fun j v hj => by
    rw [hget] at hj
    split at hj
    · next hlt =>
      rw [Addr.add_lit, hsrc j hlt]
      exact hj
    · cases hj
  have h1' : ∀ v ∈ cs, v.oneCell' = true := fun v hv => by
    rw [hcs] at hv
    obtain ⟨j, hj, rfl⟩ := List.mem_map.1 hv
    exact h1 j (List.mem_range.1 hj)
  have hl := run_loadCells_list (P := P) w ⟨b, so, none⟩ cs hsrc'
  have hst := run_storeCells_at P g o t cs 0 cur w hg (by simp; omega) h1'
  refine ⟨w.setRow g (cur.toList.take (o + 0) ++ cs ++ cur.toList.drop (o + 0 + cs.length)).toArray, fun ty dc sc => ?_, ⟨_, setRow_heap w g cur _ t _ hg, ?_, fun i hi => ?_⟩, ?_⟩
  · cases hq : P.info? elem with
    | none => simp [hq] at hs
    | some i =>
      have hi : i.size = k := by simpa [hq] using hs
      rw [hcl] at hl
      simp [Builtin.copy_, run_underlying hu, Builtin.lenOf, Builtin.firstCells, sizeOf, typeInfo, hq, hi, ← hm, hl]
      simp at hst
      rw [hst]
      simp
  · simp; omega
  · have hG' : ∀ i, i < N → cur.toList[i]? = some (G i) := fun i hi => by rw [Array.getElem?_toList]; exact hG i hi
    show (_ : List Value).toArray[i]? = some (if o ≤ i ∧ i < o + m * k then C (i - o) else G i)
    rw [List.getElem?_toArray, Nat.add_zero]
    have hl1 : (cur.toList.take o).length = o := by simp; omega
    by_cases e : i < o
    · rw [if_neg (by omega), List.append_assoc, List.getElem?_append_left (by omega), List.getElem?_take, if_pos e, hG' i hi]
    by_cases e2 : i < o + m * k
    · rw [if_pos ⟨by omega, e2⟩, List.append_assoc, List.getElem?_append_right (by omega), hl1, List.getElem?_append_left (by omega), hget, if_pos (by omega)]
    · rw [if_neg (by omega), List.getElem?_append_right (by simp; omega), List.getElem?_drop, ← hG' i hi]
      have hl2 : (cur.toList.take o ++ cs).length = o + m * k := by rw [List.length_append, hl1, hcl]
      rw [hl2, hcl, show o + m * k + (i - (o + m * k)) = i by omega]
  · refine ⟨rfl, rfl, rfl, by simp [World.setRow], fun j hj hn => ?_⟩
    exact setRow_other w g j _ (fun e => hn (by rw [e]))

/-- x laid into L at place i. -/
def insL (L : Nat → Sp) (i : Nat) (x : Sp) (j : Nat) : Sp := if j < i then L j else if j = i then x else L (j - 1)
theorem sp_one1 (L : Nat → Sp) (j : Nat) : (spAt L j).oneCell' = true := by
  rw [spAt]
  rcases (by omega : j % 4 = 0 ∨ j % 4 = 1 ∨ j % 4 = 2 ∨ j % 4 = 3) with h | h | h | h <;> rw [h] <;> rfl
theorem insF {L : Nat → Sp} {i n : Nat} {x : Sp} {F : Nat → Value} (h1 : ∀ j, j < i * 4 → F j = spAt L j) (h2 : ∀ t, t < 4 → F (i * 4 + t) = spAt (fun _ => x) t) (h3 : ∀ j, (i + 1) * 4 ≤ j → j < (n + 1) * 4 → F j = spAt L (j - 4)) :
    ∀ j, j < (n + 1) * 4 → F j = spAt (insL L i x) j := by
  intro j hj
  rw [spAt, insL]
  by_cases e1 : j / 4 < i
  · rw [if_pos e1, h1 j (by omega), spAt]
  rw [if_neg e1]
  by_cases e2 : j / 4 = i
  · rw [if_pos e2]
    have := h2 (j - i * 4) (by omega)
    rw [show i * 4 + (j - i * 4) = j by omega, spAt] at this
    rw [this, show (j - i * 4) % 4 = j % 4 by omega]
  · rw [if_neg e2, h3 j (by omega) hj, spAt, show (j - 4) / 4 = j / 4 - 1 by omega, show (j - 4) % 4 = j % 4 by omega]
theorem sp_flat (L : Nat → Sp) {n j : Nat} (hj : j < n * 4) : (((List.range n).map L).flatMap Sp.cells)[j]? = some (spAt L j) := by
  have h1 : j / 4 < n := by omega
  have h := flat_get sp_cells_len ((List.range n).map L) (j / 4) (j % 4) (Nat.mod_lt _ (by omega))
  rw [show j / 4 * 4 + j % 4 = j by omega] at h
  have h2 : ((L (j / 4)).cells)[j % 4]? = some (spAt L j) := by
    have hl : j % 4 < ((L (j / 4)).cells).length := Nat.mod_lt _ (by omega)
    rw [spAt, List.getD_eq_getElem?_getD, List.getElem?_eq_getElem hl]
    rfl
  rw [h, List.getElem?_map, List.getElem?_range h1]
  exact h2
theorem sp_flat_len (L : Nat → Sp) (n : Nat) : (((List.range n).map L).flatMap Sp.cells).length = n * 4 := by rw [flat_len sp_cells_len]; simp
theorem RdSp.cellAt {w : World} {B b off n j : Nat} {L : Nat → Sp} (h : RdSp w B (some ⟨b, off, none⟩) n L) (hj : j < n * 4) : w.cell? ⟨b, off + j, none⟩ = some (spAt L j) := by
  obtain ⟨b', off', e, _, h0, h1, h2, h3⟩ := h.2 (j / 4) (by omega)
  injection e with e
  injection e with e1 e2
  subst e1 e2
  have hd : j = j / 4 * 4 + j % 4 := by omega
  have hm : j % 4 < 4 := Nat.mod_lt _ (by omega)
  rw [spAt]
  generalize j % 4 = r at hd hm ⊢
  generalize j / 4 = q at hd h0 h1 h2 h3 ⊢
  subst hd
  match r, hm with
  | 0, _ => simpa using h0
  | 1, _ => simpa [Nat.add_assoc] using h1
  | 2, _ => simpa [Nat.add_assoc] using h2
  | 3, _ => simpa [Nat.add_assoc] using h3
/-- The cells of a slice that is read, for an append of it. -/
theorem RdSp.news {w : World} {B n : Nat} {ad : Addr} {L : Nat → Sp} (h : RdSp w B (some ad) n L) : ∀ j u, (((List.range n).map L).flatMap Sp.cells)[j]? = some u → w.cell? (ad.add j) = some u := by
  intro j u hj
  have hlt : j < n * 4 := by
    rcases Nat.lt_or_ge j (n * 4) with hh | hh
    · exact hh
    · rw [List.getElem?_eq_none (by rw [sp_flat_len]; exact hh)] at hj
      cases hj
  rw [sp_flat L hlt] at hj
  injection hj with hj
  subst hj
  obtain ⟨b, off, e, _, _⟩ := h.2 (j / 4) (by omega)
  injection e with e
  subst e
  have ha : Addr.add ⟨b, off, none⟩ j = ⟨b, off + j, none⟩ := by unfold Addr.add; split <;> simp_all
  rw [ha]
  exact h.cellAt hlt
theorem sp_one (L : Nat → Sp) (n : Nat) : ∀ u ∈ ((List.range n).map L).flatMap Sp.cells, u.oneCell' = true := by
  intro u hu
  obtain ⟨s, _, hs⟩ := List.mem_flatMap.1 hu
  simp [Sp.cells] at hs
  rcases hs with rfl | rfl | rfl | rfl <;> rfl


theorem sp_lst (L : Nat → Sp) (n : Nat) : ∀ i, i < n → ((List.range n).map L).getD i Sp.zero = L i := fun i hi => by
  rw [List.getD_eq_getElem?_getD, List.getElem?_map, List.getElem?_range hi]
  rfl
/-- v is an own slice of the spells L. -/
def OwL (w : World) (base : Nat) (v : Value) (n : Nat) (L : Nat → Sp) : Prop := w.ownsRow base 29 4 v n (((List.range n).map L).flatMap Sp.cells)
theorem OwL.ow {w : World} {base n : Nat} {v : Value} {L : Nat → Sp} (h : OwL w base v n L) : OwR w base 29 4 v n (spAt L) :=
  (OwSp.list h (by simp)).congr fun j hj => spAt_lt (k := n) (fun i hi => sp_lst L n i hi) hj
set_option maxRecDepth 4000 in
set_option maxHeartbeats 3200000 in
theorem iClone (w : World) (A : Option Addr) (n c : Nat) (L : Nat → Sp) (h : RdSp w w.heap.size A n L) (hA : A = none → n = 0 ∧ c = 0) (hn : n ≤ 1048580) :
    Calls Try.prog 60 #[.slice A n c] w fun e w' => ∃ (B : Option Addr) (cc : Nat), e = .returned (.slice B n cc) ∧ OwL w' w.heap.size (.slice B n cc) n L ∧ (B = none → n = 0 ∧ cc = 0) ∧ Below w.heap.size w w' := by
  obtain ⟨i0, hi, hz0, hz1, hz2⟩ := info_parts sp_inf
  have q0 : ∀ (w : World) (a : Option Addr) (n c n' c' : Nat), (binOp .eql 24 (.slice a n c) (.slice none n' c')).run Try.prog w = .ok (.bool a.isNone) w := fun w a n c n' c' => Lib.run_eql_slice_nil w _ _ a n c n' c' Try.underlying24
  cases A with
  | none =>
    obtain ⟨rfl, rfl⟩ := hA rfl
    go_enter Try.func60, Try.ntmps60
    go_wp2_with fail
    go_ret
    exact ⟨none, 0, rfl, ⟨by simp, .inl ⟨rfl, rfl⟩⟩, by simp, Below.refl _ _⟩
  | some ad =>
    have hown := own_empty w w.heap.size 29 4 (Nat.le_refl _)
    have hbb : Below w.heap.size w (w.alloc (.cells #[] 29)) := (by (repeat (first | (with_reducible exact Below.refl _ _) | ((with_reducible refine Below.alloc ?_ ?_ _); rotate_left; focus (first | exact Nat.le_refl _ | omega | (simp; done) | (simp; omega))))))
    have hh := h.below hbb
    go_enter Try.func60, Try.ntmps60
    go_wp2_with (at_builtin; refine wpList_append_own_at _ rfl _ _ 24 rfl w.heap.size 29 i0 (.agg #[.int .i64 0, .int .i64 0, .int .i64 0, .bool false]) 4 32 Try.underlying24 hi hz0 hz1 hz2 rfl (by decide) _ _ _ rfl (hown) ad n c (((List.range n).map L).flatMap Sp.cells) rfl ?c1 ?c2 ?c3 ?c4 ?c5 ?c6 ?_)
    case c1 => exact sp_flat_len L n
    case c2 => exact hh.news
    case c3 => exact sp_one L n
    case c4 => unfold maxLen; omega
    case c5 => omega
    case c6 => simp
    intro v' w1 hown1 hg1 hnil hat
    have hB1 : Below w.heap.size w w1 := hbb.grown hg1 hbb.size (fun q hq => by simp [Value.ownBlock] at hq; omega)
    obtain ⟨B, cc, rfl⟩ := (OwR.of_own hown1).form
    clear hat hg1
    have ow : OwL w1 w.heap.size (.slice B n cc) n L := by simpa [OwL] using hown1
    have hz : B = none → n = 0 ∧ cc = 0 := fun e => by
      subst e
      rcases hown1.2 with ⟨h1, h2⟩ | ⟨g, cap, cur, h1, _⟩
      · injection h1 with _ _ h3
        exact ⟨by omega, h3⟩
      · cases h1
    clear hown1 hnil
    go_wp2_with fail
    go_ret
    exact ⟨B, cc, by simp, by simpa using ow, hz, hB1⟩

theorem OwL.lt {w : World} {base n : Nat} {v : Value} {L : Nat → Sp} (h : OwL w base v n L) : ∀ k, v.ownBlock = some k → base ≤ k ∧ k < w.heap.size := h.ow.lt
theorem ins_end (L : Nat → Sp) (n : Nat) (x : Sp) : ∀ j, j < (n + 1) * 4 → spAt (fun i => (((List.range n).map L) ++ [x]).getD i Sp.zero) j = spAt (insL L n x) j := fun j hj =>
  spAt_lt (k := n + 1) (fun i hi => by
    rw [insL]
    by_cases e : i < n
    · rw [if_pos e, List.getD_eq_getElem?_getD, List.getElem?_append_left (by simp; omega), ← List.getD_eq_getElem?_getD, sp_lst L n i e]
    · have e2 : i = n := by omega
      subst e2
      rw [if_neg e, if_pos rfl, List.getD_eq_getElem?_getD, List.getElem?_append_right (by simp)]
      simp) hj
set_option maxRecDepth 4000 in
set_option maxHeartbeats 3200000 in
theorem iInsEnd (w : World) (base : Nat) (B : Option Addr) (n c : Nat) (L : Nat → Sp) (vb : Nat) (x : Sp) (own : OwL w base (.slice B n c) n L) (hv : Whole w vb 29 x.cells.toArray) (hb : base ≤ w.heap.size) (hn : n ≤ 1048580) :
    Calls Try.prog 59 #[.slice B n c, .int .i64 n, .slice (some ⟨vb, 0, none⟩) 1 1] w fun e w' => ∃ (B' : Option Addr) (c' : Nat), e = .returned (.slice B' (n + 1) c') ∧ OwR w' base 29 4 (.slice B' (n + 1) c') (n + 1) (spAt (insL L n x)) ∧ Below base w w' := by
  obtain ⟨i0, hi, hz0, hz1, hz2⟩ := info_parts sp_inf
  have hown : w.ownsRow base 29 4 (.slice B n c) n (((List.range n).map L).flatMap Sp.cells) := own
  have hwn : IntKind.i64.wrap (n : Int) = n := IntWalk.i64_in _ ⟨by omega, by omega⟩
  have hbb := fun q hq => (own.lt q hq).1
  have hfin : ∀ (v' : Value) (w' : World), w'.ownsRow base 29 4 v' (n + 1) (((List.range n).map L).flatMap Sp.cells ++ x.cells) → w.grownBy w' (Value.slice B n c).ownBlock → ∃ (B' : Option Addr) (c' : Nat), v' = .slice B' (n + 1) c' ∧ OwR w' base 29 4 (.slice B' (n + 1) c') (n + 1) (spAt (insL L n x)) ∧ Below base w w' := fun v' w' h1 h2 => by
    have h3 : w'.ownsRow base 29 4 v' (n + 1) ((((List.range n).map L) ++ [x]).flatMap Sp.cells) := by simpa using h1
    have h4 := (OwSp.list h3 (by simp)).congr (ins_end L n x)
    obtain ⟨B', c', rfl⟩ := h4.form
    exact ⟨B', c', rfl, h4, (Below.refl base w).grown h2 hb hbb⟩
  have hnews : ∀ j u, x.cells[j]? = some u → w.cell? ((⟨vb, 0, none⟩ : Addr).add j) = some u := fun j u hj => by
    rw [Addr.add_lit, Nat.zero_add, hv.cell]
    simpa using hj
  have hone : ∀ u ∈ x.cells, u.oneCell' = true := fun u hu => by
    simp [Sp.cells] at hu
    rcases hu with rfl | rfl | rfl | rfl <;> rfl
  clear own hv
  have HF := Lib.hid hfin
  clear hfin
  cases B with
  | none =>
    go_enter Try.func59, Try.ntmps59
    go_wp2_with (at_builtin; refine wpList_append_own_at _ rfl _ _ 24 rfl base 29 i0 (.agg #[.int .i64 0, .int .i64 0, .int .i64 0, .bool false]) 4 32 Try.underlying24 hi hz0 hz1 hz2 rfl (by decide) _ _ _ rfl hown ⟨vb, 0, none⟩ 1 1 x.cells rfl rfl hnews hone ?c4 ?c5 hb ?_)
    case c4 => unfold maxLen; omega
    case c5 => omega
    intro v' w1 hown1 hg1 _ hat
    obtain ⟨B', c', rfl, ho, hB⟩ := HF.out v' w1 hown1 hg1
    clear hown1 hg1 hat
    go_wp2_with fail
    go_ret
    exact ⟨B', c', rfl, ho, hB⟩
  | some a =>
    obtain ⟨ab, ao, asp⟩ := a
    by_cases hcn : c = n
    · subst hcn
      go_enter Try.func59, Try.ntmps59
      go_wp2_with (at_builtin; refine wpList_append_own_at _ rfl _ _ 24 rfl base 29 i0 (.agg #[.int .i64 0, .int .i64 0, .int .i64 0, .bool false]) 4 32 Try.underlying24 hi hz0 hz1 hz2 rfl (by decide) _ _ _ rfl hown ⟨vb, 0, none⟩ 1 1 x.cells rfl rfl hnews hone ?c4 ?c5 hb ?_)
      case c4 => unfold maxLen; omega
      case c5 => omega
      intro v' w1 hown1 hg1 _ hat
      obtain ⟨B', c', rfl, ho, hB⟩ := HF.out v' w1 hown1 hg1
      clear hown1 hg1 hat
      go_wp2_with fail
      go_ret
      exact ⟨B', c', rfl, ho, hB⟩
    · have hcn2 : ¬ n = c := by omega
      go_enter Try.func59, Try.ntmps59
      go_wp2_with (at_builtin; refine wpList_append_own_at _ rfl _ _ 24 rfl base 29 i0 (.agg #[.int .i64 0, .int .i64 0, .int .i64 0, .bool false]) 4 32 Try.underlying24 hi hz0 hz1 hz2 rfl (by decide) _ _ _ rfl hown ⟨vb, 0, none⟩ 1 1 x.cells rfl rfl hnews hone ?c4 ?c5 hb ?_)
      case c4 => unfold maxLen; omega
      case c5 => omega
      intro v' w1 hown1 hg1 _ hat
      obtain ⟨B', c', rfl, ho, hB⟩ := HF.out v' w1 hown1 hg1
      clear hown1 hg1 hat
      go_wp2_with fail
      go_ret
      exact ⟨B', c', rfl, ho, hB⟩

theorem sp_szof : (Try.prog.info? 29).map (·.size) = some 4 := by kernel_rfl
theorem sp_sizeof (w : World) : (Go.sizeOf 29).run Try.prog w = .ok 4 w := by
  obtain ⟨i0, hi, hz0, hz1, hz2⟩ := info_parts sp_inf
  simp [Go.sizeOf, typeInfo, hi, hz1]
theorem ov_no (w : World) (vb g a la ca lb cb N : Nat) (G : Nat → Value) (x : Sp) (hv : Whole w vb 29 x.cells.toArray) (hr : w.rowIs g 29 N G) (hN : N ≠ 0) (hne : vb ≠ g) :
    (callFunc 67 #[.slice (some ⟨vb, 0, none⟩) la ca, .slice (some ⟨g, a, none⟩) lb cb]).run Try.prog w = .ok (.value (.bool false)) w := by
  obtain ⟨cur, hh, hz, _⟩ := hr
  have hsa : w.shape? vb = some (29, 4) := by
    unfold Whole at hv
    simp [World.shape?, hv]
  have hsb : w.shape? g = some (29, N) := by simp [World.shape?, hh, hz]
  rw [run_callFunc_extern Try.func67 (by kernel_rfl) (by kernel_rfl) (by kernel_rfl) (e := Extern.SlicesOverlaps.overlaps #[24, 24] #[4]) (by kernel_rfl),
    Lib.run_overlaps_apart w 24 4 29 Try.underlying24 4 sp_sizeof ⟨vb, 0, none⟩ ⟨g, a, none⟩ la ca lb cb hne 29 29 4 N hsa hsb hN (hv.free 0) (hv.free 4)]
  rfl

set_option maxRecDepth 4000 in
set_option maxHeartbeats 3200000 in
theorem iInsShift (w : World) (base g n c i : Nat) (L : Nat → Sp) (vb : Nat) (x : Sp) (G : Nat → Value) (hr : w.rowIs g 29 (c * 4) G) (hG : ∀ j, j < n * 4 → G j = spAt L j) (hbg : base ≤ g) (hi : i < n) (hc : n + 1 ≤ c) (hcm : c ≤ maxLen) (hv : Whole w vb 29 x.cells.toArray) (hne : vb ≠ g) (hb : base ≤ w.heap.size) (hn : n ≤ 1048580) :
    Calls Try.prog 59 #[.slice (some ⟨g, 0, none⟩) n c, .int .i64 i, .slice (some ⟨vb, 0, none⟩) 1 1] w fun e w' => ∃ (B' : Option Addr) (c' : Nat), e = .returned (.slice B' (n + 1) c') ∧ OwR w' base 29 4 (.slice B' (n + 1) c') (n + 1) (spAt (insL L i x)) ∧ Below base w w' := by
  have hz2 : ¬ ((i : Int) = (n : Int)) := by omega
  have hov : ∀ lb cb a, (callFunc 67 #[.slice (some ⟨vb, 0, none⟩) 1 1, .slice (some ⟨g, a, none⟩) lb cb]).run Try.prog w = .ok (.value (.bool false)) w := fun lb cb a => ov_no w vb g a 1 1 lb cb _ G x hv hr (by omega) hne
  have hsp := sp_one1 L
  obtain ⟨W1, hcp1, row1, gr1⟩ := copyR (P := Try.prog) (dT := 24) (sT := 24) Try.underlying24 sp_szof (w := w.drew) (g := g) (o := (i + 1) * 4) (N := c * 4) (G := G) (t := 29) hr g (i * 4) (n - i) (n + 1 - i) (n - i) (fun j => spAt L (i * 4 + j)) (by simp only [Nat.min_def]; split <;> omega)
    (fun j hj => by rw [← hG _ (by omega)]; exact World.rowIs.cell hr (by omega)) (fun j _ => hsp _) (by omega)
  have hv1 : Whole W1 vb 29 x.cells.toArray := (Whole.drew hv).grown gr1 (fun e => by injection e with e; exact hne e)
  obtain ⟨W2, hcp2, row2, gr2⟩ := copyR (P := Try.prog) (dT := 24) (sT := 24) Try.underlying24 sp_szof (w := W1) (g := g) (o := i * 4) (N := c * 4) (t := 29) row1 vb 0 (n + 1 - i) 1 1 (fun j => spAt (fun _ => x) j) (by simp only [Nat.min_def]; split <;> omega)
    (fun j hj => by
      rw [Nat.zero_add, hv1.cell]
      match j, hj with
      | 0, _ => rfl
      | 1, _ => rfl
      | 2, _ => rfl
      | 3, _ => rfl) (fun j _ => sp_one1 _ _) (by omega)
  have own : OwR W2 base 29 4 (.slice (some ⟨g, 0, none⟩) (n + 1) c) (n + 1) (spAt (insL L i x)) := .inr ⟨g, c, _, rfl, hbg, hc, hcm, row2, insF (n := n)
    (fun j hj => by
      rw [if_neg (by omega), if_neg (by omega), hG _ (by omega)])
    (fun t ht => by rw [if_pos (by omega), show i * 4 + t - i * 4 = t by omega])
    (fun j hj hj2 => by
      rw [if_neg (by omega), if_pos (by omega), show i * 4 + (j - (i + 1) * 4) = j - 4 by omega])⟩
  have hB : Below base w W2 := (((Below.refl base w).drew).grown gr1 (by exact hb) (fun q hq => by injection hq; omega)).grown gr2 (by have := gr1.size; exact Nat.le_trans hb this) (fun q hq => by injection hq; omega)
  have hw1 : IntKind.i64.wrap ((i : Int) + 1) = (i : Int) + 1 := by rw [IntKind.wrap_i64]; omega
  have hwn : IntKind.i64.wrap ((n : Int) + 1) = (n : Int) + 1 := by rw [IntKind.wrap_i64]; omega
  have hb1 : (0 : Int) ≤ (i : Int) + 1 := by omega
  have htn : ((i : Int) + 1).toNat = i + 1 := by omega
  have htn2 : ((n : Int) + 1).toNat = n + 1 := by omega
  have hb2 : ¬ (c = i + 1) := by omega
  have hb3 : (i : Int) ≤ (n : Int) + 1 := by omega
  have hb4 : ¬ (c = i) := by omega
  have hb5 : ¬ ((c : Int) < (n : Int) + 1) := by omega
  have hb6 : i ≤ n := by omega
  have hgl := World.rowIs.lt hr
  unfold maxLen at hcm
  clear hr hG hv hv1 row1 row2 gr1 gr2 hsp
  go_enter Try.func59, Try.ntmps59
  go_wp2_with (simp only [hov])
  go_region_law (refine step_copy_runI rfl _ _ 24 24 rfl _ _ (by simp [Act.eval, Act.put]) (by simp [Act.eval, Act.put]) (hcp1 _ _ _) ?_)
  go_wp2_with (at_builtin; refine wpList_copy_runI _ rfl _ _ 24 24 rfl _ _ rfl rfl (hcp2 _ _ _) ?_)
  go_ret
  exact ⟨_, _, rfl, own, hB⟩

set_option maxRecDepth 4000 in
set_option maxHeartbeats 3200000 in
theorem iInsGrow (w : World) (base g n c i : Nat) (L : Nat → Sp) (vb : Nat) (x : Sp) (G : Nat → Value) (hr : w.rowIs g 29 (c * 4) G) (hG : ∀ j, j < n * 4 → G j = spAt L j) (hi : i < n) (hnc : n ≤ c) (hc : c < n + 1) (hv : Whole w vb 29 x.cells.toArray) (hb : base ≤ w.heap.size) (hn : n ≤ 1048580) :
    Calls Try.prog 59 #[.slice (some ⟨g, 0, none⟩) n c, .int .i64 i, .slice (some ⟨vb, 0, none⟩) 1 1] w fun e w' => ∃ (B' : Option Addr) (c' : Nat), e = .returned (.slice B' (n + 1) c') ∧ OwR w' base 29 4 (.slice B' (n + 1) c') (n + 1) (spAt (insL L i x)) ∧ Below base w w' := by
  obtain ⟨i0, hi0, hz0, hz1, hz2⟩ := info_parts sp_inf
  have hzq : ¬ ((i : Int) = (n : Int)) := by omega
  have hsp := sp_one1 L
  have hgl := World.rowIs.lt hr
  have hvl := hv.lt
  have hkk : (n : Int) + 1 - (i : Int) = ((n + 1 - i : Nat) : Int) := by omega
  have hik : i + (n + 1 - i) = n + 1 := by omega
  obtain ⟨olds, holds⟩ : ∃ olds : List Value, olds = (List.range (i * 4)).map (spAt L) := ⟨_, rfl⟩
  have hol : olds.length = i * 4 := by rw [holds]; simp
  have hold1 : ∀ j, j < i * 4 → olds[j]? = some (spAt L j) := fun j hj => by
    rw [holds, List.getElem?_map, List.getElem?_range hj]
    rfl
  have hold : (Builtin.firstCells i0.size i (.slice (some ⟨g, 0, none⟩) i c)).run Try.prog w.drew = .ok olds.toArray w.drew := by
    rw [hz1]
    exact run_firstCells_some w.drew 4 i ⟨g, 0, none⟩ i c olds hol (fun j v hj => by
      have hlt : j < i * 4 := by
        rcases Nat.lt_or_ge j (i * 4) with h | h
        · exact h
        · rw [List.getElem?_eq_none (by omega)] at hj
          cases hj
      rw [hold1 j hlt] at hj
      injection hj with hj
      rw [Addr.add_lit, Nat.zero_add, ← hj, ← hG j (by omega)]
      exact World.rowIs.cell hr (by omega))
  have hrz : ∀ ty, (Builtin.append_ #[24, 3] ty #[.slice (some ⟨g, 0, none⟩) i c, .int .i64 ((n : Int) + 1 - (i : Int))]).run Try.prog w = .ok (.slice (some ⟨w.heap.size, 0, none⟩) (n + 1) (grownCap w (n + 1) c 29)) _ := fun ty => by
    have h := Lib.run_append_grow_zeros w 24 3 ty 29 i0 _ .i64 .i64 Try.underlying24 Try.underlying3 hi0 hz0 (some ⟨g, 0, none⟩) i c olds hold (n + 1 - i) (by omega) (by omega) (by omega) (by omega) (by rw [hz2]; omega) (by rw [hz2, hik]; exact growslice_fits (by omega) (by omega))
    rw [hik] at h
    rw [hkk]
    exact h
  obtain ⟨K, hK⟩ : ∃ K, K = grownCap w (n + 1) c 29 := ⟨_, rfl⟩
  obtain ⟨ROW, hROW⟩ : ∃ ROW : Array Value, ROW = olds.toArray ++ Builtin.zeroCells (Value.cells (.agg #[.int .i64 0, .int .i64 0, .int .i64 0, .bool false])) (n + 1 - i) ++ Builtin.zeroCells (Value.cells (.agg #[.int .i64 0, .int .i64 0, .int .i64 0, .bool false])) (K - (n + 1)) := ⟨_, rfl⟩
  have hKn : n + 1 ≤ K := by rw [hK]; exact grownCap_ge w _ _ _
  have hKm : K ≤ maxLen := by rw [hK]; exact grownCap_le_maxLen w _ _ _ (by unfold maxLen; omega)
  rw [← hK, ← hROW] at hrz
  have hRs : ROW.size = K * 4 := by
    rw [hROW]
    simp [Builtin.zeroCells, Value.cells, hol]
    omega
  have hRo : ∀ j, j < i * 4 → ROW.getD j undef = spAt L j := fun j hj => by
    rw [hROW, Array.getD_eq_getD_getElem?, Array.append_assoc, Array.getElem?_append_left (by simp; omega), List.getElem?_toArray, hold1 j hj]
    rfl
  obtain ⟨W1, hW1⟩ : ∃ W1, W1 = w.drew.alloc (.cells ROW 29) := ⟨_, rfl⟩
  have row1 : W1.rowIs w.heap.size 29 (K * 4) (fun j => ROW.getD j undef) := by
    rw [hW1, ← hRs]
    exact World.rowIs_alloc w.drew ROW 29 _ fun j hj => by rw [Array.getD_eq_getD_getElem?, Array.getElem?_eq_getElem hj]; rfl
  have hB1 : Below w.heap.size w W1 := by rw [hW1]; exact ((Below.refl _ w).drew).alloc (Nat.le_refl _) _
  rw [← hW1] at hrz
  have hv1 : Whole W1 vb 29 x.cells.toArray := hv.below hB1 hvl
  have hg1 : W1.rowIs g 29 (c * 4) G := World.rowIs.of_block hr (hB1.block g hgl)
  obtain ⟨W2, hcp2, row2, gr2⟩ := copyR (P := Try.prog) (dT := 24) (sT := 24) Try.underlying24 sp_szof (w := W1) (g := w.heap.size) (o := i * 4) (N := K * 4) (t := 29) row1 vb 0 (n + 1 - i) 1 1 (fun j => spAt (fun _ => x) j) (by simp only [Nat.min_def]; split <;> omega)
    (fun j hj => by
      rw [Nat.zero_add, hv1.cell]
      match j, hj with
      | 0, _ => rfl
      | 1, _ => rfl
      | 2, _ => rfl
      | 3, _ => rfl) (fun j _ => sp_one1 _ _) (by omega)
  have hg2 : W2.rowIs g 29 (c * 4) G := World.rowIs.of_block hg1 (gr2.block g (World.rowIs.lt hg1) (fun e => by injection e; omega))
  obtain ⟨W3, hcp3, row3, gr3⟩ := copyR (P := Try.prog) (dT := 24) (sT := 24) Try.underlying24 sp_szof (w := W2.drew) (g := w.heap.size) (o := (i + 1) * 4) (N := K * 4) (t := 29) row2 g (i * 4) (n - i) (n - i) (n - i) (fun j => spAt L (i * 4 + j)) (by simp)
    (fun j hj => by rw [← hG _ (by omega)]; exact World.rowIs.cell hg2 (by omega)) (fun j _ => hsp _) (by omega)
  have own : OwR W3 base 29 4 (.slice (some ⟨w.heap.size, 0, none⟩) (n + 1) K) (n + 1) (spAt (insL L i x)) := .inr ⟨w.heap.size, K, _, rfl, hb, hKn, hKm, row3, insF (n := n)
    (fun j hj => by
      show (if _ then _ else if _ then _ else ROW.getD j undef) = _
      rw [if_neg (by omega), if_neg (by omega), hRo j hj])
    (fun t ht => by
      show (if _ then _ else if _ then spAt (fun _ => x) (i * 4 + t - i * 4) else ROW.getD _ undef) = _
      rw [if_neg (by omega), if_pos (by omega), show i * 4 + t - i * 4 = t by omega])
    (fun j hj hj2 => by
      show (if _ then spAt L (i * 4 + (j - (i + 1) * 4)) else if _ then _ else ROW.getD _ undef) = _
      rw [if_pos (by omega), show i * 4 + (j - (i + 1) * 4) = j - 4 by omega])⟩
  have hB : Below base w W3 := ((hB1.mono hb).grown gr2 (Nat.le_trans hb hB1.size) (fun q hq => by injection hq; omega)).drew.grown gr3 (Nat.le_trans hb (Nat.le_trans hB1.size gr2.size)) (fun q hq => by injection hq; omega)
  have hw1 : IntKind.i64.wrap ((i : Int) + 1) = (i : Int) + 1 := by rw [IntKind.wrap_i64]; omega
  have hwn : IntKind.i64.wrap ((n : Int) + 1) = (n : Int) + 1 := by rw [IntKind.wrap_i64]; omega
  have hwk : IntKind.i64.wrap ((n : Int) + 1 - (i : Int)) = (n : Int) + 1 - (i : Int) := by rw [IntKind.wrap_i64]; omega
  have hb1 : (0 : Int) ≤ (i : Int) + 1 := by omega
  have htn : ((i : Int) + 1).toNat = i + 1 := by omega
  have hb2 : ¬ (K = i + 1) := by omega
  have hb3 : (i : Int) ≤ (n : Int) := by omega
  have hb4 : ¬ (K = i) := by omega
  have hb5 : (c : Int) < (n : Int) + 1 := by omega
  have hb6 : i ≤ n := by omega
  have hb7 : ¬ (c = i) := by omega
  unfold maxLen at hKm
  clear hr hG hv hv1 row1 row2 row3 gr2 gr3 hsp hg1 hg2 hkk hik hold1 hold hol hROW hRs hRo hW1 hK hB1
  go_enter Try.func59, Try.ntmps59
  go_wp2_with (first
    | (at_builtin; refine Lib.wpList_append_run _ rfl _ _ _ _ rfl _ _ rfl rfl _ _ (hrz _) ?_)
    | (at_builtin; refine wpList_copy_runI _ rfl _ _ 24 24 rfl _ _ rfl rfl (hcp2 _ _ _) ?_))
  go_region_law (refine step_copy_runI rfl _ _ 24 24 rfl _ _ (by simp [Act.eval, Act.put]) (by simp [Act.eval, Act.put]) (hcp3 _ _ _) ?_)
  go_wp2_with fail
  go_ret
  exact ⟨_, _, rfl, own, hB⟩
end Go.Proofs.Ytmbmpogdakoloaa
