/- Slices of integers: copied, compared, marked. Conditions: the cells can be read. -/
import Derived.Test.YtjnckhdmaebfdaaArgs
import Derived.Deep.OwnRows
namespace Go.Proofs.Ytjnckhdmaebfdaa
open Go.RowKit

theorem int_inf : (Try.prog.info? 3).map (fun i => (i.zero, i.size, i.bytes)) = some (some (.int .i64 0), 1, 8) := by kernel_rfl

/-- n numbers z lie at A, in blocks below B. -/
def RdI (w : World) (B : Nat) (A : Option Addr) (n : Nat) (z : Nat → Int) : Prop :=
  n ≤ 9223372036854775807 ∧ ∀ i, i < n → ∃ b off, A = some ⟨b, off, none⟩ ∧ b < B ∧ w.cell? ⟨b, off + i, none⟩ = some (.int .i64 (z i))
section
variable {w w' : World} {B n : Nat} {A : Option Addr} {z : Nat → Int}
theorem RdI.below (h : RdI w B A n z) (hb : Below B w w') : RdI w' B A n z :=
  ⟨h.1, fun i hi => by
    obtain ⟨b, off, e, hlt, hc⟩ := h.2 i hi
    exact ⟨b, off, e, hlt, (hb.cell (p := ⟨b, off + i, none⟩) hlt).trans hc⟩⟩
theorem RdI.more (h : RdI w B A n z) {B' : Nat} (hB : B ≤ B') : RdI w B' A n z :=
  ⟨h.1, fun i hi => by
    obtain ⟨b, off, e, hlt, hc⟩ := h.2 i hi
    exact ⟨b, off, e, by omega, hc⟩⟩
theorem RdI.row {g : Nat} {t : TypeId} (h : w.rowIs g t n (fun i => .int .i64 (z i))) (hB : g < B) (hn : n ≤ 9223372036854775807) : RdI w B (some ⟨g, 0, none⟩) n z :=
  ⟨hn, fun i hi => ⟨g, 0, rfl, hB, by rw [Nat.zero_add]; exact h.cell hi⟩⟩
theorem RdI.arg {cap : Nat} {zs : List Int} (h : ArgInts .i64 w A n cap zs) : RdI w w.heap.size A n (fun i => zs.getD i 0) := by
  obtain ⟨h1, h2, h3, h4, h5⟩ := h
  exact ⟨by omega, fun i hi => h4 i hi⟩
theorem row_of_own {base size : Nat} {e : TypeId} {g m : Nat} {xs : List Value} (h : w.ownsRow base e size (.slice (some ⟨g, 0, none⟩) m m) m xs) : w.rowIs g e (m * size) (fun j => xs.getD j undef) ∧ base ≤ g := by
  obtain ⟨hl, h⟩ := h
  rcases h with ⟨h, _⟩ | ⟨g', cap, cur, hv, hg, hh, h1, h2, h3, h4⟩
  · cases h
  · injection hv with hv1 _ hv2
    injection hv1 with hv1
    injection hv1 with hv1
    subst hv1 hv2
    refine ⟨⟨cur, hh, h3, fun i hi => ?_⟩, hg⟩
    have e1 : cur.toList = xs := by rw [← h4, List.take_of_length_le (by simp [h3])]
    show cur[i]? = some (xs.getD i undef)
    rw [← Array.getElem?_toList, e1, List.getElem?_eq_getElem (by omega), List.getD_eq_getElem?_getD, List.getElem?_eq_getElem (by omega)]
    rfl
end

theorem own_of_row {w : World} {g n base : Nat} {t : TypeId} {f : Nat → Value} (h : w.rowIs g t n f) (hg : base ≤ g) (hn : n ≤ maxLen) : w.ownsRow base t 1 (.slice (some ⟨g, 0, none⟩) n n) n ((List.range n).map f) := by
  obtain ⟨c, hh, hs, hc⟩ := h
  refine ⟨by simp, .inr ⟨g, n, c, rfl, hg, hh, Nat.le_refl _, hn, by omega, ?_⟩⟩
  refine List.ext_getElem? fun i => ?_
  by_cases hi : i < n
  · rw [List.getElem?_take, if_pos (by omega), Array.getElem?_toList, hc i hi, List.getElem?_map, List.getElem?_range hi]
    rfl
  · rw [List.getElem?_eq_none (by simp; omega), List.getElem?_eq_none (by simp; omega)]
theorem RdI.own {w : World} {base n c : Nat} {A : Option Addr} {xs : List Int} (h : w.ownsRow base 3 1 (.slice A n c) n (xs.map (Value.int .i64))) (hn : n ≤ 9223372036854775807) : RdI w w.heap.size A n (fun i => xs.getD i 0) := by
  refine ⟨hn, fun i hi => ?_⟩
  have hl : xs.length = n := by have := h.1; simpa using this
  have h' := h
  obtain ⟨_, h⟩ := h
  rcases h with ⟨_, h0⟩ | ⟨g, cap, cur, hv, hg, hh, _⟩
  · omega
  · injection hv with hv1 _ hv2
    subst hv1 hv2
    refine ⟨g, 0, rfl, Whole.lt (cs := cur) hh, ?_⟩
    have hc := h'.cellAt i (by omega)
    show _ = some (Value.int .i64 (xs.getD i 0))
    rw [Nat.zero_add, hc, List.getElem?_map, List.getElem?_eq_getElem (by omega), List.getD_eq_getElem?_getD, List.getElem?_eq_getElem (by omega)]
    rfl

set_option maxHeartbeats 800000 in
theorem eqInts (w : World) (A A' : Option Addr) (n n' c c' : Nat) (z z' : Nat → Int) (h : RdI w w.heap.size A n z) (h' : RdI w w.heap.size A' n' z') (hs : n = n' ∧ ∀ i, i < n → z i = z' i) :
    Calls Try.prog 34 #[.slice A n c, .slice A' n' c'] w fun e w' => e = .returned (.bool true) ∧ Below w.heap.size w w' := by
  obtain ⟨rfl, hs⟩ := hs
  have hn := h.1
  have HS := Lib.hid hs
  clear hs
  go_enter Try.func34, Try.ntmps34
  go_wp2_with fail
  go_loopw [5] (fun i wr => ∃ (k m : Nat), k ≤ n ∧ i = .int .i64 k ∧ wr = w.drewN m) (fun i _ => n - (intOf i).toNat)
  case atStart => exact ⟨0, 0, Nat.zero_le _, rfl, rfl⟩
  case round =>
    obtain ⟨k, m, hk, rfl, rfl⟩ := hrel
    by_cases hlt : k < n
    · have hlt' : (k : Int) < n := by omega
      obtain ⟨b, off, rfl, hbB, hcell⟩ := h.2 k hlt
      obtain ⟨b', off', rfl, hbB', hcell'⟩ := h'.2 k hlt
      have hz := HS.out k hlt
      rw [← hz] at hcell'
      clear hz
      go_wp2_with fail
      go_quiet (fail)
      go_wp2_with fail
      go_roundw
      case rel => exact ⟨k + 1, _, by omega, by go_num, rfl⟩
      case measure => simp [intOf]; omega
    · go_wp2_with fail
      go_ret
      exact ⟨rfl, below_drewN (Below.refl _ _) _⟩

/-- The marks from k on. -/
def marks (k : Int) (n : Nat) : List Int := (List.range n).map fun (i : Nat) => k + (i : Int)
theorem marks_len (k : Int) (n : Nat) : (marks k n).length = n := by simp [marks]
theorem marks_at {k : Int} {n i : Nat} (h : i < n) : (marks k n).getD i 0 = k + (i : Int) := by
  rw [marks, List.getD_eq_getElem?_getD, List.getElem?_map, List.getElem?_range h]
  rfl

set_option maxHeartbeats 800000 in
theorem markInts (w : World) (base : Nat) (A : Option Addr) (n c : Nat) (xs : List Int) (k : Int) (h : w.ownsRow base 3 1 (.slice A n c) n (xs.map (Value.int .i64))) (hn : n ≤ 1099511627776) (hk : 0 ≤ k) (hk' : k ≤ 1099511627776) :
    Calls Try.prog 36 #[.slice A n c, .int .i64 k] w fun e w' => e = .returned (.int .i64 (k + n)) ∧ w'.ownsRow base 3 1 (.slice A n c) n ((marks k n).map (Value.int .i64)) ∧ w.grownBy w' (Value.slice A n c).ownBlock := by
  have hl : xs.length = n := by have := h.1; simpa using this
  have HL := Lib.hid hl
  clear hl
  go_enter Try.func36, Try.ntmps36
  go_wp2_with fail
  go_loopw [1, 5] (fun q i wr => ∃ j : Nat, j ≤ n ∧ i = .int .i64 j ∧ q = .int .i64 (k + j) ∧ wr.ownsRow base 3 1 (.slice A n c) n ((marks k j ++ xs.drop j).map (Value.int .i64)) ∧ w.grownBy wr (Value.slice A n c).ownBlock) (fun _ i _ => n - (intOf i).toNat)
  case atStart => exact ⟨0, Nat.zero_le _, rfl, by simp, by simpa [marks] using h, grown_refl _ _⟩
  case round =>
    obtain ⟨j, hj, rfl, rfl, ho, hg⟩ := hrel
    by_cases hlt : j < n
    · have ho' := ho
      rcases ho.2 with ⟨_, h0⟩ | ⟨g, cap, cur, hv, hgb, hh, _⟩
      · omega
      · injection hv with hv1 _ hv2
        subst hv1 hv2
        have c1 := ho'.cellAt j (by omega)
        have f1 := ho'.frozenAt j
        obtain ⟨u, hu⟩ : ∃ u, ((marks k j ++ xs.drop j).map (Value.int .i64))[j]? = some u := ⟨_, List.getElem?_eq_getElem (by simp [marks]; rw [HL.out]; omega)⟩
        rw [hu] at c1
        clear hu
        have hset : ((marks k j ++ xs.drop j).map (Value.int .i64)).set j (.int .i64 (k + j)) = (marks k (j + 1) ++ xs.drop (j + 1)).map (Value.int .i64) := by
          rw [← List.map_set, List.set_append_right _ _ (by rw [marks_len]; exact Nat.le_refl _), marks_len, Nat.sub_self, List.drop_eq_getElem_cons (by rw [HL.out]; exact hlt), List.set_cons_zero, marks, marks, List.range_succ, List.map_append]
          simp
        have ho2 := ho'.stored j (.int .i64 (k + j))
        rw [hset] at ho2
        have HO := Lib.hid ho2
        clear hset ho2 ho ho' hh
        go_wp2_with fail
        go_roundw
        case rel => exact ⟨j + 1, by omega, by go_num, by go_num, HO.out.1, grown_trans hg HO.out.2⟩
        case measure => simp [intOf]; omega
    · obtain rfl : j = n := by omega
      have e : xs.drop j = [] := List.drop_eq_nil_of_le (by rw [HL.out]; exact Nat.le_refl _)
      rw [e, List.append_nil] at ho
      clear e
      go_wp2_with fail
      go_ret
      exact ⟨rfl, ho, hg⟩
set_option maxHeartbeats 800000 in
theorem heldInts (w : World) (base : Nat) (A : Option Addr) (n c : Nat) (k : Int) (h : w.ownsRow base 3 1 (.slice A n c) n ((marks k n).map (Value.int .i64))) (hn : n ≤ 1099511627776) (hk : 0 ≤ k) (hk' : k ≤ 1099511627776) :
    Calls Try.prog 37 #[.slice A n c, .int .i64 k] w fun e w' => e = .returned (.int .i64 (k + n)) ∧ w = w' := by
  have hr := RdI.own h (by omega)
  clear h
  go_enter Try.func37, Try.ntmps37
  go_wp2_with fail
  go_loop [1, 5] (fun q i => ∃ j : Nat, j ≤ n ∧ i = .int .i64 j ∧ q = .int .i64 (k + j)) (fun _ i => n - (intOf i).toNat)
  case atStart => exact ⟨0, Nat.zero_le _, rfl, by simp⟩
  case round =>
    obtain ⟨j, hj, rfl, rfl⟩ := hrel
    by_cases hlt : j < n
    · obtain ⟨b, off, rfl, hbB, hcell⟩ := hr.2 j hlt
      have e1 : (marks k n).getD j 0 = k + (j : Int) := marks_at hlt
      have hc2 : w.cell? ⟨b, off + j, none⟩ = some (.int .i64 (k + (j : Int))) := by rw [← e1]; exact hcell
      clear e1 hcell
      go_wp2_with fail
      go_round
      case rel => exact ⟨j + 1, by omega, by go_num, by go_num⟩
      case measure => simp [intOf]; omega
    · obtain rfl : j = n := by omega
      go_wp2_with fail
      go_ret
      exact ⟨rfl, rfl⟩
end Go.Proofs.Ytjnckhdmaebfdaa
