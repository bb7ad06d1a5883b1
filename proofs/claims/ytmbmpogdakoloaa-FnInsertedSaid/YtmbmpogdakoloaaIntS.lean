/- Slices of integers: copied, compared, marked. Conditions: the cells can be read. -/
import Derived.Test.YtmbmpogdakoloaaArgs
import Derived.Deep.OwnRows
namespace Go.Proofs.Ytmbmpogdakoloaa
open Go.RowKit

theorem int_inf : (Try.prog.info? 3).map (fun i => (i.zero, i.size, i.bytes)) = some (some (.int .i64 0), 1, 8) := by kernel_rfl

/-- n numbers z lie at A, in blocks below B. -/
def RdI (w : World) (B : Nat) (A : Option Addr) (n : Nat) (z : Nat → Int) : Prop :=
  n ≤ 9223372036854775807 ∧ ∀ i, i < n → ∃ b off, A = some ⟨b, off, none⟩ ∧ b < B ∧ w.cell? ⟨b, off + i, none⟩ = some (.int .i64 (z i))
section
variable {w w' : World} {B n : Nat} {A : Option Addr} {z : Nat → Int}
theorem RdI.below (h : RdI w B A n z) (hb : Below B w w') : RdI w' B A n z :=
  ⟨h.1, fun i hi => by
    obtain ⟨b, off, e, hlt, hc⟩ := h.2 i hi
    exact ⟨b, off, e, hlt, (hb.cell (p := ⟨b, off + i, none⟩) hlt).trans hc⟩⟩
theorem RdI.more (h : RdI w B A n z) {B' : Nat} (hB : B ≤ B') : RdI w B' A n z :=
  ⟨h.1, fun i hi => by
    obtain ⟨b, off, e, hlt, hc⟩ := h.2 i hi
    exact ⟨b, off, e, by omega, hc⟩⟩
theorem RdI.row {g : Nat} {t : TypeId} (h : w.rowIs g t n (fun i => .int .i64 (z i))) (hB : g < B) (hn : n ≤ 9223372036854775807) : RdI w B (some ⟨g, 0, none⟩) n z :=
  ⟨hn, fun i hi => ⟨g, 0, rfl, hB, by rw [Nat.zero_add]; exact h.cell hi⟩⟩
theorem RdI.arg {cap : Nat} {zs : List Int} (h : ArgInts .i64 w A n cap zs) : RdI w w.heap.size A n (fun i => zs.getD i 0) := by
  obtain ⟨h1, h2, h3, h4, h5⟩ := h
  exact ⟨by omega, fun i hi => h4 i hi⟩
theorem row_of_own {base size : Nat} {e : TypeId} {g m : Nat} {xs : List Value} (h : w.ownsRow base e size (.slice (some ⟨g, 0, none⟩) m m) m xs) : w.rowIs g e (m * size) (fun j => xs.getD j undef) ∧ base ≤ g := by
  obtain ⟨hl, h⟩ := h
  rcases h with ⟨h, _⟩ | ⟨g', cap, cur, hv, hg, hh, h1, h2, h3, h4⟩
  · cases h
  · injection hv with hv1 _ hv2
    injection hv1 with hv1
    injection hv1 with hv1
    subst hv1 hv2
    refine ⟨⟨cur, hh, h3, fun i hi => ?_⟩, hg⟩
    have e1 : cur.toList = xs := by rw [← h4, List.take_of_length_le (by simp [h3])]
    show cur[i]? = some (xs.getD i undef)
    rw [← Array.getElem?_toList, e1, List.getElem?_eq_getElem (by omega), List.getD_eq_getElem?_getD, List.getElem?_eq_getElem (by omega)]
    rfl
end

theorem own_of_row {w : World} {g n base : Nat} {t : TypeId} {f : Nat → Value} (h : w.rowIs g t n f) (hg : base ≤ g) (hn : n ≤ maxLen) : w.ownsRow base t 1 (.slice (some ⟨g, 0, none⟩) n n) n ((List.range n).map f) := by
  obtain ⟨c, hh, hs, hc⟩ := h
  refine ⟨by simp, .inr ⟨g, n, c, rfl, hg, hh, Nat.le_refl _, hn, by omega, ?_⟩⟩
  refine List.ext_getElem? fun i => ?_
  by_cases hi : i < n
  · rw [List.getElem?_take, if_pos (by omega), Array.getElem?_toList, hc i hi, List.getElem?_map, List.getElem?_range hi]
    rfl
  · rw [List.getElem?_eq_none (by simp; omega), List.getElem?_eq_none (by simp; omega)]
theorem RdI.own {w : World} {base n c : Nat} {A : Option Addr} {xs : List Int} (h : w.ownsRow base 3 1 (.slice A n c) n (xs.map (Value.int .i64))) (hn : n ≤ 9223372036854775807) : RdI w w.heap.size A n (fun i => xs.getD i 0) := by
  refine ⟨hn, fun i hi => ?_⟩
  have hl : xs.length = n := by have := h.1; simpa using this
  have h' := h
  obtain ⟨_, h⟩ := h
  rcases h with ⟨_, h0⟩ | ⟨g, cap, cur, hv, hg, hh, _⟩
  · omega
  · injection hv with hv1 _ hv2
    subst hv1 hv2
    refine ⟨g, 0, rfl, Whole.lt (cs := cur) hh, ?_⟩
    have hc := h'.cellAt i (by omega)
    show _ = some (Value.int .i64 (xs.getD i 0))
    rw [Nat.zero_add, hc, List.getElem?_map, List.getElem?_eq_getElem (by omega), List.getD_eq_getElem?_getD, List.getElem?_eq_getElem (by omega)]
    rfl

set_option maxHeartbeats 800000 in
theorem toInts (w : World) (A : Option Addr) (n c : Nat) (z : Nat → Int) (h : RdI w w.heap.size A n z) (hn : n ≤ 1048576) :
    Calls Try.prog 49 #[.slice A n c] w fun e w' => ∃ g : Nat, e = .returned (.slice (some ⟨g, 0, none⟩) n n) ∧ w'.rowIs g 3 n (fun i => .int .i64 (z i)) ∧ w.heap.size ≤ g ∧ Below w.heap.size w w' := by
  obtain ⟨i0, hi, hz0, hz1, hz2⟩ := info_parts int_inf
  go_enter Try.func49, Try.ntmps49
  go_wp2_with (refine wpList_make_full _ rfl (.tmp 6) (.tmp 6) 38 rfl w.heap.size 3 i0 (.int .i64 0) 1 Try.underlying38 hi hz0 hz1 .i64 .i64 (n : Int) (n : Int) n rfl rfl rfl rfl ?c1 ?c2 (Nat.le_refl _) ?_)
  case c1 => rw [hz2]; omega
  case c2 => unfold maxLen; omega
  intro w1 hown hg1
  obtain ⟨hrow, hg⟩ := row_of_own hown
  have hb1 : Below w.heap.size w w1 := (Below.refl _ _).grown hg1 (Nat.le_refl _) (by simp)
  go_wp2_with fail
  go_loopw [4] (fun i wr => ∃ k : Nat, k ≤ n ∧ i = .int .i64 k ∧ wr.rowIs w.heap.size 3 n (fun j => if j < k then .int .i64 (z j) else (madeCells #[Value.int .i64 0] n).toList.getD j undef) ∧ Below w.heap.size w wr) (fun i _ => n - (intOf i).toNat)
  case atStart => exact ⟨0, Nat.zero_le _, rfl, by simpa using hrow, hb1⟩
  case round =>
    obtain ⟨k, hk, rfl, hr, hbr⟩ := hrel
    by_cases hlt : k < n
    · obtain ⟨b, off, rfl, hbB, hcell⟩ := h.2 k hlt
      have c1 : wr.cell? ⟨b, off + k, none⟩ = some (.int .i64 (z k)) := (hbr.cell (p := ⟨b, off + k, none⟩) hbB).trans hcell
      have c2 := hr.cell hlt
      have c3 := hr.frozen k
      go_wp2_with fail
      go_roundw
      case rel =>
        refine ⟨k + 1, by omega, by go_num, ?_, hbr.setCell (Nat.le_refl _) _⟩
        refine (hr.set k _).congr fun j hj => ?_
        by_cases e : j = k
        · subst e; simp
        · by_cases e2 : j < k
          · simp [e, e2, show j < k + 1 by omega]
          · simp [e, e2, show ¬ j < k + 1 by omega]
      case measure => simp [intOf]; omega
    · go_wp2_with fail
      go_ret
      exact ⟨w.heap.size, rfl, hr.congr fun j hj => by simp [show j < k by omega], Nat.le_refl _, hbr⟩

set_option maxHeartbeats 800000 in
theorem eqInts (w : World) (A A' : Option Addr) (n n' c c' : Nat) (z z' : Nat → Int) (h : RdI w w.heap.size A n z) (h' : RdI w w.heap.size A' n' z') (hs : n = n' ∧ ∀ i, i < n → z i = z' i) :
    Calls Try.prog 51 #[.slice A n c, .slice A' n' c'] w fun e w' => e = .returned (.bool true) ∧ Below w.heap.size w w' := by
  obtain ⟨rfl, hs⟩ := hs
  have hn := h.1
  have HS := Lib.hid hs
  clear hs
  go_enter Try.func51, Try.ntmps51
  go_wp2_with fail
  go_loopw [5] (fun i wr => ∃ (k m : Nat), k ≤ n ∧ i = .int .i64 k ∧ wr = w.drewN m) (fun i _ => n - (intOf i).toNat)
  case atStart => exact ⟨0, 0, Nat.zero_le _, rfl, rfl⟩
  case round =>
    obtain ⟨k, m, hk, rfl, rfl⟩ := hrel
    by_cases hlt : k < n
    · have hlt' : (k : Int) < n := by omega
      obtain ⟨b, off, rfl, hbB, hcell⟩ := h.2 k hlt
      obtain ⟨b', off', rfl, hbB', hcell'⟩ := h'.2 k hlt
      have hz := HS.out k hlt
      rw [← hz] at hcell'
      clear hz
      go_wp2_with fail
      go_quiet (fail)
      go_wp2_with fail
      go_roundw
      case rel => exact ⟨k + 1, _, by omega, by go_num, rfl⟩
      case measure => simp [intOf]; omega
    · go_wp2_with fail
      go_ret
      exact ⟨rfl, below_drewN (Below.refl _ _) _⟩

/-- The marks from k on. -/
def marks (k : Int) (n : Nat) : List Int := (List.range n).map fun (i : Nat) => k + (i : Int)
theorem marks_len (k : Int) (n : Nat) : (marks k n).length = n := by simp [marks]
theorem marks_at {k : Int} {n i : Nat} (h : i < n) : (marks k n).getD i 0 = k + (i : Int) := by
  rw [marks, List.getD_eq_getElem?_getD, List.getElem?_map, List.getElem?_range h]
  rfl

end Go.Proofs.Ytmbmpogdakoloaa
