/- Slices of integers: copied, compared, marked. Conditions: the cells can be read. -/
import Derived.Test.YtanpmbiblibgfaaDoorArgs
import Derived.Deep.OwnRows
namespace Go.Proofs.YtanpmbiblibgfaaDoor
open Go.RowKit

theorem int_inf : (Tryd.prog.info? 3).map (fun i => (i.zero, i.size, i.bytes)) = some (some (.int .i64 0), 1, 8) := by kernel_rfl

/-- n numbers z lie at A, in blocks below B. -/
def RdI (w : World) (B : Nat) (A : Option Addr) (n : Nat) (z : Nat → Int) : Prop :=
  n ≤ 9223372036854775807 ∧ ∀ i, i < n → ∃ b off, A = some ⟨b, off, none⟩ ∧ b < B ∧ w.cell? ⟨b, off + i, none⟩ = some (.int .i64 (z i))
section
variable {w w' : World} {B n : Nat} {A : Option Addr} {z : Nat → Int}
theorem RdI.below (h : RdI w B A n z) (hb : Below B w w') : RdI w' B A n z :=
  ⟨h.1, fun i hi => by
    obtain ⟨b, off, e, hlt, hc⟩ := h.2 i hi
    exact ⟨b, off, e, hlt, (hb.cell (p := ⟨b, off + i, none⟩) hlt).trans hc⟩⟩
theorem RdI.more (h : RdI w B A n z) {B' : Nat} (hB : B ≤ B') : RdI w B' A n z :=
  ⟨h.1, fun i hi => by
    obtain ⟨b, off, e, hlt, hc⟩ := h.2 i hi
    exact ⟨b, off, e, by omega, hc⟩⟩
theorem RdI.row {g : Nat} {t : TypeId} (h : w.rowIs g t n (fun i => .int .i64 (z i))) (hB : g < B) (hn : n ≤ 9223372036854775807) : RdI w B (some ⟨g, 0, none⟩) n z :=
  ⟨hn, fun i hi => ⟨g, 0, rfl, hB, by rw [Nat.zero_add]; exact h.cell hi⟩⟩
theorem RdI.arg {cap : Nat} {zs : List Int} (h : ArgInts .i64 w A n cap zs) : RdI w w.heap.size A n (fun i => zs.getD i 0) := by
  obtain ⟨h1, h2, h3, h4, h5⟩ := h
  exact ⟨by omega, fun i hi => h4 i hi⟩
theorem row_of_own {base size : Nat} {e : TypeId} {g m : Nat} {xs : List Value} (h : w.ownsRow base e size (.slice (some ⟨g, 0, none⟩) m m) m xs) : w.rowIs g e (m * size) (fun j => xs.getD j undef) ∧ base ≤ g := by
  obtain ⟨hl, h⟩ := h
  rcases h with ⟨h, _⟩ | ⟨g', cap, cur, hv, hg, hh, h1, h2, h3, h4⟩
  · cases h
  · injection hv with hv1 _ hv2
    injection hv1 with hv1
    injection hv1 with hv1
    subst hv1 hv2
    refine ⟨⟨cur, hh, h3, fun i hi => ?_⟩, hg⟩
    have e1 : cur.toList = xs := by rw [← h4, List.take_of_length_le (by simp [h3])]
    show cur[i]? = some (xs.getD i undef)
    rw [← Array.getElem?_toList, e1, List.getElem?_eq_getElem (by omega), List.getD_eq_getElem?_getD, List.getElem?_eq_getElem (by omega)]
    rfl
end

theorem own_of_row {w : World} {g n base : Nat} {t : TypeId} {f : Nat → Value} (h : w.rowIs g t n f) (hg : base ≤ g) (hn : n ≤ maxLen) : w.ownsRow base t 1 (.slice (some ⟨g, 0, none⟩) n n) n ((List.range n).map f) := by
  obtain ⟨c, hh, hs, hc⟩ := h
  refine ⟨by simp, .inr ⟨g, n, c, rfl, hg, hh, Nat.le_refl _, hn, by omega, ?_⟩⟩
  refine List.ext_getElem? fun i => ?_
  by_cases hi : i < n
  · rw [List.getElem?_take, if_pos (by omega), Array.getElem?_toList, hc i hi, List.getElem?_map, List.getElem?_range hi]
    rfl
  · rw [List.getElem?_eq_none (by simp; omega), List.getElem?_eq_none (by simp; omega)]
theorem RdI.own {w : World} {base n c : Nat} {A : Option Addr} {xs : List Int} (h : w.ownsRow base 3 1 (.slice A n c) n (xs.map (Value.int .i64))) (hn : n ≤ 9223372036854775807) : RdI w w.heap.size A n (fun i => xs.getD i 0) := by
  refine ⟨hn, fun i hi => ?_⟩
  have hl : xs.length = n := by have := h.1; simpa using this
  have h' := h
  obtain ⟨_, h⟩ := h
  rcases h with ⟨_, h0⟩ | ⟨g, cap, cur, hv, hg, hh, _⟩
  · omega
  · injection hv with hv1 _ hv2
    subst hv1 hv2
    refine ⟨g, 0, rfl, Whole.lt (cs := cur) hh, ?_⟩
    have hc := h'.cellAt i (by omega)
    show _ = some (Value.int .i64 (xs.getD i 0))
    rw [Nat.zero_add, hc, List.getElem?_map, List.getElem?_eq_getElem (by omega), List.getD_eq_getElem?_getD, List.getElem?_eq_getElem (by omega)]
    rfl

/-- The marks from k on. -/
def marks (k : Int) (n : Nat) : List Int := (List.range n).map fun (i : Nat) => k + (i : Int)
theorem marks_len (k : Int) (n : Nat) : (marks k n).length = n := by simp [marks]
theorem marks_at {k : Int} {n i : Nat} (h : i < n) : (marks k n).getD i 0 = k + (i : Int) := by
  rw [marks, List.getD_eq_getElem?_getD, List.getElem?_map, List.getElem?_range h]
  rfl

end Go.Proofs.YtanpmbiblibgfaaDoor
