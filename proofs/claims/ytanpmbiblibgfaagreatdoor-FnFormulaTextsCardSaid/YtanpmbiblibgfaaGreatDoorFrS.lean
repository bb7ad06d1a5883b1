/- Slices of fractions: read, copied, compared. Conditions: the cells can be read. -/
import Derived.Test.YtanpmbiblibgfaaGreatDoorGb
import Derived.Test.YtanpmbiblibgfaaGreatDoorGa
import Derived.Deep.RegionHeld3
import Derived.Deep.Slices
namespace Go.Proofs.YtanpmbiblibgfaaGreatDoor
open Go.RowKit

/-- As a value. -/
abbrev Fr.val (s : Fr) : Value := .agg #[.int .i64 s.1, .int .i64 s.2]
abbrev Fr.cells (s : Fr) : List Value := [.int .i64 s.1, .int .i64 s.2]
def Fr.zero : Fr := ⟨0, 0⟩

/-- n of them, L, lie at A, in blocks below B. -/
def RdFr (w : World) (B : Nat) (A : Option Addr) (n : Nat) (L : Nat → Fr) : Prop :=
  n ≤ 9223372036854775807 ∧ ∀ i, i < n → ∃ b off, A = some ⟨b, off, none⟩ ∧ b < B ∧ w.cell? ⟨b, off + i * 2, none⟩ = some (.int .i64 (L i).1) ∧ w.cell? ⟨b, off + i * 2 + 1, none⟩ = some (.int .i64 (L i).2)
/-- The cells of a row, in their order. -/
def frAt (L : Nat → Fr) (j : Nat) : Value := (L (j / 2)).cells.getD (j % 2) undef
section
variable {w w' : World} {B n : Nat} {A : Option Addr} {L M : Nat → Fr}
theorem frAt0 (L : Nat → Fr) (i : Nat) : frAt L (i * 2) = .int .i64 (L i).1 := by
  rw [frAt, show (i * 2) / 2 = i by omega, show (i * 2) % 2 = 0 by omega]
  rfl
theorem frAt1 (L : Nat → Fr) (i : Nat) : frAt L (i * 2 + 1) = .int .i64 (L i).2 := by
  rw [frAt, show (i * 2 + 1) / 2 = i by omega, show (i * 2 + 1) % 2 = 1 by omega]
  rfl
theorem frAt_lt {k j : Nat} (h : ∀ i, i < k → L i = M i) (hj : j < k * 2) : frAt L j = frAt M j := by
  rw [frAt, frAt, h (j / 2) (by omega)]
theorem RdFr.below (h : RdFr w B A n L) (hb : Below B w w') : RdFr w' B A n L :=
  ⟨h.1, fun i hi => by
    obtain ⟨b, off, e, hlt, h0, h1⟩ := h.2 i hi
    have hk := fun o => hb.cell (p := ⟨b, o, none⟩) hlt
    exact ⟨b, off, e, hlt, by rw [hk]; exact h0, by rw [hk]; exact h1⟩⟩
theorem RdFr.more (h : RdFr w B A n L) {B' : Nat} (hB : B ≤ B') : RdFr w B' A n L :=
  ⟨h.1, fun i hi => by
    obtain ⟨b, off, e, hlt, hc⟩ := h.2 i hi
    exact ⟨b, off, e, by omega, hc⟩⟩
theorem RdFr.row {g N : Nat} {ty : TypeId} (h : w.rowIs g ty N (frAt L)) (hB : g < B) (hN : n * 2 ≤ N) (hn : n ≤ 9223372036854775807) : RdFr w B (some ⟨g, 0, none⟩) n L :=
  ⟨hn, fun i hi => ⟨g, 0, rfl, hB, by rw [Nat.zero_add, h.cell (by omega), frAt0], by rw [Nat.zero_add, h.cell (by omega), frAt1]⟩⟩
end


theorem fr_inf : (Tryz.prog.info? 33).map (fun i => (i.zero, i.size, i.bytes)) = some (some (.agg #[.int .i64 0, .int .i64 0]), 2, 16) := by kernel_rfl




theorem fr_cells_len (s : Fr) : s.cells.length = 2 := rfl
theorem frAt_list (xs : List Fr) {n j : Nat} (hl : xs.length = n) (hj : j < n * 2) : (xs.flatMap Fr.cells).getD j undef = frAt (fun i => xs.getD i Fr.zero) j := by
  have h1 : j / 2 < xs.length := by omega
  have h := flat_get fr_cells_len xs (j / 2) (j % 2) (Nat.mod_lt _ (by omega))
  rw [show j / 2 * 2 + j % 2 = j by omega] at h
  rw [frAt, List.getD_eq_getElem?_getD, h, List.getElem?_eq_getElem h1, List.getD_eq_getElem?_getD, List.getD_eq_getElem?_getD, List.getElem?_eq_getElem h1]
  rfl
theorem OwFr.list {w : World} {base n : Nat} {v : Value} {xs : List Fr} (h : w.ownsRow base 33 2 v n (xs.flatMap Fr.cells)) (hl : xs.length = n) : OwR w base 33 2 v n (frAt fun i => xs.getD i Fr.zero) :=
  (OwR.of_own h).congr fun _ hj => frAt_list xs hl hj
theorem RdFr.own {w : World} {base n c : Nat} {A : Option Addr} {L : Nat → Fr} (h : OwR w base 33 2 (.slice A n c) n (frAt L)) : RdFr w w.heap.size A n L := by
  rcases h with ⟨hv, rfl⟩ | ⟨g, cap, G, hv, hg, hn, hm, hr, hG⟩
  · exact ⟨by omega, fun i hi => by omega⟩
  · injection hv with hv1 _ hv2
    subst hv1 hv2
    unfold maxLen at hm
    refine ⟨by omega, fun i hi => ⟨g, 0, rfl, hr.lt, ?_, ?_⟩⟩
    · rw [Nat.zero_add, hr.cell (by omega), hG _ (by omega), frAt0]
    · rw [Nat.zero_add, hr.cell (by omega), hG _ (by omega), frAt1]
theorem fr_flat (L : Nat → Fr) {n j : Nat} (hj : j < n * 2) : (((List.range n).map L).flatMap Fr.cells)[j]? = some (frAt L j) := by
  have h1 : j / 2 < n := by omega
  have h := flat_get fr_cells_len ((List.range n).map L) (j / 2) (j % 2) (Nat.mod_lt _ (by omega))
  rw [show j / 2 * 2 + j % 2 = j by omega] at h
  have h2 : ((L (j / 2)).cells)[j % 2]? = some (frAt L j) := by
    have hl : j % 2 < ((L (j / 2)).cells).length := Nat.mod_lt _ (by omega)
    rw [frAt, List.getD_eq_getElem?_getD, List.getElem?_eq_getElem hl]
    rfl
  rw [h, List.getElem?_map, List.getElem?_range h1]
  exact h2
theorem fr_flat_len (L : Nat → Fr) (n : Nat) : (((List.range n).map L).flatMap Fr.cells).length = n * 2 := by rw [flat_len fr_cells_len]; simp
theorem RdFr.cellAt {w : World} {B b off n j : Nat} {L : Nat → Fr} (h : RdFr w B (some ⟨b, off, none⟩) n L) (hj : j < n * 2) : w.cell? ⟨b, off + j, none⟩ = some (frAt L j) := by
  obtain ⟨b', off', e, _, h0, h1⟩ := h.2 (j / 2) (by omega)
  injection e with e
  injection e with e1 e2
  subst e1 e2
  have hd : j = j / 2 * 2 + j % 2 := by omega
  have hm : j % 2 < 2 := Nat.mod_lt _ (by omega)
  rw [frAt]
  generalize j % 2 = r at hd hm ⊢
  generalize j / 2 = q at hd h0 h1 ⊢
  subst hd
  match r, hm with
  | 0, _ => simpa using h0
  | 1, _ => simpa [Nat.add_assoc] using h1
/-- The cells of a slice that is read, for an append of it. -/
theorem RdFr.news {w : World} {B n : Nat} {ad : Addr} {L : Nat → Fr} (h : RdFr w B (some ad) n L) : ∀ j u, (((List.range n).map L).flatMap Fr.cells)[j]? = some u → w.cell? (ad.add j) = some u := by
  intro j u hj
  have hlt : j < n * 2 := by
    rcases Nat.lt_or_ge j (n * 2) with hh | hh
    · exact hh
    · rw [List.getElem?_eq_none (by rw [fr_flat_len]; exact hh)] at hj
      cases hj
  rw [fr_flat L hlt] at hj
  injection hj with hj
  subst hj
  obtain ⟨b, off, e, _, _⟩ := h.2 (j / 2) (by omega)
  injection e with e
  subst e
  have ha : Addr.add ⟨b, off, none⟩ j = ⟨b, off + j, none⟩ := by unfold Addr.add; split <;> simp_all
  rw [ha]
  exact h.cellAt hlt
theorem fr_one (L : Nat → Fr) (n : Nat) : ∀ u ∈ ((List.range n).map L).flatMap Fr.cells, u.oneCell' = true := by
  intro u hu
  obtain ⟨s, _, hs⟩ := List.mem_flatMap.1 hu
  simp [Fr.cells] at hs
  rcases hs with rfl | rfl <;> rfl

/-- The marks from k on. -/
def mkFr (k : Int) (i : Nat) : Fr := ⟨k + 2 * (i : Int), k + 2 * (i : Int) + 1⟩

end Go.Proofs.YtanpmbiblibgfaaGreatDoor
