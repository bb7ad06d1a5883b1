/- Nodes of a formula: read, copied, compared. Conditions: the cells can be read. -/
import Derived.Test.YtanpmbiblibgfaaGreatDoorGb
import Derived.Test.YtanpmbiblibgfaaGreatDoorGa
import Derived.Deep.RegionHeld3
import Derived.Deep.Slices
namespace Go.Proofs.YtanpmbiblibgfaaGreatDoor
open Go.RowKit

structure No where
  k : Int
  a : Int
  b : Int
  c : Int
  p : Int
  q : Int
/-- As a value. -/
abbrev No.val (s : No) : Value := .agg #[.int .i64 s.k, .int .i64 s.a, .int .i64 s.b, .int .i64 s.c, .int .i64 s.p, .int .i64 s.q]
abbrev No.cells (s : No) : List Value := [.int .i64 s.k, .int .i64 s.a, .int .i64 s.b, .int .i64 s.c, .int .i64 s.p, .int .i64 s.q]
def No.zero : No := ⟨0, 0, 0, 0, 0, 0⟩

/-- n of them, L, lie at A, in blocks below B. -/
def RdNo (w : World) (B : Nat) (A : Option Addr) (n : Nat) (L : Nat → No) : Prop :=
  n ≤ 9223372036854775807 ∧ ∀ i, i < n → ∃ b off, A = some ⟨b, off, none⟩ ∧ b < B ∧ w.cell? ⟨b, off + i * 6, none⟩ = some (.int .i64 (L i).k) ∧ w.cell? ⟨b, off + i * 6 + 1, none⟩ = some (.int .i64 (L i).a) ∧ w.cell? ⟨b, off + i * 6 + 2, none⟩ = some (.int .i64 (L i).b) ∧ w.cell? ⟨b, off + i * 6 + 3, none⟩ = some (.int .i64 (L i).c) ∧ w.cell? ⟨b, off + i * 6 + 4, none⟩ = some (.int .i64 (L i).p) ∧ w.cell? ⟨b, off + i * 6 + 5, none⟩ = some (.int .i64 (L i).q)
/-- The cells of a row, in their order. -/
def noAt (L : Nat → No) (j : Nat) : Value := (L (j / 6)).cells.getD (j % 6) undef
section
variable {w w' : World} {B n : Nat} {A : Option Addr} {L M : Nat → No}
theorem noAt0 (L : Nat → No) (i : Nat) : noAt L (i * 6) = .int .i64 (L i).k := by
  rw [noAt, show (i * 6) / 6 = i by omega, show (i * 6) % 6 = 0 by omega]
  rfl
theorem noAt1 (L : Nat → No) (i : Nat) : noAt L (i * 6 + 1) = .int .i64 (L i).a := by
  rw [noAt, show (i * 6 + 1) / 6 = i by omega, show (i * 6 + 1) % 6 = 1 by omega]
  rfl
theorem noAt2 (L : Nat → No) (i : Nat) : noAt L (i * 6 + 2) = .int .i64 (L i).b := by
  rw [noAt, show (i * 6 + 2) / 6 = i by omega, show (i * 6 + 2) % 6 = 2 by omega]
  rfl
theorem noAt3 (L : Nat → No) (i : Nat) : noAt L (i * 6 + 3) = .int .i64 (L i).c := by
  rw [noAt, show (i * 6 + 3) / 6 = i by omega, show (i * 6 + 3) % 6 = 3 by omega]
  rfl
theorem noAt4 (L : Nat → No) (i : Nat) : noAt L (i * 6 + 4) = .int .i64 (L i).p := by
  rw [noAt, show (i * 6 + 4) / 6 = i by omega, show (i * 6 + 4) % 6 = 4 by omega]
  rfl
theorem noAt5 (L : Nat → No) (i : Nat) : noAt L (i * 6 + 5) = .int .i64 (L i).q := by
  rw [noAt, show (i * 6 + 5) / 6 = i by omega, show (i * 6 + 5) % 6 = 5 by omega]
  rfl
theorem noAt_lt {k j : Nat} (h : ∀ i, i < k → L i = M i) (hj : j < k * 6) : noAt L j = noAt M j := by
  rw [noAt, noAt, h (j / 6) (by omega)]
theorem RdNo.below (h : RdNo w B A n L) (hb : Below B w w') : RdNo w' B A n L :=
  ⟨h.1, fun i hi => by
    obtain ⟨b, off, e, hlt, h0, h1, h2, h3, h4, h5⟩ := h.2 i hi
    have hk := fun o => hb.cell (p := ⟨b, o, none⟩) hlt
    exact ⟨b, off, e, hlt, by rw [hk]; exact h0, by rw [hk]; exact h1, by rw [hk]; exact h2, by rw [hk]; exact h3, by rw [hk]; exact h4, by rw [hk]; exact h5⟩⟩
theorem RdNo.more (h : RdNo w B A n L) {B' : Nat} (hB : B ≤ B') : RdNo w B' A n L :=
  ⟨h.1, fun i hi => by
    obtain ⟨b, off, e, hlt, hc⟩ := h.2 i hi
    exact ⟨b, off, e, by omega, hc⟩⟩
theorem RdNo.row {g N : Nat} {ty : TypeId} (h : w.rowIs g ty N (noAt L)) (hB : g < B) (hN : n * 6 ≤ N) (hn : n ≤ 9223372036854775807) : RdNo w B (some ⟨g, 0, none⟩) n L :=
  ⟨hn, fun i hi => ⟨g, 0, rfl, hB, by rw [Nat.zero_add, h.cell (by omega), noAt0], by rw [Nat.zero_add, h.cell (by omega), noAt1], by rw [Nat.zero_add, h.cell (by omega), noAt2], by rw [Nat.zero_add, h.cell (by omega), noAt3], by rw [Nat.zero_add, h.cell (by omega), noAt4], by rw [Nat.zero_add, h.cell (by omega), noAt5]⟩⟩
end


theorem no_inf : (Tryz.prog.info? 46).map (fun i => (i.zero, i.size, i.bytes)) = some (some (.agg #[.int .i64 0, .int .i64 0, .int .i64 0, .int .i64 0, .int .i64 0, .int .i64 0]), 6, 48) := by kernel_rfl




theorem no_cells_len (s : No) : s.cells.length = 6 := rfl
theorem noAt_list (xs : List No) {n j : Nat} (hl : xs.length = n) (hj : j < n * 6) : (xs.flatMap No.cells).getD j undef = noAt (fun i => xs.getD i No.zero) j := by
  have h1 : j / 6 < xs.length := by omega
  have h := flat_get no_cells_len xs (j / 6) (j % 6) (Nat.mod_lt _ (by omega))
  rw [show j / 6 * 6 + j % 6 = j by omega] at h
  rw [noAt, List.getD_eq_getElem?_getD, h, List.getElem?_eq_getElem h1, List.getD_eq_getElem?_getD, List.getD_eq_getElem?_getD, List.getElem?_eq_getElem h1]
  rfl
theorem OwNo.list {w : World} {base n : Nat} {v : Value} {xs : List No} (h : w.ownsRow base 46 6 v n (xs.flatMap No.cells)) (hl : xs.length = n) : OwR w base 46 6 v n (noAt fun i => xs.getD i No.zero) :=
  (OwR.of_own h).congr fun _ hj => noAt_list xs hl hj
theorem RdNo.own {w : World} {base n c : Nat} {A : Option Addr} {L : Nat → No} (h : OwR w base 46 6 (.slice A n c) n (noAt L)) : RdNo w w.heap.size A n L := by
  rcases h with ⟨hv, rfl⟩ | ⟨g, cap, G, hv, hg, hn, hm, hr, hG⟩
  · exact ⟨by omega, fun i hi => by omega⟩
  · injection hv with hv1 _ hv2
    subst hv1 hv2
    unfold maxLen at hm
    refine ⟨by omega, fun i hi => ⟨g, 0, rfl, hr.lt, ?_, ?_, ?_, ?_, ?_, ?_⟩⟩
    · rw [Nat.zero_add, hr.cell (by omega), hG _ (by omega), noAt0]
    · rw [Nat.zero_add, hr.cell (by omega), hG _ (by omega), noAt1]
    · rw [Nat.zero_add, hr.cell (by omega), hG _ (by omega), noAt2]
    · rw [Nat.zero_add, hr.cell (by omega), hG _ (by omega), noAt3]
    · rw [Nat.zero_add, hr.cell (by omega), hG _ (by omega), noAt4]
    · rw [Nat.zero_add, hr.cell (by omega), hG _ (by omega), noAt5]
theorem no_flat (L : Nat → No) {n j : Nat} (hj : j < n * 6) : (((List.range n).map L).flatMap No.cells)[j]? = some (noAt L j) := by
  have h1 : j / 6 < n := by omega
  have h := flat_get no_cells_len ((List.range n).map L) (j / 6) (j % 6) (Nat.mod_lt _ (by omega))
  rw [show j / 6 * 6 + j % 6 = j by omega] at h
  have h2 : ((L (j / 6)).cells)[j % 6]? = some (noAt L j) := by
    have hl : j % 6 < ((L (j / 6)).cells).length := Nat.mod_lt _ (by omega)
    rw [noAt, List.getD_eq_getElem?_getD, List.getElem?_eq_getElem hl]
    rfl
  rw [h, List.getElem?_map, List.getElem?_range h1]
  exact h2
theorem no_flat_len (L : Nat → No) (n : Nat) : (((List.range n).map L).flatMap No.cells).length = n * 6 := by rw [flat_len no_cells_len]; simp
theorem RdNo.cellAt {w : World} {B b off n j : Nat} {L : Nat → No} (h : RdNo w B (some ⟨b, off, none⟩) n L) (hj : j < n * 6) : w.cell? ⟨b, off + j, none⟩ = some (noAt L j) := by
  obtain ⟨b', off', e, _, h0, h1, h2, h3, h4, h5⟩ := h.2 (j / 6) (by omega)
  injection e with e
  injection e with e1 e2
  subst e1 e2
  have hd : j = j / 6 * 6 + j % 6 := by omega
  have hm : j % 6 < 6 := Nat.mod_lt _ (by omega)
  rw [noAt]
  generalize j % 6 = r at hd hm ⊢
  generalize j / 6 = q at hd h0 h1 h2 h3 h4 h5 ⊢
  subst hd
  match r, hm with
  | 0, _ => simpa using h0
  | 1, _ => simpa [Nat.add_assoc] using h1
  | 2, _ => simpa [Nat.add_assoc] using h2
  | 3, _ => simpa [Nat.add_assoc] using h3
  | 4, _ => simpa [Nat.add_assoc] using h4
  | 5, _ => simpa [Nat.add_assoc] using h5
/-- The cells of a slice that is read, for an append of it. -/
theorem RdNo.news {w : World} {B n : Nat} {ad : Addr} {L : Nat → No} (h : RdNo w B (some ad) n L) : ∀ j u, (((List.range n).map L).flatMap No.cells)[j]? = some u → w.cell? (ad.add j) = some u := by
  intro j u hj
  have hlt : j < n * 6 := by
    rcases Nat.lt_or_ge j (n * 6) with hh | hh
    · exact hh
    · rw [List.getElem?_eq_none (by rw [no_flat_len]; exact hh)] at hj
      cases hj
  rw [no_flat L hlt] at hj
  injection hj with hj
  subst hj
  obtain ⟨b, off, e, _, _⟩ := h.2 (j / 6) (by omega)
  injection e with e
  subst e
  have ha : Addr.add ⟨b, off, none⟩ j = ⟨b, off + j, none⟩ := by unfold Addr.add; split <;> simp_all
  rw [ha]
  exact h.cellAt hlt
theorem no_one (L : Nat → No) (n : Nat) : ∀ u ∈ ((List.range n).map L).flatMap No.cells, u.oneCell' = true := by
  intro u hu
  obtain ⟨s, _, hs⟩ := List.mem_flatMap.1 hu
  simp [No.cells] at hs
  rcases hs with rfl | rfl | rfl | rfl | rfl | rfl <;> rfl

/-- The marks from k on. -/
def mkNo (k : Int) (i : Nat) : No := ⟨k + 6 * (i : Int), k + 6 * (i : Int) + 1, k + 6 * (i : Int) + 2, k + 6 * (i : Int) + 3, k + 6 * (i : Int) + 4, k + 6 * (i : Int) + 5⟩

end Go.Proofs.YtanpmbiblibgfaaGreatDoor
