/- Nodes of a formula: read, copied, compared. Conditions: the cells can be read. -/
import Derived.Test.YtanpmbiblibgfaaDoorSpN
import Derived.Test.YtanpmbiblibgfaaDoorOwR
import Derived.Test.YtanpmbiblibgfaaDoorEqF
import Derived.Deep.RegionHeld3
import Derived.Deep.Slices
namespace Go.Proofs.YtanpmbiblibgfaaDoor
open Go.RowKit

structure No where
  k : Int
  a : Int
  b : Int
  c : Int
  p : Int
  q : Int
/-- As a value. -/
abbrev No.val (s : No) : Value := .agg #[.int .i64 s.k, .int .i64 s.a, .int .i64 s.b, .int .i64 s.c, .int .i64 s.p, .int .i64 s.q]
abbrev No.cells (s : No) : List Value := [.int .i64 s.k, .int .i64 s.a, .int .i64 s.b, .int .i64 s.c, .int .i64 s.p, .int .i64 s.q]
def No.zero : No := ⟨0, 0, 0, 0, 0, 0⟩

/-- n of them, L, lie at A, in blocks below B. -/
def RdNo (w : World) (B : Nat) (A : Option Addr) (n : Nat) (L : Nat → No) : Prop :=
  n ≤ 9223372036854775807 ∧ ∀ i, i < n → ∃ b off, A = some ⟨b, off, none⟩ ∧ b < B ∧ w.cell? ⟨b, off + i * 6, none⟩ = some (.int .i64 (L i).k) ∧ w.cell? ⟨b, off + i * 6 + 1, none⟩ = some (.int .i64 (L i).a) ∧ w.cell? ⟨b, off + i * 6 + 2, none⟩ = some (.int .i64 (L i).b) ∧ w.cell? ⟨b, off + i * 6 + 3, none⟩ = some (.int .i64 (L i).c) ∧ w.cell? ⟨b, off + i * 6 + 4, none⟩ = some (.int .i64 (L i).p) ∧ w.cell? ⟨b, off + i * 6 + 5, none⟩ = some (.int .i64 (L i).q)
/-- The cells of a row, in their order. -/
def noAt (L : Nat → No) (j : Nat) : Value := (L (j / 6)).cells.getD (j % 6) undef
section
variable {w w' : World} {B n : Nat} {A : Option Addr} {L M : Nat → No}
theorem noAt0 (L : Nat → No) (i : Nat) : noAt L (i * 6) = .int .i64 (L i).k := by
  rw [noAt, show (i * 6) / 6 = i by omega, show (i * 6) % 6 = 0 by omega]
  rfl
theorem noAt1 (L : Nat → No) (i : Nat) : noAt L (i * 6 + 1) = .int .i64 (L i).a := by
  rw [noAt, show (i * 6 + 1) / 6 = i by omega, show (i * 6 + 1) % 6 = 1 by omega]
  rfl
theorem noAt2 (L : Nat → No) (i : Nat) : noAt L (i * 6 + 2) = .int .i64 (L i).b := by
  rw [noAt, show (i * 6 + 2) / 6 = i by omega, show (i * 6 + 2) % 6 = 2 by omega]
  rfl
theorem noAt3 (L : Nat → No) (i : Nat) : noAt L (i * 6 + 3) = .int .i64 (L i).c := by
  rw [noAt, show (i * 6 + 3) / 6 = i by omega, show (i * 6 + 3) % 6 = 3 by omega]
  rfl
theorem noAt4 (L : Nat → No) (i : Nat) : noAt L (i * 6 + 4) = .int .i64 (L i).p := by
  rw [noAt, show (i * 6 + 4) / 6 = i by omega, show (i * 6 + 4) % 6 = 4 by omega]
  rfl
theorem noAt5 (L : Nat → No) (i : Nat) : noAt L (i * 6 + 5) = .int .i64 (L i).q := by
  rw [noAt, show (i * 6 + 5) / 6 = i by omega, show (i * 6 + 5) % 6 = 5 by omega]
  rfl
theorem noAt_lt {k j : Nat} (h : ∀ i, i < k → L i = M i) (hj : j < k * 6) : noAt L j = noAt M j := by
  rw [noAt, noAt, h (j / 6) (by omega)]
theorem RdNo.below (h : RdNo w B A n L) (hb : Below B w w') : RdNo w' B A n L :=
  ⟨h.1, fun i hi => by
    obtain ⟨b, off, e, hlt, h0, h1, h2, h3, h4, h5⟩ := h.2 i hi
    have hk := fun o => hb.cell (p := ⟨b, o, none⟩) hlt
    exact ⟨b, off, e, hlt, by rw [hk]; exact h0, by rw [hk]; exact h1, by rw [hk]; exact h2, by rw [hk]; exact h3, by rw [hk]; exact h4, by rw [hk]; exact h5⟩⟩
theorem RdNo.more (h : RdNo w B A n L) {B' : Nat} (hB : B ≤ B') : RdNo w B' A n L :=
  ⟨h.1, fun i hi => by
    obtain ⟨b, off, e, hlt, hc⟩ := h.2 i hi
    exact ⟨b, off, e, by omega, hc⟩⟩
theorem RdNo.row {g N : Nat} {ty : TypeId} (h : w.rowIs g ty N (noAt L)) (hB : g < B) (hN : n * 6 ≤ N) (hn : n ≤ 9223372036854775807) : RdNo w B (some ⟨g, 0, none⟩) n L :=
  ⟨hn, fun i hi => ⟨g, 0, rfl, hB, by rw [Nat.zero_add, h.cell (by omega), noAt0], by rw [Nat.zero_add, h.cell (by omega), noAt1], by rw [Nat.zero_add, h.cell (by omega), noAt2], by rw [Nat.zero_add, h.cell (by omega), noAt3], by rw [Nat.zero_add, h.cell (by omega), noAt4], by rw [Nat.zero_add, h.cell (by omega), noAt5]⟩⟩
end

set_option maxRecDepth 4000 in
set_option maxHeartbeats 800000 in
theorem eqNode_any (s : No) (w : World) :
    Calls Tryd.prog 14 #[s.val, s.val] w fun e w' => e = .returned (.bool true) ∧ Below w.heap.size w w' := by
  go_enter Tryd.func14, Tryd.ntmps14
  go_wp2_with fail
  refine (eqFrac_same s.p s.q _).mono ?_
  rintro e w1 ⟨rfl, hb1⟩
  have hB1 : Below w.heap.size w w1 := by refine Below.trans ?_ (hb1.mono (by simp; try omega)); (repeat (first | (with_reducible exact Below.refl _ _) | (with_reducible assumption) | (with_reducible refine Below.drew ?_) | (with_reducible refine below_drewN ?_ _) | ((with_reducible refine Below.setCell ?_ ?_ _); rotate_left; focus (first | (simp; done) | omega | (simp; omega))) | ((with_reducible refine Below.alloc ?_ ?_ _); rotate_left; focus (first | exact Nat.le_refl _ | omega | (simp; done) | (simp; omega)))))
  clear hb1
  go_wp2_with fail
  go_ret
  exact ⟨rfl, hB1⟩

theorem no_inf : (Tryd.prog.info? 42).map (fun i => (i.zero, i.size, i.bytes)) = some (some (.agg #[.int .i64 0, .int .i64 0, .int .i64 0, .int .i64 0, .int .i64 0, .int .i64 0]), 6, 48) := by kernel_rfl


set_option maxRecDepth 8000 in
set_option maxHeartbeats 1600000 in
theorem eqNodes (w : World) (A A' : Option Addr) (n n' c c' : Nat) (L L' : Nat → No) (h : RdNo w w.heap.size A n L) (h' : RdNo w w.heap.size A' n' L') (hs : n = n' ∧ ∀ i, i < n → L i = L' i) :
    Calls Tryd.prog 6 #[.slice A n c, .slice A' n' c'] w fun e w' => e = .returned (.bool true) ∧ Below w.heap.size w w' := by
  obtain ⟨rfl, hs⟩ := hs
  have hn := h.1
  have HS := Lib.hid hs
  clear hs
  go_enter Tryd.func6, Tryd.ntmps6
  go_wp2_with fail
  go_loopw [5] (fun i wr => ∃ k : Nat, k ≤ n ∧ i = .int .i64 k ∧ Below w.heap.size w wr) (fun i _ => n - (intOf i).toNat)
  case atStart => exact ⟨0, Nat.zero_le _, rfl, Below.refl _ _⟩
  case round =>
    obtain ⟨k, hk, rfl, hbr⟩ := hrel
    have hs1 := hbr.size
    by_cases hlt : k < n
    · obtain ⟨b, off, rfl, hbB, h0, h1, h2, h3, h4, h5⟩ := (h.below hbr).2 k hlt
      obtain ⟨b', off', rfl, hbB', h0', h1', h2', h3', h4', h5'⟩ := (h'.below hbr).2 k hlt
      have hz := HS.out k hlt
      rw [← hz] at h0' h1' h2' h3' h4' h5'
      clear hz h h'
      have hlt' : (k : Int) < n := by omega
      have hb1 : b < wr.heap.size := by omega
      have hb2 : b' < wr.heap.size := by omega
      go_wp2_with fail
      go_region_held3 (fun w' => w'.cell? ⟨b, off + k * 6, none⟩ = some (.int .i64 (L k).k) ∧ w'.cell? ⟨b, off + k * 6 + 1, none⟩ = some (.int .i64 (L k).a) ∧ w'.cell? ⟨b, off + k * 6 + 2, none⟩ = some (.int .i64 (L k).b) ∧ w'.cell? ⟨b, off + k * 6 + 3, none⟩ = some (.int .i64 (L k).c) ∧ w'.cell? ⟨b, off + k * 6 + 4, none⟩ = some (.int .i64 (L k).p) ∧ w'.cell? ⟨b, off + k * 6 + 5, none⟩ = some (.int .i64 (L k).q) ∧ w'.cell? ⟨b', off' + k * 6, none⟩ = some (.int .i64 (L k).k) ∧ w'.cell? ⟨b', off' + k * 6 + 1, none⟩ = some (.int .i64 (L k).a) ∧ w'.cell? ⟨b', off' + k * 6 + 2, none⟩ = some (.int .i64 (L k).b) ∧ w'.cell? ⟨b', off' + k * 6 + 3, none⟩ = some (.int .i64 (L k).c) ∧ w'.cell? ⟨b', off' + k * 6 + 4, none⟩ = some (.int .i64 (L k).p) ∧ w'.cell? ⟨b', off' + k * 6 + 5, none⟩ = some (.int .i64 (L k).q) ∧ b < w'.heap.size ∧ b' < w'.heap.size ∧ Below w.heap.size w w') (first | (with_reducible assumption) | (refine ⟨?_, ?_, ?_, ?_, ?_, ?_, ?_, ?_, ?_, ?_, ?_, ?_, ?_, ?_, ?_⟩ <;> first | (with_reducible assumption) | omega | (simp [go_sem, *]; done) | (simp [*]; omega) | ((repeat (first | (with_reducible exact Below.refl _ _) | (with_reducible assumption) | (with_reducible refine Below.drew ?_) | (with_reducible refine below_drewN ?_ _) | ((with_reducible refine Below.setCell ?_ ?_ _); rotate_left; focus (first | (simp; done) | omega | (simp; omega))) | ((with_reducible refine Below.alloc ?_ ?_ _); rotate_left; focus (first | exact Nat.le_refl _ | omega | (simp; done) | (simp; omega))))); first | done | (simp [*]; done))))
        (first | (go_at_call 14; refine (eqNode_any (L k) _).mono ?_; rintro e w1 ⟨rfl, hb1⟩; obtain ⟨hc1, hf1⟩ := keepc hb1; have hs1 := hb1.size; have hS1 : ((fun w' => w'.cell? ⟨b, off + k * 6, none⟩ = some (.int .i64 (L k).k) ∧ w'.cell? ⟨b, off + k * 6 + 1, none⟩ = some (.int .i64 (L k).a) ∧ w'.cell? ⟨b, off + k * 6 + 2, none⟩ = some (.int .i64 (L k).b) ∧ w'.cell? ⟨b, off + k * 6 + 3, none⟩ = some (.int .i64 (L k).c) ∧ w'.cell? ⟨b, off + k * 6 + 4, none⟩ = some (.int .i64 (L k).p) ∧ w'.cell? ⟨b, off + k * 6 + 5, none⟩ = some (.int .i64 (L k).q) ∧ w'.cell? ⟨b', off' + k * 6, none⟩ = some (.int .i64 (L k).k) ∧ w'.cell? ⟨b', off' + k * 6 + 1, none⟩ = some (.int .i64 (L k).a) ∧ w'.cell? ⟨b', off' + k * 6 + 2, none⟩ = some (.int .i64 (L k).b) ∧ w'.cell? ⟨b', off' + k * 6 + 3, none⟩ = some (.int .i64 (L k).c) ∧ w'.cell? ⟨b', off' + k * 6 + 4, none⟩ = some (.int .i64 (L k).p) ∧ w'.cell? ⟨b', off' + k * 6 + 5, none⟩ = some (.int .i64 (L k).q) ∧ b < w'.heap.size ∧ b' < w'.heap.size ∧ Below w.heap.size w w')) w1 := (by refine ⟨?_, ?_, ?_, ?_, ?_, ?_, ?_, ?_, ?_, ?_, ?_, ?_, ?_, ?_, ?_⟩ <;> first | (rw [hc1 _ _ (by first | omega | (simp [*]; omega) | (simp [*]; done))] <;> simp [go_sem, *]; done) | (first | omega | (simp [*] at hs1; omega)) | (refine Below.trans ?_ (hb1.mono (by first | omega | (simp [*]; done) | (simp [*]; omega))); (repeat (first | (with_reducible exact Below.refl _ _) | (with_reducible assumption) | (with_reducible refine Below.drew ?_) | (with_reducible refine below_drewN ?_ _) | ((with_reducible refine Below.setCell ?_ ?_ _); rotate_left; focus (first | (simp; done) | omega | (simp; omega))) | ((with_reducible refine Below.alloc ?_ ?_ _); rotate_left; focus (first | exact Nat.le_refl _ | omega | (simp; done) | (simp; omega))))); first | done | (simp [*]; done))); clear hb1 hc1 hf1 hs1))
      go_wp2_with fail
      go_roundw
      case rel => exact ⟨k + 1, by omega, by go_num, hS1.2.2.2.2.2.2.2.2.2.2.2.2.2.2⟩
      case measure => simp [intOf]; omega
    · go_wp2_with fail
      go_ret
      exact ⟨rfl, hbr⟩


theorem no_cells_len (s : No) : s.cells.length = 6 := rfl
theorem noAt_list (xs : List No) {n j : Nat} (hl : xs.length = n) (hj : j < n * 6) : (xs.flatMap No.cells).getD j undef = noAt (fun i => xs.getD i No.zero) j := by
  have h1 : j / 6 < xs.length := by omega
  have h := flat_get no_cells_len xs (j / 6) (j % 6) (Nat.mod_lt _ (by omega))
  rw [show j / 6 * 6 + j % 6 = j by omega] at h
  rw [noAt, List.getD_eq_getElem?_getD, h, List.getElem?_eq_getElem h1, List.getD_eq_getElem?_getD, List.getD_eq_getElem?_getD, List.getElem?_eq_getElem h1]
  rfl
theorem OwNo.list {w : World} {base n : Nat} {v : Value} {xs : List No} (h : w.ownsRow base 42 6 v n (xs.flatMap No.cells)) (hl : xs.length = n) : OwR w base 42 6 v n (noAt fun i => xs.getD i No.zero) :=
  (OwR.of_own h).congr fun _ hj => noAt_list xs hl hj
theorem RdNo.own {w : World} {base n c : Nat} {A : Option Addr} {L : Nat → No} (h : OwR w base 42 6 (.slice A n c) n (noAt L)) : RdNo w w.heap.size A n L := by
  rcases h with ⟨hv, rfl⟩ | ⟨g, cap, G, hv, hg, hn, hm, hr, hG⟩
  · exact ⟨by omega, fun i hi => by omega⟩
  · injection hv with hv1 _ hv2
    subst hv1 hv2
    unfold maxLen at hm
    refine ⟨by omega, fun i hi => ⟨g, 0, rfl, hr.lt, ?_, ?_, ?_, ?_, ?_, ?_⟩⟩
    · rw [Nat.zero_add, hr.cell (by omega), hG _ (by omega), noAt0]
    · rw [Nat.zero_add, hr.cell (by omega), hG _ (by omega), noAt1]
    · rw [Nat.zero_add, hr.cell (by omega), hG _ (by omega), noAt2]
    · rw [Nat.zero_add, hr.cell (by omega), hG _ (by omega), noAt3]
    · rw [Nat.zero_add, hr.cell (by omega), hG _ (by omega), noAt4]
    · rw [Nat.zero_add, hr.cell (by omega), hG _ (by omega), noAt5]
theorem no_flat (L : Nat → No) {n j : Nat} (hj : j < n * 6) : (((List.range n).map L).flatMap No.cells)[j]? = some (noAt L j) := by
  have h1 : j / 6 < n := by omega
  have h := flat_get no_cells_len ((List.range n).map L) (j / 6) (j % 6) (Nat.mod_lt _ (by omega))
  rw [show j / 6 * 6 + j % 6 = j by omega] at h
  have h2 : ((L (j / 6)).cells)[j % 6]? = some (noAt L j) := by
    have hl : j % 6 < ((L (j / 6)).cells).length := Nat.mod_lt _ (by omega)
    rw [noAt, List.getD_eq_getElem?_getD, List.getElem?_eq_getElem hl]
    rfl
  rw [h, List.getElem?_map, List.getElem?_range h1]
  exact h2
theorem no_flat_len (L : Nat → No) (n : Nat) : (((List.range n).map L).flatMap No.cells).length = n * 6 := by rw [flat_len no_cells_len]; simp
theorem RdNo.cellAt {w : World} {B b off n j : Nat} {L : Nat → No} (h : RdNo w B (some ⟨b, off, none⟩) n L) (hj : j < n * 6) : w.cell? ⟨b, off + j, none⟩ = some (noAt L j) := by
  obtain ⟨b', off', e, _, h0, h1, h2, h3, h4, h5⟩ := h.2 (j / 6) (by omega)
  injection e with e
  injection e with e1 e2
  subst e1 e2
  have hd : j = j / 6 * 6 + j % 6 := by omega
  have hm : j % 6 < 6 := Nat.mod_lt _ (by omega)
  rw [noAt]
  generalize j % 6 = r at hd hm ⊢
  generalize j / 6 = q at hd h0 h1 h2 h3 h4 h5 ⊢
  subst hd
  match r, hm with
  | 0, _ => simpa using h0
  | 1, _ => simpa [Nat.add_assoc] using h1
  | 2, _ => simpa [Nat.add_assoc] using h2
  | 3, _ => simpa [Nat.add_assoc] using h3
  | 4, _ => simpa [Nat.add_assoc] using h4
  | 5, _ => simpa [Nat.add_assoc] using h5
/-- The cells of a slice that is read, for an append of it. -/
theorem RdNo.news {w : World} {B n : Nat} {ad : Addr} {L : Nat → No} (h : RdNo w B (some ad) n L) : ∀ j u, (((List.range n).map L).flatMap No.cells)[j]? = some u → w.cell? (ad.add j) = some u := by
  intro j u hj
  have hlt : j < n * 6 := by
    rcases Nat.lt_or_ge j (n * 6) with hh | hh
    · exact hh
    · rw [List.getElem?_eq_none (by rw [no_flat_len]; exact hh)] at hj
      cases hj
  rw [no_flat L hlt] at hj
  injection hj with hj
  subst hj
  obtain ⟨b, off, e, _, _⟩ := h.2 (j / 6) (by omega)
  injection e with e
  subst e
  have ha : Addr.add ⟨b, off, none⟩ j = ⟨b, off + j, none⟩ := by unfold Addr.add; split <;> simp_all
  rw [ha]
  exact h.cellAt hlt
theorem no_one (L : Nat → No) (n : Nat) : ∀ u ∈ ((List.range n).map L).flatMap No.cells, u.oneCell' = true := by
  intro u hu
  obtain ⟨s, _, hs⟩ := List.mem_flatMap.1 hu
  simp [No.cells] at hs
  rcases hs with rfl | rfl | rfl | rfl | rfl | rfl <;> rfl

/-- The marks from k on. -/
def mkNo (k : Int) (i : Nat) : No := ⟨k + 6 * (i : Int), k + 6 * (i : Int) + 1, k + 6 * (i : Int) + 2, k + 6 * (i : Int) + 3, k + 6 * (i : Int) + 4, k + 6 * (i : Int) + 5⟩
set_option maxHeartbeats 1600000 in
theorem markNodes (w : World) (base : Nat) (A : Option Addr) (n c : Nat) (F : Nat → Value) (k : Int) (h : OwR w base 42 6 (.slice A n c) n F) (hn : n ≤ 1099511627776) (hk : 0 ≤ k) (hk' : k ≤ 1099511627776) :
    Calls Tryd.prog 7 #[.slice A n c, .int .i64 k] w fun e w' => e = .returned (.int .i64 (k + 6 * n)) ∧ OwR w' base 42 6 (.slice A n c) n (noAt (mkNo k)) ∧ w.grownBy w' (Value.slice A n c).ownBlock := by
  go_enter Tryd.func7, Tryd.ntmps7
  go_wp2_with fail
  go_loopw [1, 5] (fun q i wr => ∃ j : Nat, j ≤ n ∧ i = .int .i64 j ∧ q = .int .i64 (k + 6 * (j : Int)) ∧ OwR wr base 42 6 (.slice A n c) n (fun x => if x < j * 6 then noAt (mkNo k) x else F x) ∧ w.grownBy wr (Value.slice A n c).ownBlock) (fun _ i _ => n - (intOf i).toNat)
  case atStart => exact ⟨0, Nat.zero_le _, rfl, by simp, h.congr fun x _ => by simp, grown_refl _ _⟩
  case round =>
    obtain ⟨j, hj, rfl, rfl, ho, hg⟩ := hrel
    by_cases hlt : j < n
    · rcases ho with ⟨_, h0⟩ | ⟨g, cap, G, hv, hgb, hnc, hcm, hr, hG⟩
      · omega
      · injection hv with hv1 _ hv2
        subst hv1 hv2
        have hj4 : j * 6 + 6 ≤ n * 6 := by omega
        have hc4 : n * 6 ≤ c * 6 := Nat.mul_le_mul_right _ hnc
        have c0 := hr.cell (i := j * 6) (by omega)
        have c1 := hr.cell (i := j * 6 + 1) (by omega)
        have c2 := hr.cell (i := j * 6 + 2) (by omega)
        have c3 := hr.cell (i := j * 6 + 3) (by omega)
        have c4 := hr.cell (i := j * 6 + 4) (by omega)
        have c5 := hr.cell (i := j * 6 + 5) (by omega)
        have f0 := fun o => hr.frozen o
        have w1 : IntKind.i64.wrap (k + 6 * (j : Int) + 1) = k + 6 * (j : Int) + 1 := IntWalk.i64_in _ ⟨by omega, by omega⟩
        have w2 : IntKind.i64.wrap (k + 6 * (j : Int) + 1 + 1) = k + 6 * (j : Int) + 1 + 1 := IntWalk.i64_in _ ⟨by omega, by omega⟩
        have w3 : IntKind.i64.wrap (k + 6 * (j : Int) + 1 + 1 + 1) = k + 6 * (j : Int) + 1 + 1 + 1 := IntWalk.i64_in _ ⟨by omega, by omega⟩
        have w4 : IntKind.i64.wrap (k + 6 * (j : Int) + 1 + 1 + 1 + 1) = k + 6 * (j : Int) + 1 + 1 + 1 + 1 := IntWalk.i64_in _ ⟨by omega, by omega⟩
        have w5 : IntKind.i64.wrap (k + 6 * (j : Int) + 1 + 1 + 1 + 1 + 1) = k + 6 * (j : Int) + 1 + 1 + 1 + 1 + 1 := IntWalk.i64_in _ ⟨by omega, by omega⟩
        have w6 : IntKind.i64.wrap (k + 6 * (j : Int) + 1 + 1 + 1 + 1 + 1 + 1) = k + 6 * (j : Int) + 1 + 1 + 1 + 1 + 1 + 1 := IntWalk.i64_in _ ⟨by omega, by omega⟩
        -- have hmod : (k + 6 * (j : Int) + 1 + 1 + 1 + 1 + 1).tmod 3 = (k + 6 * (j : Int) + 5) % 3 := by rw [Int.tmod_eq_emod_of_nonneg (by omega)]; congr 1; omega
        have HG := Lib.hid hG
        clear h hG
        go_wp2_with fail
        go_roundw
        case rel =>
          have hg' : w.grownBy wr (some g) := hg
          refine ⟨j + 1, by omega, by go_num, by congr 1; push_cast; omega, ?_, ?_⟩
          case refine_2 =>
            show w.grownBy _ (some g)
            exact grown_setCell (grown_setCell (grown_setCell (grown_setCell (grown_setCell (grown_setCell (hg') (p := ⟨g, j * 6, none⟩) rfl _) (p := ⟨g, j * 6 + 1, none⟩) rfl _) (p := ⟨g, j * 6 + 2, none⟩) rfl _) (p := ⟨g, j * 6 + 3, none⟩) rfl _) (p := ⟨g, j * 6 + 4, none⟩) rfl _) (p := ⟨g, j * 6 + 5, none⟩) rfl _
          have hG := HG.out
          refine .inr ⟨g, c, _, rfl, hgb, hnc, hcm, (((((hr.set (j * 6) _).set (j * 6 + 1) _).set (j * 6 + 2) _).set (j * 6 + 3) _).set (j * 6 + 4) _).set (j * 6 + 5) _, fun x hx => ?_⟩
          by_cases e5 : x = j * 6 + 5
          · subst e5
            dsimp only
            rw [if_pos (show j * 6 + 5 < (j + 1) * 6 by omega), noAt5]
            simp [mkNo]
            try omega
          by_cases e4 : x = j * 6 + 4
          · subst e4
            dsimp only
            rw [if_pos (show j * 6 + 4 < (j + 1) * 6 by omega), noAt4]
            simp [mkNo]
            try omega
          by_cases e3 : x = j * 6 + 3
          · subst e3
            dsimp only
            rw [if_pos (show j * 6 + 3 < (j + 1) * 6 by omega), noAt3]
            simp [mkNo]
            try omega
          by_cases e2 : x = j * 6 + 2
          · subst e2
            dsimp only
            rw [if_pos (show j * 6 + 2 < (j + 1) * 6 by omega), noAt2]
            simp [mkNo]
            try omega
          by_cases e1 : x = j * 6 + 1
          · subst e1
            dsimp only
            rw [if_pos (show j * 6 + 1 < (j + 1) * 6 by omega), noAt1]
            simp [mkNo]
            try omega
          by_cases e0 : x = j * 6
          · subst e0
            dsimp only
            rw [if_pos (show j * 6 < (j + 1) * 6 by omega), noAt0]
            simp [mkNo]
            try omega
          by_cases e : x < j * 6
          · simp [e0, e1, e2, e3, e4, e5, hG x hx, e, show x < (j + 1) * 6 by omega]
          · simp [e0, e1, e2, e3, e4, e5, hG x hx, e, show ¬ x < (j + 1) * 6 by omega]
        case measure => simp [intOf]; omega
    · obtain rfl : j = n := by omega
      go_wp2_with fail
      go_ret
      exact ⟨rfl, ho.congr fun x hx => by simp [hx], hg⟩

set_option maxHeartbeats 1600000 in
theorem heldNodes (w : World) (A : Option Addr) (n c : Nat) (k : Int) (h : RdNo w w.heap.size A n (mkNo k)) (hn : n ≤ 1099511627776) (hk : 0 ≤ k) (hk' : k ≤ 1099511627776) :
    Calls Tryd.prog 8 #[.slice A n c, .int .i64 k] w fun e w' => e = .returned (.int .i64 (k + 6 * n)) ∧ w = w' := by
  go_enter Tryd.func8, Tryd.ntmps8
  go_wp2_with fail
  go_loop [1, 5] (fun q i => ∃ j : Nat, j ≤ n ∧ i = .int .i64 j ∧ q = .int .i64 (k + 6 * (j : Int))) (fun _ i => n - (intOf i).toNat)
  case atStart => exact ⟨0, Nat.zero_le _, rfl, by simp⟩
  case round =>
    obtain ⟨j, hj, rfl, rfl⟩ := hrel
    by_cases hlt : j < n
    · obtain ⟨b, off, rfl, hbB, h0, h1, h2, h3, h4, h5⟩ := h.2 j hlt
      have c0 : w.cell? ⟨b, off + j * 6, none⟩ = some (.int .i64 (k + 6 * (j : Int))) := h0
      have c1 : w.cell? ⟨b, off + j * 6 + 1, none⟩ = some (.int .i64 (k + 6 * (j : Int) + 1)) := h1
      have c2 : w.cell? ⟨b, off + j * 6 + 2, none⟩ = some (.int .i64 (k + 6 * (j : Int) + 1 + 1)) := h2.trans (by simp only [mkNo]; congr 2; omega)
      have c3 : w.cell? ⟨b, off + j * 6 + 3, none⟩ = some (.int .i64 (k + 6 * (j : Int) + 1 + 1 + 1)) := h3.trans (by simp only [mkNo]; congr 2; omega)
      have c4 : w.cell? ⟨b, off + j * 6 + 4, none⟩ = some (.int .i64 (k + 6 * (j : Int) + 1 + 1 + 1 + 1)) := h4.trans (by simp only [mkNo]; congr 2; omega)
      have c5 : w.cell? ⟨b, off + j * 6 + 5, none⟩ = some (.int .i64 (k + 6 * (j : Int) + 1 + 1 + 1 + 1 + 1)) := h5.trans (by simp only [mkNo]; congr 2; omega)
      have w1 : IntKind.i64.wrap (k + 6 * (j : Int) + 1) = k + 6 * (j : Int) + 1 := IntWalk.i64_in _ ⟨by omega, by omega⟩
      have w2 : IntKind.i64.wrap (k + 6 * (j : Int) + 1 + 1) = k + 6 * (j : Int) + 1 + 1 := IntWalk.i64_in _ ⟨by omega, by omega⟩
      have w3 : IntKind.i64.wrap (k + 6 * (j : Int) + 1 + 1 + 1) = k + 6 * (j : Int) + 1 + 1 + 1 := IntWalk.i64_in _ ⟨by omega, by omega⟩
      have w4 : IntKind.i64.wrap (k + 6 * (j : Int) + 1 + 1 + 1 + 1) = k + 6 * (j : Int) + 1 + 1 + 1 + 1 := IntWalk.i64_in _ ⟨by omega, by omega⟩
      have w5 : IntKind.i64.wrap (k + 6 * (j : Int) + 1 + 1 + 1 + 1 + 1) = k + 6 * (j : Int) + 1 + 1 + 1 + 1 + 1 := IntWalk.i64_in _ ⟨by omega, by omega⟩
      have w6 : IntKind.i64.wrap (k + 6 * (j : Int) + 1 + 1 + 1 + 1 + 1 + 1) = k + 6 * (j : Int) + 1 + 1 + 1 + 1 + 1 + 1 := IntWalk.i64_in _ ⟨by omega, by omega⟩
      -- have hmod : (k + 6 * (j : Int) + 1 + 1 + 1 + 1 + 1).tmod 3 = (k + 6 * (j : Int) + 5) % 3 := by rw [Int.tmod_eq_emod_of_nonneg (by omega)]; congr 1; omega
      clear h h0 h1 h2 h3 h4 h5
      go_wp2_with fail
      go_round
      case rel => exact ⟨j + 1, by omega, by go_num, by congr 1; push_cast; omega⟩
      case measure => simp [intOf]; omega
    · obtain rfl : j = n := by omega
      go_wp2_with fail
      go_ret
      exact ⟨rfl, rfl⟩
end Go.Proofs.YtanpmbiblibgfaaDoor
