/- Slices of fractions: read, copied, compared. Conditions: the cells can be read. -/
import Derived.Test.YtdccdoodmiihbaaOwR
import Derived.Test.YtdccdoodmiihbaaEqF
import Derived.Deep.RegionHeld3
import Derived.Deep.Slices
namespace Go.Proofs.Ytdccdoodmiihbaa
open Go.RowKit

/-- As a value. -/
abbrev Fr.val (s : Fr) : Value := .agg #[.int .i64 s.1, .int .i64 s.2]
abbrev Fr.cells (s : Fr) : List Value := [.int .i64 s.1, .int .i64 s.2]
def Fr.zero : Fr := ⟨0, 0⟩

/-- n of them, L, lie at A, in blocks below B. -/
def RdFr (w : World) (B : Nat) (A : Option Addr) (n : Nat) (L : Nat → Fr) : Prop :=
  n ≤ 9223372036854775807 ∧ ∀ i, i < n → ∃ b off, A = some ⟨b, off, none⟩ ∧ b < B ∧ w.cell? ⟨b, off + i * 2, none⟩ = some (.int .i64 (L i).1) ∧ w.cell? ⟨b, off + i * 2 + 1, none⟩ = some (.int .i64 (L i).2)
/-- The cells of a row, in their order. -/
def frAt (L : Nat → Fr) (j : Nat) : Value := (L (j / 2)).cells.getD (j % 2) undef
section
variable {w w' : World} {B n : Nat} {A : Option Addr} {L M : Nat → Fr}
theorem frAt0 (L : Nat → Fr) (i : Nat) : frAt L (i * 2) = .int .i64 (L i).1 := by
  rw [frAt, show (i * 2) / 2 = i by omega, show (i * 2) % 2 = 0 by omega]
  rfl
theorem frAt1 (L : Nat → Fr) (i : Nat) : frAt L (i * 2 + 1) = .int .i64 (L i).2 := by
  rw [frAt, show (i * 2 + 1) / 2 = i by omega, show (i * 2 + 1) % 2 = 1 by omega]
  rfl
theorem frAt_lt {k j : Nat} (h : ∀ i, i < k → L i = M i) (hj : j < k * 2) : frAt L j = frAt M j := by
  rw [frAt, frAt, h (j / 2) (by omega)]
theorem RdFr.below (h : RdFr w B A n L) (hb : Below B w w') : RdFr w' B A n L :=
  ⟨h.1, fun i hi => by
    obtain ⟨b, off, e, hlt, h0, h1⟩ := h.2 i hi
    have hk := fun o => hb.cell (p := ⟨b, o, none⟩) hlt
    exact ⟨b, off, e, hlt, by rw [hk]; exact h0, by rw [hk]; exact h1⟩⟩
theorem RdFr.more (h : RdFr w B A n L) {B' : Nat} (hB : B ≤ B') : RdFr w B' A n L :=
  ⟨h.1, fun i hi => by
    obtain ⟨b, off, e, hlt, hc⟩ := h.2 i hi
    exact ⟨b, off, e, by omega, hc⟩⟩
theorem RdFr.row {g N : Nat} {ty : TypeId} (h : w.rowIs g ty N (frAt L)) (hB : g < B) (hN : n * 2 ≤ N) (hn : n ≤ 9223372036854775807) : RdFr w B (some ⟨g, 0, none⟩) n L :=
  ⟨hn, fun i hi => ⟨g, 0, rfl, hB, by rw [Nat.zero_add, h.cell (by omega), frAt0], by rw [Nat.zero_add, h.cell (by omega), frAt1]⟩⟩
end


theorem fr_inf : (Try.prog.info? 39).map (fun i => (i.zero, i.size, i.bytes)) = some (some (.agg #[.int .i64 0, .int .i64 0]), 2, 16) := by kernel_rfl
set_option maxHeartbeats 1600000 in
theorem toFracs (w : World) (A : Option Addr) (n c : Nat) (L : Nat → Fr) (h : RdFr w w.heap.size A n L) (hn : n ≤ 1048576) :
    Calls Try.prog 24 #[.slice A n c] w fun e w' => ∃ g : Nat, e = .returned (.slice (some ⟨g, 0, none⟩) n n) ∧ w'.rowIs g 39 (n * 2) (frAt L) ∧ w.heap.size ≤ g ∧ Below w.heap.size w w' := by
  obtain ⟨i0, hi, hz0, hz1, hz2⟩ := info_parts fr_inf
  go_enter Try.func24, Try.ntmps24
  go_wp2_with (refine wpList_make_full _ rfl (.tmp 6) (.tmp 6) 31 rfl w.heap.size 39 i0 (.agg #[.int .i64 0, .int .i64 0]) 2 Try.underlying31 hi hz0 hz1 .i64 .i64 (n : Int) (n : Int) n rfl rfl rfl rfl ?c1 ?c2 (Nat.le_refl _) ?_)
  case c1 => rw [hz2]; omega
  case c2 => unfold maxLen; omega
  intro w1 hown hg1
  obtain ⟨hrow, hg⟩ := row_of_own hown
  obtain ⟨M0, hrow⟩ : ∃ M0, w1.rowIs w.heap.size 39 (n * 2) M0 := ⟨_, hrow⟩
  have hb1 : Below w.heap.size w w1 := (Below.refl _ _).grown hg1 (Nat.le_refl _) (by simp)
  clear hown hg1
  go_wp2_with fail
  go_loopw [4] (fun i wr => ∃ k : Nat, k ≤ n ∧ i = .int .i64 k ∧ wr.rowIs w.heap.size 39 (n * 2) (fun j => if j < k * 2 then frAt L j else M0 j) ∧ Below w.heap.size w wr) (fun i _ => n - (intOf i).toNat)
  case atStart => exact ⟨0, Nat.zero_le _, rfl, hrow.congr fun j _ => by simp, hb1⟩
  case round =>
    obtain ⟨k, hk, rfl, hr, hbr⟩ := hrel
    by_cases hlt : k < n
    · obtain ⟨b, off, rfl, hbB, h0, h1⟩ := h.2 k hlt
      have c0 : wr.cell? ⟨b, off + k * 2, none⟩ = some (.int .i64 (L k).1) := (hbr.cell (p := ⟨b, off + k * 2, none⟩) hbB).trans h0
      have c1 : wr.cell? ⟨b, off + k * 2 + 1, none⟩ = some (.int .i64 (L k).2) := (hbr.cell (p := ⟨b, off + k * 2 + 1, none⟩) hbB).trans h1
      have f0 := fun o => hr.frozen o
      have hlt4 : k * 2 + 2 ≤ n * 2 := by omega
      have hs1 := hr.lt
      go_wp2_with fail
      refine (toFrac_any (L k).1 (L k).2 _).mono ?_
      rintro e w2 ⟨rfl, hb2⟩
      have hr2 := hr.of_block (hb2.block _ hs1)
      have f2 := fun o => hr2.frozen o
      have hbr2 := hbr.trans (hb2.mono hbr.size)
      have d0 := hr2.cell (i := k * 2) (by omega)
      have d1 := hr2.cell (i := k * 2 + 1) (by omega)
      clear f0 hr hbr hb2 c0 h0 c1 h1 hbB
      go_wp2_with fail
      go_roundw
      case rel =>
        refine ⟨k + 1, by omega, by go_num, ?_, (hbr2.setCell (Nat.le_refl _) _).setCell (Nat.le_refl _) _⟩
        refine ((hr2.set (k * 2) _).set (k * 2 + 1) _).congr fun j hj => ?_
        by_cases e1 : j = k * 2 + 1
        · subst e1
          rw [if_pos (show k * 2 + 1 < (k + 1) * 2 by omega), frAt1]
          simp
        by_cases e0 : j = k * 2
        · subst e0
          rw [if_pos (show k * 2 < (k + 1) * 2 by omega), frAt0]
          simp
        by_cases e : j < k * 2
        · simp [e0, e1, e, show j < (k + 1) * 2 by omega]
        · simp [e0, e1, e, show ¬ j < (k + 1) * 2 by omega]
      case measure => simp [intOf]; omega
    · go_wp2_with fail
      go_ret
      exact ⟨w.heap.size, rfl, hr.congr fun j hj => by simp [show j < k * 2 by omega], Nat.le_refl _, hbr⟩

set_option maxHeartbeats 400000 in
theorem szFracs (w : World) (A : Option Addr) (n c : Nat) (hn : n ≤ 9223372036854775807) :
    Calls Try.prog 22 #[.slice A n c, .int .i64 1048576] w fun e w' => e = .returned (.int .i64 (if (1048576 : Int) < n then -1 else 1048576 - n)) ∧ w = w' := by
  by_cases h : (1048576 : Int) < n
  · rw [if_pos h]
    have h1 : IntKind.i64.wrap (1048576 - (n : Int)) = 1048576 - n := IntWalk.i64_in _ ⟨by omega, by omega⟩
    have h2 : (1048576 : Int) - n < 0 := by omega
    go_enter Try.func22, Try.ntmps22
    go_wp2
    go_ret
    exact ⟨rfl, rfl⟩
  · rw [if_neg h]
    have h1 : IntKind.i64.wrap (1048576 - (n : Int)) = 1048576 - n := IntWalk.i64_in _ ⟨by omega, by omega⟩
    have h2 : ¬ (1048576 : Int) - n < 0 := by omega
    go_enter Try.func22, Try.ntmps22
    go_wp2
    go_ret
    exact ⟨rfl, rfl⟩

set_option maxHeartbeats 1600000 in
theorem eqFracs (w : World) (A A' : Option Addr) (n n' c c' : Nat) (L L' : Nat → Fr) (h : RdFr w w.heap.size A n L) (h' : RdFr w w.heap.size A' n' L') (hs : n = n' ∧ ∀ i, i < n → L i = L' i) :
    Calls Try.prog 26 #[.slice A n c, .slice A' n' c'] w fun e w' => e = .returned (.bool true) ∧ Below w.heap.size w w' := by
  obtain ⟨rfl, hs⟩ := hs
  have hn := h.1
  have HS := Lib.hid hs
  clear hs
  go_enter Try.func26, Try.ntmps26
  go_wp2_with fail
  go_loopw [5] (fun i wr => ∃ k : Nat, k ≤ n ∧ i = .int .i64 k ∧ Below w.heap.size w wr) (fun i _ => n - (intOf i).toNat)
  case atStart => exact ⟨0, Nat.zero_le _, rfl, Below.refl _ _⟩
  case round =>
    obtain ⟨k, hk, rfl, hbr⟩ := hrel
    have hs1 := hbr.size
    by_cases hlt : k < n
    · obtain ⟨b, off, rfl, hbB, h0, h1⟩ := (h.below hbr).2 k hlt
      obtain ⟨b', off', rfl, hbB', h0', h1'⟩ := (h'.below hbr).2 k hlt
      have hz := HS.out k hlt
      rw [← hz] at h0' h1'
      clear hz h h'
      have hlt' : (k : Int) < n := by omega
      have hb1 : b < wr.heap.size := by omega
      have hb2 : b' < wr.heap.size := by omega
      go_wp2_with fail
      go_region_held3 (fun w' => w'.cell? ⟨b, off + k * 2, none⟩ = some (.int .i64 (L k).1) ∧ w'.cell? ⟨b, off + k * 2 + 1, none⟩ = some (.int .i64 (L k).2) ∧ w'.cell? ⟨b', off' + k * 2, none⟩ = some (.int .i64 (L k).1) ∧ w'.cell? ⟨b', off' + k * 2 + 1, none⟩ = some (.int .i64 (L k).2) ∧ b < w'.heap.size ∧ b' < w'.heap.size ∧ Below w.heap.size w w') (first | (with_reducible assumption) | (refine ⟨?_, ?_, ?_, ?_, ?_, ?_, ?_⟩ <;> first | (with_reducible assumption) | omega | (simp [go_sem, *]; done) | (simp [*]; omega) | ((repeat (first | (with_reducible exact Below.refl _ _) | (with_reducible assumption) | (with_reducible refine Below.drew ?_) | (with_reducible refine below_drewN ?_ _) | ((with_reducible refine Below.setCell ?_ ?_ _); rotate_left; focus (first | (simp; done) | omega | (simp; omega))) | ((with_reducible refine Below.alloc ?_ ?_ _); rotate_left; focus (first | exact Nat.le_refl _ | omega | (simp; done) | (simp; omega))))); first | done | (simp [*]; done))))
        (first | (go_at_call 25; refine (eqFrac_same (L k).1 (L k).2 _).mono ?_; rintro e w1 ⟨rfl, hb1⟩; obtain ⟨hc1, hf1⟩ := keepc hb1; have hs1 := hb1.size; have hS1 : ((fun w' => w'.cell? ⟨b, off + k * 2, none⟩ = some (.int .i64 (L k).1) ∧ w'.cell? ⟨b, off + k * 2 + 1, none⟩ = some (.int .i64 (L k).2) ∧ w'.cell? ⟨b', off' + k * 2, none⟩ = some (.int .i64 (L k).1) ∧ w'.cell? ⟨b', off' + k * 2 + 1, none⟩ = some (.int .i64 (L k).2) ∧ b < w'.heap.size ∧ b' < w'.heap.size ∧ Below w.heap.size w w')) w1 := (by refine ⟨?_, ?_, ?_, ?_, ?_, ?_, ?_⟩ <;> first | (rw [hc1 _ _ (by first | omega | (simp [*]; omega) | (simp [*]; done))] <;> simp [go_sem, *]; done) | (first | omega | (simp [*] at hs1; omega)) | (refine Below.trans ?_ (hb1.mono (by first | omega | (simp [*]; done) | (simp [*]; omega))); (repeat (first | (with_reducible exact Below.refl _ _) | (with_reducible assumption) | (with_reducible refine Below.drew ?_) | (with_reducible refine below_drewN ?_ _) | ((with_reducible refine Below.setCell ?_ ?_ _); rotate_left; focus (first | (simp; done) | omega | (simp; omega))) | ((with_reducible refine Below.alloc ?_ ?_ _); rotate_left; focus (first | exact Nat.le_refl _ | omega | (simp; done) | (simp; omega))))); first | done | (simp [*]; done))); clear hb1 hc1 hf1 hs1))
      go_wp2_with fail
      go_roundw
      case rel => exact ⟨k + 1, by omega, by go_num, hS1.2.2.2.2.2.2⟩
      case measure => simp [intOf]; omega
    · go_wp2_with fail
      go_ret
      exact ⟨rfl, hbr⟩

instance : Inhabited Fr := ⟨Fr.zero⟩
set_option maxRecDepth 20000 in
theorem RdFr.arg {H : Type} {enc : TypeId × Value → H} {w : World} {base fuel : Nat} {spare : Nat → Bool} {held : Bool} {A : Option Addr} {len cap : Nat} {x : DataW H × List MemPlace}
    (hf : DataW.trod enc Try.prog w base spare held fuel 48 (Value.slice A len cap).cells.toList = some x) : ∃ L : Nat → Fr, RdFr w w.heap.size A len L := by
  rcases Go.Deep.open_slice Try.underlying48 hf with ⟨hcs, _⟩ | ⟨a, l, c, m, k, D, Pl, hcs, hb, hl, hm, hmm, rfl, hx⟩
  · simp [Value.cells] at hcs
    obtain ⟨rfl, rfl, rfl⟩ := hcs
    exact ⟨fun _ => Fr.zero, by omega, fun i hi => by omega⟩
  · simp [Value.cells] at hcs
    obtain ⟨rfl, rfl, rfl⟩ := hcs
    have hlm : len ≤ m := by rw [hmm]; split <;> omega
    have ce : Try.prog.cellsOf 58 = 2 := by kernel_rfl
    have c_int : Try.prog.cellsOf 3 = 1 := by kernel_rfl
    have each : ∀ i, i < m → ∃ s : Fr, w.cell? (a.add (i * 2)) = some (.int .i64 s.1) ∧ w.cell? (a.add (i * 2 + 1)) = some (.int .i64 s.2) := by
      intro i hi
      obtain ⟨cs', h1, h2⟩ := hx i hi
      rw [ce] at h1
      obtain ⟨_, hlen, hcell⟩ := World.cells?_some h1
      obtain ⟨xs, q, _, _, _, hxl, hg⟩ := DataW.trod_struct Try.underlying58 h2
      match xs, hxl, cs', hlen with
      | [y0, y1], _, [v0, v1], _ =>
        have g0 := hg 0 _ rfl
        simp [c_int] at g0
        obtain ⟨z0, e0, -, -⟩ := DataW.trod_int Try.underlying3 g0
        simp only [List.cons.injEq, and_true] at e0
        subst e0
        have g1 := hg 1 _ rfl
        simp [c_int] at g1
        obtain ⟨z1, e1, -, -⟩ := DataW.trod_int Try.underlying3 g1
        simp only [List.cons.injEq, and_true] at e1
        subst e1
        have k0 := hcell 0 (by omega)
        have k1 := hcell 1 (by omega)
        simp only [Go.Deep.add_add] at k0 k1
        exact ⟨⟨z0, z1⟩, by simpa using k0, by simpa using k1⟩
    obtain ⟨L, hL⟩ := Go.Deep.choose_lt each
    refine ⟨L, by unfold maxLen at hm; omega, fun i hi => ?_⟩
    obtain ⟨b, off, spot⟩ := a
    have h0 := hL i (by omega)
    have hs : spot = none := by simpa [Addr.add] using World.cell?_spot (hL 0 (by omega)).1
    subst hs
    have ha : ∀ j, Addr.add ⟨b, off, none⟩ j = ⟨b, off + j, none⟩ := by intro j; unfold Addr.add; split <;> simp_all
    simp only [ha] at h0
    exact ⟨b, off, rfl, cell_lt h0.1, by simpa [Nat.add_assoc] using h0⟩

theorem fr_cells_len (s : Fr) : s.cells.length = 2 := rfl
theorem frAt_list (xs : List Fr) {n j : Nat} (hl : xs.length = n) (hj : j < n * 2) : (xs.flatMap Fr.cells).getD j undef = frAt (fun i => xs.getD i Fr.zero) j := by
  have h1 : j / 2 < xs.length := by omega
  have h := flat_get fr_cells_len xs (j / 2) (j % 2) (Nat.mod_lt _ (by omega))
  rw [show j / 2 * 2 + j % 2 = j by omega] at h
  rw [frAt, List.getD_eq_getElem?_getD, h, List.getElem?_eq_getElem h1, List.getD_eq_getElem?_getD, List.getD_eq_getElem?_getD, List.getElem?_eq_getElem h1]
  rfl
theorem OwFr.list {w : World} {base n : Nat} {v : Value} {xs : List Fr} (h : w.ownsRow base 39 2 v n (xs.flatMap Fr.cells)) (hl : xs.length = n) : OwR w base 39 2 v n (frAt fun i => xs.getD i Fr.zero) :=
  (OwR.of_own h).congr fun _ hj => frAt_list xs hl hj
theorem RdFr.own {w : World} {base n c : Nat} {A : Option Addr} {L : Nat → Fr} (h : OwR w base 39 2 (.slice A n c) n (frAt L)) : RdFr w w.heap.size A n L := by
  rcases h with ⟨hv, rfl⟩ | ⟨g, cap, G, hv, hg, hn, hm, hr, hG⟩
  · exact ⟨by omega, fun i hi => by omega⟩
  · injection hv with hv1 _ hv2
    subst hv1 hv2
    unfold maxLen at hm
    refine ⟨by omega, fun i hi => ⟨g, 0, rfl, hr.lt, ?_, ?_⟩⟩
    · rw [Nat.zero_add, hr.cell (by omega), hG _ (by omega), frAt0]
    · rw [Nat.zero_add, hr.cell (by omega), hG _ (by omega), frAt1]
theorem fr_flat (L : Nat → Fr) {n j : Nat} (hj : j < n * 2) : (((List.range n).map L).flatMap Fr.cells)[j]? = some (frAt L j) := by
  have h1 : j / 2 < n := by omega
  have h := flat_get fr_cells_len ((List.range n).map L) (j / 2) (j % 2) (Nat.mod_lt _ (by omega))
  rw [show j / 2 * 2 + j % 2 = j by omega] at h
  have h2 : ((L (j / 2)).cells)[j % 2]? = some (frAt L j) := by
    have hl : j % 2 < ((L (j / 2)).cells).length := Nat.mod_lt _ (by omega)
    rw [frAt, List.getD_eq_getElem?_getD, List.getElem?_eq_getElem hl]
    rfl
  rw [h, List.getElem?_map, List.getElem?_range h1]
  exact h2
theorem fr_flat_len (L : Nat → Fr) (n : Nat) : (((List.range n).map L).flatMap Fr.cells).length = n * 2 := by rw [flat_len fr_cells_len]; simp
theorem RdFr.cellAt {w : World} {B b off n j : Nat} {L : Nat → Fr} (h : RdFr w B (some ⟨b, off, none⟩) n L) (hj : j < n * 2) : w.cell? ⟨b, off + j, none⟩ = some (frAt L j) := by
  obtain ⟨b', off', e, _, h0, h1⟩ := h.2 (j / 2) (by omega)
  injection e with e
  injection e with e1 e2
  subst e1 e2
  have hd : j = j / 2 * 2 + j % 2 := by omega
  have hm : j % 2 < 2 := Nat.mod_lt _ (by omega)
  rw [frAt]
  generalize j % 2 = r at hd hm ⊢
  generalize j / 2 = q at hd h0 h1 ⊢
  subst hd
  match r, hm with
  | 0, _ => simpa using h0
  | 1, _ => simpa [Nat.add_assoc] using h1
/-- The cells of a slice that is read, for an append of it. -/
theorem RdFr.news {w : World} {B n : Nat} {ad : Addr} {L : Nat → Fr} (h : RdFr w B (some ad) n L) : ∀ j u, (((List.range n).map L).flatMap Fr.cells)[j]? = some u → w.cell? (ad.add j) = some u := by
  intro j u hj
  have hlt : j < n * 2 := by
    rcases Nat.lt_or_ge j (n * 2) with hh | hh
    · exact hh
    · rw [List.getElem?_eq_none (by rw [fr_flat_len]; exact hh)] at hj
      cases hj
  rw [fr_flat L hlt] at hj
  injection hj with hj
  subst hj
  obtain ⟨b, off, e, _, _⟩ := h.2 (j / 2) (by omega)
  injection e with e
  subst e
  have ha : Addr.add ⟨b, off, none⟩ j = ⟨b, off + j, none⟩ := by unfold Addr.add; split <;> simp_all
  rw [ha]
  exact h.cellAt hlt
theorem fr_one (L : Nat → Fr) (n : Nat) : ∀ u ∈ ((List.range n).map L).flatMap Fr.cells, u.oneCell' = true := by
  intro u hu
  obtain ⟨s, _, hs⟩ := List.mem_flatMap.1 hu
  simp [Fr.cells] at hs
  rcases hs with rfl | rfl <;> rfl

/-- The marks from k on. -/
def mkFr (k : Int) (i : Nat) : Fr := ⟨k + 2 * (i : Int), k + 2 * (i : Int) + 1⟩
set_option maxHeartbeats 1600000 in
theorem markFracs (w : World) (base : Nat) (A : Option Addr) (n c : Nat) (F : Nat → Value) (k : Int) (h : OwR w base 39 2 (.slice A n c) n F) (hn : n ≤ 1099511627776) (hk : 0 ≤ k) (hk' : k ≤ 1099511627776) :
    Calls Try.prog 28 #[.slice A n c, .int .i64 k] w fun e w' => e = .returned (.int .i64 (k + 2 * n)) ∧ OwR w' base 39 2 (.slice A n c) n (frAt (mkFr k)) ∧ w.grownBy w' (Value.slice A n c).ownBlock := by
  go_enter Try.func28, Try.ntmps28
  go_wp2_with fail
  go_loopw [1, 5] (fun q i wr => ∃ j : Nat, j ≤ n ∧ i = .int .i64 j ∧ q = .int .i64 (k + 2 * (j : Int)) ∧ OwR wr base 39 2 (.slice A n c) n (fun x => if x < j * 2 then frAt (mkFr k) x else F x) ∧ w.grownBy wr (Value.slice A n c).ownBlock) (fun _ i _ => n - (intOf i).toNat)
  case atStart => exact ⟨0, Nat.zero_le _, rfl, by simp, h.congr fun x _ => by simp, grown_refl _ _⟩
  case round =>
    obtain ⟨j, hj, rfl, rfl, ho, hg⟩ := hrel
    by_cases hlt : j < n
    · rcases ho with ⟨_, h0⟩ | ⟨g, cap, G, hv, hgb, hnc, hcm, hr, hG⟩
      · omega
      · injection hv with hv1 _ hv2
        subst hv1 hv2
        have hj4 : j * 2 + 2 ≤ n * 2 := by omega
        have hc4 : n * 2 ≤ c * 2 := Nat.mul_le_mul_right _ hnc
        have c0 := hr.cell (i := j * 2) (by omega)
        have c1 := hr.cell (i := j * 2 + 1) (by omega)
        have f0 := fun o => hr.frozen o
        have w1 : IntKind.i64.wrap (k + 2 * (j : Int) + 1) = k + 2 * (j : Int) + 1 := IntWalk.i64_in _ ⟨by omega, by omega⟩
        have w2 : IntKind.i64.wrap (k + 2 * (j : Int) + 1 + 1) = k + 2 * (j : Int) + 1 + 1 := IntWalk.i64_in _ ⟨by omega, by omega⟩
        -- have hmod : (k + 2 * (j : Int) + 1).tmod 3 = (k + 2 * (j : Int) + 1) % 3 := by rw [Int.tmod_eq_emod_of_nonneg (by omega)]; congr 1; omega
        have HG := Lib.hid hG
        clear h hG
        go_wp2_with fail
        go_roundw
        case rel =>
          have hg' : w.grownBy wr (some g) := hg
          refine ⟨j + 1, by omega, by go_num, by congr 1; push_cast; omega, ?_, ?_⟩
          case refine_2 =>
            show w.grownBy _ (some g)
            exact grown_setCell (grown_setCell (hg') (p := ⟨g, j * 2, none⟩) rfl _) (p := ⟨g, j * 2 + 1, none⟩) rfl _
          have hG := HG.out
          refine .inr ⟨g, c, _, rfl, hgb, hnc, hcm, (hr.set (j * 2) _).set (j * 2 + 1) _, fun x hx => ?_⟩
          by_cases e1 : x = j * 2 + 1
          · subst e1
            dsimp only
            rw [if_pos (show j * 2 + 1 < (j + 1) * 2 by omega), frAt1]
            simp [mkFr]
            try omega
          by_cases e0 : x = j * 2
          · subst e0
            dsimp only
            rw [if_pos (show j * 2 < (j + 1) * 2 by omega), frAt0]
            simp [mkFr]
            try omega
          by_cases e : x < j * 2
          · simp [e0, e1, hG x hx, e, show x < (j + 1) * 2 by omega]
          · simp [e0, e1, hG x hx, e, show ¬ x < (j + 1) * 2 by omega]
        case measure => simp [intOf]; omega
    · obtain rfl : j = n := by omega
      go_wp2_with fail
      go_ret
      exact ⟨rfl, ho.congr fun x hx => by simp [hx], hg⟩

set_option maxHeartbeats 1600000 in
theorem heldFracs (w : World) (A : Option Addr) (n c : Nat) (k : Int) (h : RdFr w w.heap.size A n (mkFr k)) (hn : n ≤ 1099511627776) (hk : 0 ≤ k) (hk' : k ≤ 1099511627776) :
    Calls Try.prog 29 #[.slice A n c, .int .i64 k] w fun e w' => e = .returned (.int .i64 (k + 2 * n)) ∧ w = w' := by
  go_enter Try.func29, Try.ntmps29
  go_wp2_with fail
  go_loop [1, 5] (fun q i => ∃ j : Nat, j ≤ n ∧ i = .int .i64 j ∧ q = .int .i64 (k + 2 * (j : Int))) (fun _ i => n - (intOf i).toNat)
  case atStart => exact ⟨0, Nat.zero_le _, rfl, by simp⟩
  case round =>
    obtain ⟨j, hj, rfl, rfl⟩ := hrel
    by_cases hlt : j < n
    · obtain ⟨b, off, rfl, hbB, h0, h1⟩ := h.2 j hlt
      have c0 : w.cell? ⟨b, off + j * 2, none⟩ = some (.int .i64 (k + 2 * (j : Int))) := h0
      have c1 : w.cell? ⟨b, off + j * 2 + 1, none⟩ = some (.int .i64 (k + 2 * (j : Int) + 1)) := h1
      have w1 : IntKind.i64.wrap (k + 2 * (j : Int) + 1) = k + 2 * (j : Int) + 1 := IntWalk.i64_in _ ⟨by omega, by omega⟩
      have w2 : IntKind.i64.wrap (k + 2 * (j : Int) + 1 + 1) = k + 2 * (j : Int) + 1 + 1 := IntWalk.i64_in _ ⟨by omega, by omega⟩
      -- have hmod : (k + 2 * (j : Int) + 1).tmod 3 = (k + 2 * (j : Int) + 1) % 3 := by rw [Int.tmod_eq_emod_of_nonneg (by omega)]; congr 1; omega
      clear h h0 h1
      go_wp2_with fail
      go_round
      case rel => exact ⟨j + 1, by omega, by go_num, by congr 1; push_cast; omega⟩
      case measure => simp [intOf]; omega
    · obtain rfl : j = n := by omega
      go_wp2_with fail
      go_ret
      exact ⟨rfl, rfl⟩
end Go.Proofs.Ytdccdoodmiihbaa
