/- Spells of service: read, copied, compared. Conditions: the cells can be read. -/
import Derived.Test.YtmbmpogdakoloaaSpN
import Derived.Test.YtmbmpogdakoloaaOwR
import Derived.Deep.RegionHeld3
import Derived.Deep.Slices
namespace Go.Proofs.Ytmbmpogdakoloaa
open Go.RowKit

structure Sp where
  f : Int
  t : Int
  p : Int
  v : Bool
/-- As a value. -/
abbrev Sp.val (s : Sp) : Value := .agg #[.int .i64 s.f, .int .i64 s.t, .int .i64 s.p, .bool s.v]
abbrev Sp.cells (s : Sp) : List Value := [.int .i64 s.f, .int .i64 s.t, .int .i64 s.p, .bool s.v]
def Sp.zero : Sp := ⟨0, 0, 0, false⟩

/-- n of them, L, lie at A, in blocks below B. -/
def RdSp (w : World) (B : Nat) (A : Option Addr) (n : Nat) (L : Nat → Sp) : Prop :=
  n ≤ 9223372036854775807 ∧ ∀ i, i < n → ∃ b off, A = some ⟨b, off, none⟩ ∧ b < B ∧ w.cell? ⟨b, off + i * 4, none⟩ = some (.int .i64 (L i).f) ∧ w.cell? ⟨b, off + i * 4 + 1, none⟩ = some (.int .i64 (L i).t) ∧ w.cell? ⟨b, off + i * 4 + 2, none⟩ = some (.int .i64 (L i).p) ∧ w.cell? ⟨b, off + i * 4 + 3, none⟩ = some (.bool (L i).v)
/-- The cells of a row, in their order. -/
def spAt (L : Nat → Sp) (j : Nat) : Value := (L (j / 4)).cells.getD (j % 4) undef
section
variable {w w' : World} {B n : Nat} {A : Option Addr} {L M : Nat → Sp}
theorem spAt0 (L : Nat → Sp) (i : Nat) : spAt L (i * 4) = .int .i64 (L i).f := by
  rw [spAt, show (i * 4) / 4 = i by omega, show (i * 4) % 4 = 0 by omega]
  rfl
theorem spAt1 (L : Nat → Sp) (i : Nat) : spAt L (i * 4 + 1) = .int .i64 (L i).t := by
  rw [spAt, show (i * 4 + 1) / 4 = i by omega, show (i * 4 + 1) % 4 = 1 by omega]
  rfl
theorem spAt2 (L : Nat → Sp) (i : Nat) : spAt L (i * 4 + 2) = .int .i64 (L i).p := by
  rw [spAt, show (i * 4 + 2) / 4 = i by omega, show (i * 4 + 2) % 4 = 2 by omega]
  rfl
theorem spAt3 (L : Nat → Sp) (i : Nat) : spAt L (i * 4 + 3) = .bool (L i).v := by
  rw [spAt, show (i * 4 + 3) / 4 = i by omega, show (i * 4 + 3) % 4 = 3 by omega]
  rfl
theorem spAt_lt {k j : Nat} (h : ∀ i, i < k → L i = M i) (hj : j < k * 4) : spAt L j = spAt M j := by
  rw [spAt, spAt, h (j / 4) (by omega)]
theorem RdSp.below (h : RdSp w B A n L) (hb : Below B w w') : RdSp w' B A n L :=
  ⟨h.1, fun i hi => by
    obtain ⟨b, off, e, hlt, h0, h1, h2, h3⟩ := h.2 i hi
    have hk := fun o => hb.cell (p := ⟨b, o, none⟩) hlt
    exact ⟨b, off, e, hlt, by rw [hk]; exact h0, by rw [hk]; exact h1, by rw [hk]; exact h2, by rw [hk]; exact h3⟩⟩
theorem RdSp.more (h : RdSp w B A n L) {B' : Nat} (hB : B ≤ B') : RdSp w B' A n L :=
  ⟨h.1, fun i hi => by
    obtain ⟨b, off, e, hlt, hc⟩ := h.2 i hi
    exact ⟨b, off, e, by omega, hc⟩⟩
theorem RdSp.row {g N : Nat} {ty : TypeId} (h : w.rowIs g ty N (spAt L)) (hB : g < B) (hN : n * 4 ≤ N) (hn : n ≤ 9223372036854775807) : RdSp w B (some ⟨g, 0, none⟩) n L :=
  ⟨hn, fun i hi => ⟨g, 0, rfl, hB, by rw [Nat.zero_add, h.cell (by omega), spAt0], by rw [Nat.zero_add, h.cell (by omega), spAt1], by rw [Nat.zero_add, h.cell (by omega), spAt2], by rw [Nat.zero_add, h.cell (by omega), spAt3]⟩⟩
end

set_option maxHeartbeats 400000 in
theorem toSpell_any (s : Sp) (w : World) :
    Calls Try.prog 40 #[s.val] w fun e w' => e = .returned s.val ∧ Below w.heap.size w w' := by
  go_enter Try.func40, Try.ntmps40
  go_wp2
  refine bodyPost_ret (v := s.val) (by simp [results, Try.results40, go_sem]) rfl ⟨rfl, ?_⟩
  (repeat (first | (with_reducible exact Below.refl _ _) | ((with_reducible refine Below.setCell ?_ ?_ _); rotate_left; focus (first | (simp; done) | omega | (simp; omega))) | ((with_reducible refine Below.alloc ?_ ?_ _); rotate_left; focus (first | exact Nat.le_refl _ | omega | (simp; done) | (simp; omega)))))
set_option maxHeartbeats 400000 in
theorem eqSpell_any (s : Sp) (w : World) :
    Calls Try.prog 47 #[s.val, s.val] w fun e w' => e = .returned (.bool true) ∧ Below w.heap.size w w' := by
  go_enter Try.func47, Try.ntmps47
  go_wp2
  go_ret
  refine ⟨rfl, ?_⟩
  (repeat (first | (with_reducible exact Below.refl _ _) | ((with_reducible refine Below.setCell ?_ ?_ _); rotate_left; focus (first | (simp; done) | omega | (simp; omega))) | ((with_reducible refine Below.alloc ?_ ?_ _); rotate_left; focus (first | exact Nat.le_refl _ | omega | (simp; done) | (simp; omega)))))

theorem sp_inf : (Try.prog.info? 29).map (fun i => (i.zero, i.size, i.bytes)) = some (some (.agg #[.int .i64 0, .int .i64 0, .int .i64 0, .bool false]), 4, 32) := by kernel_rfl
set_option maxHeartbeats 1600000 in
theorem toSpells (w : World) (A : Option Addr) (n c : Nat) (L : Nat → Sp) (h : RdSp w w.heap.size A n L) (hn : n ≤ 1048576) :
    Calls Try.prog 18 #[.slice A n c] w fun e w' => ∃ g : Nat, e = .returned (.slice (some ⟨g, 0, none⟩) n n) ∧ w'.rowIs g 29 (n * 4) (spAt L) ∧ w.heap.size ≤ g ∧ Below w.heap.size w w' := by
  obtain ⟨i0, hi, hz0, hz1, hz2⟩ := info_parts sp_inf
  go_enter Try.func18, Try.ntmps18
  go_wp2_with (refine wpList_make_full _ rfl (.tmp 6) (.tmp 6) 24 rfl w.heap.size 29 i0 (.agg #[.int .i64 0, .int .i64 0, .int .i64 0, .bool false]) 4 Try.underlying24 hi hz0 hz1 .i64 .i64 (n : Int) (n : Int) n rfl rfl rfl rfl ?c1 ?c2 (Nat.le_refl _) ?_)
  case c1 => rw [hz2]; omega
  case c2 => unfold maxLen; omega
  intro w1 hown hg1
  obtain ⟨hrow, hg⟩ := row_of_own hown
  obtain ⟨M0, hrow⟩ : ∃ M0, w1.rowIs w.heap.size 29 (n * 4) M0 := ⟨_, hrow⟩
  have hb1 : Below w.heap.size w w1 := (Below.refl _ _).grown hg1 (Nat.le_refl _) (by simp)
  clear hown hg1
  go_wp2_with fail
  go_loopw [4] (fun i wr => ∃ k : Nat, k ≤ n ∧ i = .int .i64 k ∧ wr.rowIs w.heap.size 29 (n * 4) (fun j => if j < k * 4 then spAt L j else M0 j) ∧ Below w.heap.size w wr) (fun i _ => n - (intOf i).toNat)
  case atStart => exact ⟨0, Nat.zero_le _, rfl, hrow.congr fun j _ => by simp, hb1⟩
  case round =>
    obtain ⟨k, hk, rfl, hr, hbr⟩ := hrel
    by_cases hlt : k < n
    · obtain ⟨b, off, rfl, hbB, h0, h1, h2, h3⟩ := h.2 k hlt
      have c0 : wr.cell? ⟨b, off + k * 4, none⟩ = some (.int .i64 (L k).f) := (hbr.cell (p := ⟨b, off + k * 4, none⟩) hbB).trans h0
      have c1 : wr.cell? ⟨b, off + k * 4 + 1, none⟩ = some (.int .i64 (L k).t) := (hbr.cell (p := ⟨b, off + k * 4 + 1, none⟩) hbB).trans h1
      have c2 : wr.cell? ⟨b, off + k * 4 + 2, none⟩ = some (.int .i64 (L k).p) := (hbr.cell (p := ⟨b, off + k * 4 + 2, none⟩) hbB).trans h2
      have c3 : wr.cell? ⟨b, off + k * 4 + 3, none⟩ = some (.bool (L k).v) := (hbr.cell (p := ⟨b, off + k * 4 + 3, none⟩) hbB).trans h3
      have f0 := fun o => hr.frozen o
      have hlt4 : k * 4 + 4 ≤ n * 4 := by omega
      have hs1 := hr.lt
      go_wp2_with fail
      refine (toSpell_any (L k) _).mono ?_
      rintro e w2 ⟨rfl, hb2⟩
      have hr2 := hr.of_block (hb2.block _ hs1)
      have f2 := fun o => hr2.frozen o
      have hbr2 := hbr.trans (hb2.mono hbr.size)
      have d0 := hr2.cell (i := k * 4) (by omega)
      have d1 := hr2.cell (i := k * 4 + 1) (by omega)
      have d2 := hr2.cell (i := k * 4 + 2) (by omega)
      have d3 := hr2.cell (i := k * 4 + 3) (by omega)
      clear f0 hr hbr hb2 c0 h0 c1 h1 c2 h2 c3 h3 hbB
      go_wp2_with fail
      go_roundw
      case rel =>
        refine ⟨k + 1, by omega, by go_num, ?_, (((hbr2.setCell (Nat.le_refl _) _).setCell (Nat.le_refl _) _).setCell (Nat.le_refl _) _).setCell (Nat.le_refl _) _⟩
        refine ((((hr2.set (k * 4) _).set (k * 4 + 1) _).set (k * 4 + 2) _).set (k * 4 + 3) _).congr fun j hj => ?_
        by_cases e3 : j = k * 4 + 3
        · subst e3
          rw [if_pos (show k * 4 + 3 < (k + 1) * 4 by omega), spAt3]
          simp
        by_cases e2 : j = k * 4 + 2
        · subst e2
          rw [if_pos (show k * 4 + 2 < (k + 1) * 4 by omega), spAt2]
          simp
        by_cases e1 : j = k * 4 + 1
        · subst e1
          rw [if_pos (show k * 4 + 1 < (k + 1) * 4 by omega), spAt1]
          simp
        by_cases e0 : j = k * 4
        · subst e0
          rw [if_pos (show k * 4 < (k + 1) * 4 by omega), spAt0]
          simp
        by_cases e : j < k * 4
        · simp [e0, e1, e2, e3, e, show j < (k + 1) * 4 by omega]
        · simp [e0, e1, e2, e3, e, show ¬ j < (k + 1) * 4 by omega]
      case measure => simp [intOf]; omega
    · go_wp2_with fail
      go_ret
      exact ⟨w.heap.size, rfl, hr.congr fun j hj => by simp [show j < k * 4 by omega], Nat.le_refl _, hbr⟩

set_option maxHeartbeats 400000 in
theorem szSpells (w : World) (A : Option Addr) (n c : Nat) (hn : n ≤ 9223372036854775807) :
    Calls Try.prog 16 #[.slice A n c, .int .i64 1048576] w fun e w' => e = .returned (.int .i64 (if (1048576 : Int) < n then -1 else 1048576 - n)) ∧ w = w' := by
  by_cases h : (1048576 : Int) < n
  · rw [if_pos h]
    have h1 : IntKind.i64.wrap (1048576 - (n : Int)) = 1048576 - n := IntWalk.i64_in _ ⟨by omega, by omega⟩
    have h2 : (1048576 : Int) - n < 0 := by omega
    go_enter Try.func16, Try.ntmps16
    go_wp2
    go_ret
    exact ⟨rfl, rfl⟩
  · rw [if_neg h]
    have h1 : IntKind.i64.wrap (1048576 - (n : Int)) = 1048576 - n := IntWalk.i64_in _ ⟨by omega, by omega⟩
    have h2 : ¬ (1048576 : Int) - n < 0 := by omega
    go_enter Try.func16, Try.ntmps16
    go_wp2
    go_ret
    exact ⟨rfl, rfl⟩

set_option maxHeartbeats 1600000 in
theorem eqSpells (w : World) (A A' : Option Addr) (n n' c c' : Nat) (L L' : Nat → Sp) (h : RdSp w w.heap.size A n L) (h' : RdSp w w.heap.size A' n' L') (hs : n = n' ∧ ∀ i, i < n → L i = L' i) :
    Calls Try.prog 20 #[.slice A n c, .slice A' n' c'] w fun e w' => e = .returned (.bool true) ∧ Below w.heap.size w w' := by
  obtain ⟨rfl, hs⟩ := hs
  have hn := h.1
  have HS := Lib.hid hs
  clear hs
  go_enter Try.func20, Try.ntmps20
  go_wp2_with fail
  go_loopw [5] (fun i wr => ∃ k : Nat, k ≤ n ∧ i = .int .i64 k ∧ Below w.heap.size w wr) (fun i _ => n - (intOf i).toNat)
  case atStart => exact ⟨0, Nat.zero_le _, rfl, Below.refl _ _⟩
  case round =>
    obtain ⟨k, hk, rfl, hbr⟩ := hrel
    have hs1 := hbr.size
    by_cases hlt : k < n
    · obtain ⟨b, off, rfl, hbB, h0, h1, h2, h3⟩ := (h.below hbr).2 k hlt
      obtain ⟨b', off', rfl, hbB', h0', h1', h2', h3'⟩ := (h'.below hbr).2 k hlt
      have hz := HS.out k hlt
      rw [← hz] at h0' h1' h2' h3'
      clear hz h h'
      have hlt' : (k : Int) < n := by omega
      have hb1 : b < wr.heap.size := by omega
      have hb2 : b' < wr.heap.size := by omega
      go_wp2_with fail
      go_region_held3 (fun w' => w'.cell? ⟨b, off + k * 4, none⟩ = some (.int .i64 (L k).f) ∧ w'.cell? ⟨b, off + k * 4 + 1, none⟩ = some (.int .i64 (L k).t) ∧ w'.cell? ⟨b, off + k * 4 + 2, none⟩ = some (.int .i64 (L k).p) ∧ w'.cell? ⟨b, off + k * 4 + 3, none⟩ = some (.bool (L k).v) ∧ w'.cell? ⟨b', off' + k * 4, none⟩ = some (.int .i64 (L k).f) ∧ w'.cell? ⟨b', off' + k * 4 + 1, none⟩ = some (.int .i64 (L k).t) ∧ w'.cell? ⟨b', off' + k * 4 + 2, none⟩ = some (.int .i64 (L k).p) ∧ w'.cell? ⟨b', off' + k * 4 + 3, none⟩ = some (.bool (L k).v) ∧ b < w'.heap.size ∧ b' < w'.heap.size ∧ Below w.heap.size w w') (first | (with_reducible assumption) | (refine ⟨?_, ?_, ?_, ?_, ?_, ?_, ?_, ?_, ?_, ?_, ?_⟩ <;> first | (with_reducible assumption) | omega | (simp [go_sem, *]; done) | (simp [*]; omega) | ((repeat (first | (with_reducible exact Below.refl _ _) | (with_reducible assumption) | (with_reducible refine Below.drew ?_) | (with_reducible refine below_drewN ?_ _) | ((with_reducible refine Below.setCell ?_ ?_ _); rotate_left; focus (first | (simp; done) | omega | (simp; omega))) | ((with_reducible refine Below.alloc ?_ ?_ _); rotate_left; focus (first | exact Nat.le_refl _ | omega | (simp; done) | (simp; omega))))); first | done | (simp [*]; done))))
        (first | (go_at_call 47; refine (eqSpell_any (L k) _).mono ?_; rintro e w1 ⟨rfl, hb1⟩; obtain ⟨hc1, hf1⟩ := keepc hb1; have hs1 := hb1.size; have hS1 : ((fun w' => w'.cell? ⟨b, off + k * 4, none⟩ = some (.int .i64 (L k).f) ∧ w'.cell? ⟨b, off + k * 4 + 1, none⟩ = some (.int .i64 (L k).t) ∧ w'.cell? ⟨b, off + k * 4 + 2, none⟩ = some (.int .i64 (L k).p) ∧ w'.cell? ⟨b, off + k * 4 + 3, none⟩ = some (.bool (L k).v) ∧ w'.cell? ⟨b', off' + k * 4, none⟩ = some (.int .i64 (L k).f) ∧ w'.cell? ⟨b', off' + k * 4 + 1, none⟩ = some (.int .i64 (L k).t) ∧ w'.cell? ⟨b', off' + k * 4 + 2, none⟩ = some (.int .i64 (L k).p) ∧ w'.cell? ⟨b', off' + k * 4 + 3, none⟩ = some (.bool (L k).v) ∧ b < w'.heap.size ∧ b' < w'.heap.size ∧ Below w.heap.size w w')) w1 := (by refine ⟨?_, ?_, ?_, ?_, ?_, ?_, ?_, ?_, ?_, ?_, ?_⟩ <;> first | (rw [hc1 _ _ (by first | omega | (simp [*]; omega) | (simp [*]; done))] <;> simp [go_sem, *]; done) | (first | omega | (simp [*] at hs1; omega)) | (refine Below.trans ?_ (hb1.mono (by first | omega | (simp [*]; done) | (simp [*]; omega))); (repeat (first | (with_reducible exact Below.refl _ _) | (with_reducible assumption) | (with_reducible refine Below.drew ?_) | (with_reducible refine below_drewN ?_ _) | ((with_reducible refine Below.setCell ?_ ?_ _); rotate_left; focus (first | (simp; done) | omega | (simp; omega))) | ((with_reducible refine Below.alloc ?_ ?_ _); rotate_left; focus (first | exact Nat.le_refl _ | omega | (simp; done) | (simp; omega))))); first | done | (simp [*]; done))); clear hb1 hc1 hf1 hs1))
      go_wp2_with fail
      go_roundw
      case rel => exact ⟨k + 1, by omega, by go_num, hS1.2.2.2.2.2.2.2.2.2.2⟩
      case measure => simp [intOf]; omega
    · go_wp2_with fail
      go_ret
      exact ⟨rfl, hbr⟩

instance : Inhabited Sp := ⟨Sp.zero⟩
set_option maxRecDepth 20000 in
theorem RdSp.arg {H : Type} {enc : TypeId × Value → H} {w : World} {base fuel : Nat} {spare : Nat → Bool} {held : Bool} {A : Option Addr} {len cap : Nat} {x : DataW H × List MemPlace}
    (hf : DataW.trod enc Try.prog w base spare held fuel 32 (Value.slice A len cap).cells.toList = some x) : ∃ L : Nat → Sp, RdSp w w.heap.size A len L := by
  rcases Go.Deep.open_slice Try.underlying32 hf with ⟨hcs, _⟩ | ⟨a, l, c, m, k, D, Pl, hcs, hb, hl, hm, hmm, rfl, hx⟩
  · simp [Value.cells] at hcs
    obtain ⟨rfl, rfl, rfl⟩ := hcs
    exact ⟨fun _ => Sp.zero, by omega, fun i hi => by omega⟩
  · simp [Value.cells] at hcs
    obtain ⟨rfl, rfl, rfl⟩ := hcs
    have hlm : len ≤ m := by rw [hmm]; split <;> omega
    have ce : Try.prog.cellsOf 58 = 4 := by kernel_rfl
    have c_bool : Try.prog.cellsOf 4 = 1 := by kernel_rfl
    have c_int : Try.prog.cellsOf 3 = 1 := by kernel_rfl
    have each : ∀ i, i < m → ∃ s : Sp, w.cell? (a.add (i * 4)) = some (.int .i64 s.f) ∧ w.cell? (a.add (i * 4 + 1)) = some (.int .i64 s.t) ∧ w.cell? (a.add (i * 4 + 2)) = some (.int .i64 s.p) ∧ w.cell? (a.add (i * 4 + 3)) = some (.bool s.v) := by
      intro i hi
      obtain ⟨cs', h1, h2⟩ := hx i hi
      rw [ce] at h1
      obtain ⟨_, hlen, hcell⟩ := World.cells?_some h1
      obtain ⟨xs, q, _, _, _, hxl, hg⟩ := DataW.trod_struct Try.underlying58 h2
      match xs, hxl, cs', hlen with
      | [y0, y1, y2, y3], _, [v0, v1, v2, v3], _ =>
        have g0 := hg 0 _ rfl
        simp [c_int] at g0
        obtain ⟨z0, e0, -, -⟩ := DataW.trod_int Try.underlying3 g0
        simp only [List.cons.injEq, and_true] at e0
        subst e0
        have g1 := hg 1 _ rfl
        simp [c_int] at g1
        obtain ⟨z1, e1, -, -⟩ := DataW.trod_int Try.underlying3 g1
        simp only [List.cons.injEq, and_true] at e1
        subst e1
        have g2 := hg 2 _ rfl
        simp [c_int] at g2
        obtain ⟨z2, e2, -, -⟩ := DataW.trod_int Try.underlying3 g2
        simp only [List.cons.injEq, and_true] at e2
        subst e2
        have g3 := hg 3 _ rfl
        simp [c_bool] at g3
        obtain ⟨z3, e3, -⟩ := DataW.trod_bool Try.underlying4 g3
        simp only [List.cons.injEq, and_true] at e3
        subst e3
        have k0 := hcell 0 (by omega)
        have k1 := hcell 1 (by omega)
        have k2 := hcell 2 (by omega)
        have k3 := hcell 3 (by omega)
        simp only [Go.Deep.add_add] at k0 k1 k2 k3
        exact ⟨⟨z0, z1, z2, z3⟩, by simpa using k0, by simpa using k1, by simpa using k2, by simpa using k3⟩
    obtain ⟨L, hL⟩ := Go.Deep.choose_lt each
    refine ⟨L, by unfold maxLen at hm; omega, fun i hi => ?_⟩
    obtain ⟨b, off, spot⟩ := a
    have h0 := hL i (by omega)
    have hs : spot = none := by simpa [Addr.add] using World.cell?_spot (hL 0 (by omega)).1
    subst hs
    have ha : ∀ j, Addr.add ⟨b, off, none⟩ j = ⟨b, off + j, none⟩ := by intro j; unfold Addr.add; split <;> simp_all
    simp only [ha] at h0
    exact ⟨b, off, rfl, cell_lt h0.1, by simpa [Nat.add_assoc] using h0⟩

theorem sp_cells_len (s : Sp) : s.cells.length = 4 := rfl
theorem spAt_list (xs : List Sp) {n j : Nat} (hl : xs.length = n) (hj : j < n * 4) : (xs.flatMap Sp.cells).getD j undef = spAt (fun i => xs.getD i Sp.zero) j := by
  have h1 : j / 4 < xs.length := by omega
  have h := flat_get sp_cells_len xs (j / 4) (j % 4) (Nat.mod_lt _ (by omega))
  rw [show j / 4 * 4 + j % 4 = j by omega] at h
  rw [spAt, List.getD_eq_getElem?_getD, h, List.getElem?_eq_getElem h1, List.getD_eq_getElem?_getD, List.getD_eq_getElem?_getD, List.getElem?_eq_getElem h1]
  rfl
theorem OwSp.list {w : World} {base n : Nat} {v : Value} {xs : List Sp} (h : w.ownsRow base 29 4 v n (xs.flatMap Sp.cells)) (hl : xs.length = n) : OwR w base 29 4 v n (spAt fun i => xs.getD i Sp.zero) :=
  (OwR.of_own h).congr fun _ hj => spAt_list xs hl hj
theorem RdSp.own {w : World} {base n c : Nat} {A : Option Addr} {L : Nat → Sp} (h : OwR w base 29 4 (.slice A n c) n (spAt L)) : RdSp w w.heap.size A n L := by
  rcases h with ⟨hv, rfl⟩ | ⟨g, cap, G, hv, hg, hn, hm, hr, hG⟩
  · exact ⟨by omega, fun i hi => by omega⟩
  · injection hv with hv1 _ hv2
    subst hv1 hv2
    unfold maxLen at hm
    refine ⟨by omega, fun i hi => ⟨g, 0, rfl, hr.lt, ?_, ?_, ?_, ?_⟩⟩
    · rw [Nat.zero_add, hr.cell (by omega), hG _ (by omega), spAt0]
    · rw [Nat.zero_add, hr.cell (by omega), hG _ (by omega), spAt1]
    · rw [Nat.zero_add, hr.cell (by omega), hG _ (by omega), spAt2]
    · rw [Nat.zero_add, hr.cell (by omega), hG _ (by omega), spAt3]

/-- The marks from k on. -/
def mkSp (k : Int) (i : Nat) : Sp := ⟨k + 4 * (i : Int), k + 4 * (i : Int) + 1, k + 4 * (i : Int) + 2, (k + 4 * (i : Int) + 3) % 3 == 0⟩
set_option maxHeartbeats 1600000 in
theorem markSpells (w : World) (base : Nat) (A : Option Addr) (n c : Nat) (F : Nat → Value) (k : Int) (h : OwR w base 29 4 (.slice A n c) n F) (hn : n ≤ 1099511627776) (hk : 0 ≤ k) (hk' : k ≤ 1099511627776) :
    Calls Try.prog 35 #[.slice A n c, .int .i64 k] w fun e w' => e = .returned (.int .i64 (k + 4 * n)) ∧ OwR w' base 29 4 (.slice A n c) n (spAt (mkSp k)) ∧ w.grownBy w' (Value.slice A n c).ownBlock := by
  go_enter Try.func35, Try.ntmps35
  go_wp2_with fail
  go_loopw [1, 5] (fun q i wr => ∃ j : Nat, j ≤ n ∧ i = .int .i64 j ∧ q = .int .i64 (k + 4 * (j : Int)) ∧ OwR wr base 29 4 (.slice A n c) n (fun x => if x < j * 4 then spAt (mkSp k) x else F x) ∧ w.grownBy wr (Value.slice A n c).ownBlock) (fun _ i _ => n - (intOf i).toNat)
  case atStart => exact ⟨0, Nat.zero_le _, rfl, by simp, h.congr fun x _ => by simp, grown_refl _ _⟩
  case round =>
    obtain ⟨j, hj, rfl, rfl, ho, hg⟩ := hrel
    by_cases hlt : j < n
    · rcases ho with ⟨_, h0⟩ | ⟨g, cap, G, hv, hgb, hnc, hcm, hr, hG⟩
      · omega
      · injection hv with hv1 _ hv2
        subst hv1 hv2
        have hj4 : j * 4 + 4 ≤ n * 4 := by omega
        have hc4 : n * 4 ≤ c * 4 := Nat.mul_le_mul_right _ hnc
        have c0 := hr.cell (i := j * 4) (by omega)
        have c1 := hr.cell (i := j * 4 + 1) (by omega)
        have c2 := hr.cell (i := j * 4 + 2) (by omega)
        have c3 := hr.cell (i := j * 4 + 3) (by omega)
        have f0 := fun o => hr.frozen o
        have w1 : IntKind.i64.wrap (k + 4 * (j : Int) + 1) = k + 4 * (j : Int) + 1 := IntWalk.i64_in _ ⟨by omega, by omega⟩
        have w2 : IntKind.i64.wrap (k + 4 * (j : Int) + 1 + 1) = k + 4 * (j : Int) + 1 + 1 := IntWalk.i64_in _ ⟨by omega, by omega⟩
        have w3 : IntKind.i64.wrap (k + 4 * (j : Int) + 1 + 1 + 1) = k + 4 * (j : Int) + 1 + 1 + 1 := IntWalk.i64_in _ ⟨by omega, by omega⟩
        have w4 : IntKind.i64.wrap (k + 4 * (j : Int) + 1 + 1 + 1 + 1) = k + 4 * (j : Int) + 1 + 1 + 1 + 1 := IntWalk.i64_in _ ⟨by omega, by omega⟩
        have hmod : (k + 4 * (j : Int) + 1 + 1 + 1).tmod 3 = (k + 4 * (j : Int) + 3) % 3 := by rw [Int.tmod_eq_emod_of_nonneg (by omega)]; congr 1; omega
        have HG := Lib.hid hG
        clear h hG
        go_wp2_with fail
        go_roundw
        case rel =>
          have hg' : w.grownBy wr (some g) := hg
          refine ⟨j + 1, by omega, by go_num, by congr 1; push_cast; omega, ?_, ?_⟩
          case refine_2 =>
            show w.grownBy _ (some g)
            exact grown_setCell (grown_setCell (grown_setCell (grown_setCell (hg') (p := ⟨g, j * 4, none⟩) rfl _) (p := ⟨g, j * 4 + 1, none⟩) rfl _) (p := ⟨g, j * 4 + 2, none⟩) rfl _) (p := ⟨g, j * 4 + 3, none⟩) rfl _
          have hG := HG.out
          refine .inr ⟨g, c, _, rfl, hgb, hnc, hcm, (((hr.set (j * 4) _).set (j * 4 + 1) _).set (j * 4 + 2) _).set (j * 4 + 3) _, fun x hx => ?_⟩
          by_cases e3 : x = j * 4 + 3
          · subst e3
            dsimp only
            rw [if_pos (show j * 4 + 3 < (j + 1) * 4 by omega), spAt3]
            simp [mkSp]
            try omega
          by_cases e2 : x = j * 4 + 2
          · subst e2
            dsimp only
            rw [if_pos (show j * 4 + 2 < (j + 1) * 4 by omega), spAt2]
            simp [mkSp]
            try omega
          by_cases e1 : x = j * 4 + 1
          · subst e1
            dsimp only
            rw [if_pos (show j * 4 + 1 < (j + 1) * 4 by omega), spAt1]
            simp [mkSp]
            try omega
          by_cases e0 : x = j * 4
          · subst e0
            dsimp only
            rw [if_pos (show j * 4 < (j + 1) * 4 by omega), spAt0]
            simp [mkSp]
            try omega
          by_cases e : x < j * 4
          · simp [e0, e1, e2, e3, hG x hx, e, show x < (j + 1) * 4 by omega]
          · simp [e0, e1, e2, e3, hG x hx, e, show ¬ x < (j + 1) * 4 by omega]
        case measure => simp [intOf]; omega
    · obtain rfl : j = n := by omega
      go_wp2_with fail
      go_ret
      exact ⟨rfl, ho.congr fun x hx => by simp [hx], hg⟩

set_option maxHeartbeats 1600000 in
theorem heldSpells (w : World) (A : Option Addr) (n c : Nat) (k : Int) (h : RdSp w w.heap.size A n (mkSp k)) (hn : n ≤ 1099511627776) (hk : 0 ≤ k) (hk' : k ≤ 1099511627776) :
    Calls Try.prog 41 #[.slice A n c, .int .i64 k] w fun e w' => e = .returned (.int .i64 (k + 4 * n)) ∧ w = w' := by
  go_enter Try.func41, Try.ntmps41
  go_wp2_with fail
  go_loop [1, 5] (fun q i => ∃ j : Nat, j ≤ n ∧ i = .int .i64 j ∧ q = .int .i64 (k + 4 * (j : Int))) (fun _ i => n - (intOf i).toNat)
  case atStart => exact ⟨0, Nat.zero_le _, rfl, by simp⟩
  case round =>
    obtain ⟨j, hj, rfl, rfl⟩ := hrel
    by_cases hlt : j < n
    · obtain ⟨b, off, rfl, hbB, h0, h1, h2, h3⟩ := h.2 j hlt
      have c0 : w.cell? ⟨b, off + j * 4, none⟩ = some (.int .i64 (k + 4 * (j : Int))) := h0
      have c1 : w.cell? ⟨b, off + j * 4 + 1, none⟩ = some (.int .i64 (k + 4 * (j : Int) + 1)) := h1
      have c2 : w.cell? ⟨b, off + j * 4 + 2, none⟩ = some (.int .i64 (k + 4 * (j : Int) + 1 + 1)) := h2.trans (by simp only [mkSp]; congr 2; omega)
      have c3 : w.cell? ⟨b, off + j * 4 + 3, none⟩ = some (.bool ((k + 4 * (j : Int) + 3) % 3 == 0)) := h3
      have w1 : IntKind.i64.wrap (k + 4 * (j : Int) + 1) = k + 4 * (j : Int) + 1 := IntWalk.i64_in _ ⟨by omega, by omega⟩
      have w2 : IntKind.i64.wrap (k + 4 * (j : Int) + 1 + 1) = k + 4 * (j : Int) + 1 + 1 := IntWalk.i64_in _ ⟨by omega, by omega⟩
      have w3 : IntKind.i64.wrap (k + 4 * (j : Int) + 1 + 1 + 1) = k + 4 * (j : Int) + 1 + 1 + 1 := IntWalk.i64_in _ ⟨by omega, by omega⟩
      have w4 : IntKind.i64.wrap (k + 4 * (j : Int) + 1 + 1 + 1 + 1) = k + 4 * (j : Int) + 1 + 1 + 1 + 1 := IntWalk.i64_in _ ⟨by omega, by omega⟩
      have hmod : (k + 4 * (j : Int) + 1 + 1 + 1).tmod 3 = (k + 4 * (j : Int) + 3) % 3 := by rw [Int.tmod_eq_emod_of_nonneg (by omega)]; congr 1; omega
      clear h h0 h1 h2 h3
      go_wp2_with fail
      go_round
      case rel => exact ⟨j + 1, by omega, by go_num, by congr 1; push_cast; omega⟩
      case measure => simp [intOf]; omega
    · obtain rfl : j = n := by omega
      go_wp2_with fail
      go_ret
      exact ⟨rfl, rfl⟩
end Go.Proofs.Ytmbmpogdakoloaa
