/- Facts: read, copied, compared. Conditions: the cells can be read. -/
import Derived.Test.YtondmakaednpdaaSpN
import Derived.Test.YtondmakaednpdaaOwR
import Derived.Deep.RegionHeld3
import Derived.Deep.Slices
namespace Go.Proofs.Ytondmakaednpdaa
open Go.RowKit

structure Fa where
  k : Int
  f : Int
  t : Int
  n : Int
  v : Int
/-- As a value. -/
abbrev Fa.val (s : Fa) : Value := .agg #[.int .i64 s.k, .int .i64 s.f, .int .i64 s.t, .int .i64 s.n, .int .i64 s.v]
abbrev Fa.cells (s : Fa) : List Value := [.int .i64 s.k, .int .i64 s.f, .int .i64 s.t, .int .i64 s.n, .int .i64 s.v]
def Fa.zero : Fa := ⟨0, 0, 0, 0, 0⟩

/-- n of them, L, lie at A, in blocks below B. -/
def RdFa (w : World) (B : Nat) (A : Option Addr) (n : Nat) (L : Nat → Fa) : Prop :=
  n ≤ 9223372036854775807 ∧ ∀ i, i < n → ∃ b off, A = some ⟨b, off, none⟩ ∧ b < B ∧ w.cell? ⟨b, off + i * 5, none⟩ = some (.int .i64 (L i).k) ∧ w.cell? ⟨b, off + i * 5 + 1, none⟩ = some (.int .i64 (L i).f) ∧ w.cell? ⟨b, off + i * 5 + 2, none⟩ = some (.int .i64 (L i).t) ∧ w.cell? ⟨b, off + i * 5 + 3, none⟩ = some (.int .i64 (L i).n) ∧ w.cell? ⟨b, off + i * 5 + 4, none⟩ = some (.int .i64 (L i).v)
/-- The cells of a row, in their order. -/
def faAt (L : Nat → Fa) (j : Nat) : Value := (L (j / 5)).cells.getD (j % 5) undef
section
variable {w w' : World} {B n : Nat} {A : Option Addr} {L M : Nat → Fa}
theorem faAt0 (L : Nat → Fa) (i : Nat) : faAt L (i * 5) = .int .i64 (L i).k := by
  rw [faAt, show (i * 5) / 5 = i by omega, show (i * 5) % 5 = 0 by omega]
  rfl
theorem faAt1 (L : Nat → Fa) (i : Nat) : faAt L (i * 5 + 1) = .int .i64 (L i).f := by
  rw [faAt, show (i * 5 + 1) / 5 = i by omega, show (i * 5 + 1) % 5 = 1 by omega]
  rfl
theorem faAt2 (L : Nat → Fa) (i : Nat) : faAt L (i * 5 + 2) = .int .i64 (L i).t := by
  rw [faAt, show (i * 5 + 2) / 5 = i by omega, show (i * 5 + 2) % 5 = 2 by omega]
  rfl
theorem faAt3 (L : Nat → Fa) (i : Nat) : faAt L (i * 5 + 3) = .int .i64 (L i).n := by
  rw [faAt, show (i * 5 + 3) / 5 = i by omega, show (i * 5 + 3) % 5 = 3 by omega]
  rfl
theorem faAt4 (L : Nat → Fa) (i : Nat) : faAt L (i * 5 + 4) = .int .i64 (L i).v := by
  rw [faAt, show (i * 5 + 4) / 5 = i by omega, show (i * 5 + 4) % 5 = 4 by omega]
  rfl
theorem faAt_lt {k j : Nat} (h : ∀ i, i < k → L i = M i) (hj : j < k * 5) : faAt L j = faAt M j := by
  rw [faAt, faAt, h (j / 5) (by omega)]
theorem RdFa.below (h : RdFa w B A n L) (hb : Below B w w') : RdFa w' B A n L :=
  ⟨h.1, fun i hi => by
    obtain ⟨b, off, e, hlt, h0, h1, h2, h3, h4⟩ := h.2 i hi
    have hk := fun o => hb.cell (p := ⟨b, o, none⟩) hlt
    exact ⟨b, off, e, hlt, by rw [hk]; exact h0, by rw [hk]; exact h1, by rw [hk]; exact h2, by rw [hk]; exact h3, by rw [hk]; exact h4⟩⟩
theorem RdFa.more (h : RdFa w B A n L) {B' : Nat} (hB : B ≤ B') : RdFa w B' A n L :=
  ⟨h.1, fun i hi => by
    obtain ⟨b, off, e, hlt, hc⟩ := h.2 i hi
    exact ⟨b, off, e, by omega, hc⟩⟩
theorem RdFa.row {g N : Nat} {ty : TypeId} (h : w.rowIs g ty N (faAt L)) (hB : g < B) (hN : n * 5 ≤ N) (hn : n ≤ 9223372036854775807) : RdFa w B (some ⟨g, 0, none⟩) n L :=
  ⟨hn, fun i hi => ⟨g, 0, rfl, hB, by rw [Nat.zero_add, h.cell (by omega), faAt0], by rw [Nat.zero_add, h.cell (by omega), faAt1], by rw [Nat.zero_add, h.cell (by omega), faAt2], by rw [Nat.zero_add, h.cell (by omega), faAt3], by rw [Nat.zero_add, h.cell (by omega), faAt4]⟩⟩
end

set_option maxHeartbeats 400000 in
theorem toFact_any (s : Fa) (w : World) :
    Calls Try.prog 65 #[s.val] w fun e w' => e = .returned s.val ∧ Below w.heap.size w w' := by
  go_enter Try.func65, Try.ntmps65
  go_wp2
  refine bodyPost_ret (v := s.val) (by simp [results, Try.results65, go_sem]) rfl ⟨rfl, ?_⟩
  (repeat (first | (with_reducible exact Below.refl _ _) | ((with_reducible refine Below.setCell ?_ ?_ _); rotate_left; focus (first | (simp; done) | omega | (simp; omega))) | ((with_reducible refine Below.alloc ?_ ?_ _); rotate_left; focus (first | exact Nat.le_refl _ | omega | (simp; done) | (simp; omega)))))
set_option maxHeartbeats 400000 in
theorem eqFact_any (s : Fa) (w : World) :
    Calls Try.prog 66 #[s.val, s.val] w fun e w' => e = .returned (.bool true) ∧ Below w.heap.size w w' := by
  go_enter Try.func66, Try.ntmps66
  go_wp2
  go_ret
  refine ⟨rfl, ?_⟩
  (repeat (first | (with_reducible exact Below.refl _ _) | ((with_reducible refine Below.setCell ?_ ?_ _); rotate_left; focus (first | (simp; done) | omega | (simp; omega))) | ((with_reducible refine Below.alloc ?_ ?_ _); rotate_left; focus (first | exact Nat.le_refl _ | omega | (simp; done) | (simp; omega)))))

theorem fa_inf : (Try.prog.info? 71).map (fun i => (i.zero, i.size, i.bytes)) = some (some (.agg #[.int .i64 0, .int .i64 0, .int .i64 0, .int .i64 0, .int .i64 0]), 5, 40) := by kernel_rfl
set_option maxHeartbeats 1600000 in
theorem toFacts (w : World) (A : Option Addr) (n c : Nat) (L : Nat → Fa) (h : RdFa w w.heap.size A n L) (hn : n ≤ 1048576) :
    Calls Try.prog 42 #[.slice A n c] w fun e w' => ∃ g : Nat, e = .returned (.slice (some ⟨g, 0, none⟩) n n) ∧ w'.rowIs g 71 (n * 5) (faAt L) ∧ w.heap.size ≤ g ∧ Below w.heap.size w w' := by
  obtain ⟨i0, hi, hz0, hz1, hz2⟩ := info_parts fa_inf
  go_enter Try.func42, Try.ntmps42
  go_wp2_with (refine wpList_make_full _ rfl (.tmp 6) (.tmp 6) 24 rfl w.heap.size 71 i0 (.agg #[.int .i64 0, .int .i64 0, .int .i64 0, .int .i64 0, .int .i64 0]) 5 Try.underlying24 hi hz0 hz1 .i64 .i64 (n : Int) (n : Int) n rfl rfl rfl rfl ?c1 ?c2 (Nat.le_refl _) ?_)
  case c1 => rw [hz2]; omega
  case c2 => unfold maxLen; omega
  intro w1 hown hg1
  obtain ⟨hrow, hg⟩ := row_of_own hown
  obtain ⟨M0, hrow⟩ : ∃ M0, w1.rowIs w.heap.size 71 (n * 5) M0 := ⟨_, hrow⟩
  have hb1 : Below w.heap.size w w1 := (Below.refl _ _).grown hg1 (Nat.le_refl _) (by simp)
  clear hown hg1
  go_wp2_with fail
  go_loopw [4] (fun i wr => ∃ k : Nat, k ≤ n ∧ i = .int .i64 k ∧ wr.rowIs w.heap.size 71 (n * 5) (fun j => if j < k * 5 then faAt L j else M0 j) ∧ Below w.heap.size w wr) (fun i _ => n - (intOf i).toNat)
  case atStart => exact ⟨0, Nat.zero_le _, rfl, hrow.congr fun j _ => by simp, hb1⟩
  case round =>
    obtain ⟨k, hk, rfl, hr, hbr⟩ := hrel
    by_cases hlt : k < n
    · obtain ⟨b, off, rfl, hbB, h0, h1, h2, h3, h4⟩ := h.2 k hlt
      have c0 : wr.cell? ⟨b, off + k * 5, none⟩ = some (.int .i64 (L k).k) := (hbr.cell (p := ⟨b, off + k * 5, none⟩) hbB).trans h0
      have c1 : wr.cell? ⟨b, off + k * 5 + 1, none⟩ = some (.int .i64 (L k).f) := (hbr.cell (p := ⟨b, off + k * 5 + 1, none⟩) hbB).trans h1
      have c2 : wr.cell? ⟨b, off + k * 5 + 2, none⟩ = some (.int .i64 (L k).t) := (hbr.cell (p := ⟨b, off + k * 5 + 2, none⟩) hbB).trans h2
      have c3 : wr.cell? ⟨b, off + k * 5 + 3, none⟩ = some (.int .i64 (L k).n) := (hbr.cell (p := ⟨b, off + k * 5 + 3, none⟩) hbB).trans h3
      have c4 : wr.cell? ⟨b, off + k * 5 + 4, none⟩ = some (.int .i64 (L k).v) := (hbr.cell (p := ⟨b, off + k * 5 + 4, none⟩) hbB).trans h4
      have f0 := fun o => hr.frozen o
      have hlt4 : k * 5 + 5 ≤ n * 5 := by omega
      have hs1 := hr.lt
      go_wp2_with fail
      refine (toFact_any (L k) _).mono ?_
      rintro e w2 ⟨rfl, hb2⟩
      have hr2 := hr.of_block (hb2.block _ hs1)
      have f2 := fun o => hr2.frozen o
      have hbr2 := hbr.trans (hb2.mono hbr.size)
      have d0 := hr2.cell (i := k * 5) (by omega)
      have d1 := hr2.cell (i := k * 5 + 1) (by omega)
      have d2 := hr2.cell (i := k * 5 + 2) (by omega)
      have d3 := hr2.cell (i := k * 5 + 3) (by omega)
      have d4 := hr2.cell (i := k * 5 + 4) (by omega)
      clear f0 hr hbr hb2 c0 h0 c1 h1 c2 h2 c3 h3 c4 h4 hbB
      go_wp2_with fail
      go_roundw
      case rel =>
        refine ⟨k + 1, by omega, by go_num, ?_, ((((hbr2.setCell (Nat.le_refl _) _).setCell (Nat.le_refl _) _).setCell (Nat.le_refl _) _).setCell (Nat.le_refl _) _).setCell (Nat.le_refl _) _⟩
        refine (((((hr2.set (k * 5) _).set (k * 5 + 1) _).set (k * 5 + 2) _).set (k * 5 + 3) _).set (k * 5 + 4) _).congr fun j hj => ?_
        by_cases e4 : j = k * 5 + 4
        · subst e4
          rw [if_pos (show k * 5 + 4 < (k + 1) * 5 by omega), faAt4]
          simp
        by_cases e3 : j = k * 5 + 3
        · subst e3
          rw [if_pos (show k * 5 + 3 < (k + 1) * 5 by omega), faAt3]
          simp
        by_cases e2 : j = k * 5 + 2
        · subst e2
          rw [if_pos (show k * 5 + 2 < (k + 1) * 5 by omega), faAt2]
          simp
        by_cases e1 : j = k * 5 + 1
        · subst e1
          rw [if_pos (show k * 5 + 1 < (k + 1) * 5 by omega), faAt1]
          simp
        by_cases e0 : j = k * 5
        · subst e0
          rw [if_pos (show k * 5 < (k + 1) * 5 by omega), faAt0]
          simp
        by_cases e : j < k * 5
        · simp [e0, e1, e2, e3, e4, e, show j < (k + 1) * 5 by omega]
        · simp [e0, e1, e2, e3, e4, e, show ¬ j < (k + 1) * 5 by omega]
      case measure => simp [intOf]; omega
    · go_wp2_with fail
      go_ret
      exact ⟨w.heap.size, rfl, hr.congr fun j hj => by simp [show j < k * 5 by omega], Nat.le_refl _, hbr⟩

set_option maxHeartbeats 400000 in
theorem szFacts (w : World) (A : Option Addr) (n c : Nat) (hn : n ≤ 9223372036854775807) :
    Calls Try.prog 39 #[.slice A n c, .int .i64 1048576] w fun e w' => e = .returned (.int .i64 (if (1048576 : Int) < n then -1 else 1048576 - n)) ∧ w = w' := by
  by_cases h : (1048576 : Int) < n
  · rw [if_pos h]
    have h1 : IntKind.i64.wrap (1048576 - (n : Int)) = 1048576 - n := IntWalk.i64_in _ ⟨by omega, by omega⟩
    have h2 : (1048576 : Int) - n < 0 := by omega
    go_enter Try.func39, Try.ntmps39
    go_wp2
    go_ret
    exact ⟨rfl, rfl⟩
  · rw [if_neg h]
    have h1 : IntKind.i64.wrap (1048576 - (n : Int)) = 1048576 - n := IntWalk.i64_in _ ⟨by omega, by omega⟩
    have h2 : ¬ (1048576 : Int) - n < 0 := by omega
    go_enter Try.func39, Try.ntmps39
    go_wp2
    go_ret
    exact ⟨rfl, rfl⟩

set_option maxRecDepth 4000 in
set_option maxHeartbeats 1600000 in
theorem eqFacts (w : World) (A A' : Option Addr) (n n' c c' : Nat) (L L' : Nat → Fa) (h : RdFa w w.heap.size A n L) (h' : RdFa w w.heap.size A' n' L') (hs : n = n' ∧ ∀ i, i < n → L i = L' i) :
    Calls Try.prog 43 #[.slice A n c, .slice A' n' c'] w fun e w' => e = .returned (.bool true) ∧ Below w.heap.size w w' := by
  obtain ⟨rfl, hs⟩ := hs
  have hn := h.1
  have HS := Lib.hid hs
  clear hs
  go_enter Try.func43, Try.ntmps43
  go_wp2_with fail
  go_loopw [5] (fun i wr => ∃ k : Nat, k ≤ n ∧ i = .int .i64 k ∧ Below w.heap.size w wr) (fun i _ => n - (intOf i).toNat)
  case atStart => exact ⟨0, Nat.zero_le _, rfl, Below.refl _ _⟩
  case round =>
    obtain ⟨k, hk, rfl, hbr⟩ := hrel
    have hs1 := hbr.size
    by_cases hlt : k < n
    · obtain ⟨b, off, rfl, hbB, h0, h1, h2, h3, h4⟩ := (h.below hbr).2 k hlt
      obtain ⟨b', off', rfl, hbB', h0', h1', h2', h3', h4'⟩ := (h'.below hbr).2 k hlt
      have hz := HS.out k hlt
      rw [← hz] at h0' h1' h2' h3' h4'
      clear hz h h'
      have hlt' : (k : Int) < n := by omega
      have hb1 : b < wr.heap.size := by omega
      have hb2 : b' < wr.heap.size := by omega
      go_wp2_with fail
      go_region_held3 (fun w' => w'.cell? ⟨b, off + k * 5, none⟩ = some (.int .i64 (L k).k) ∧ w'.cell? ⟨b, off + k * 5 + 1, none⟩ = some (.int .i64 (L k).f) ∧ w'.cell? ⟨b, off + k * 5 + 2, none⟩ = some (.int .i64 (L k).t) ∧ w'.cell? ⟨b, off + k * 5 + 3, none⟩ = some (.int .i64 (L k).n) ∧ w'.cell? ⟨b, off + k * 5 + 4, none⟩ = some (.int .i64 (L k).v) ∧ w'.cell? ⟨b', off' + k * 5, none⟩ = some (.int .i64 (L k).k) ∧ w'.cell? ⟨b', off' + k * 5 + 1, none⟩ = some (.int .i64 (L k).f) ∧ w'.cell? ⟨b', off' + k * 5 + 2, none⟩ = some (.int .i64 (L k).t) ∧ w'.cell? ⟨b', off' + k * 5 + 3, none⟩ = some (.int .i64 (L k).n) ∧ w'.cell? ⟨b', off' + k * 5 + 4, none⟩ = some (.int .i64 (L k).v) ∧ b < w'.heap.size ∧ b' < w'.heap.size ∧ Below w.heap.size w w') (first | (with_reducible assumption) | (refine ⟨?_, ?_, ?_, ?_, ?_, ?_, ?_, ?_, ?_, ?_, ?_, ?_, ?_⟩ <;> first | (with_reducible assumption) | omega | (simp [go_sem, *]; done) | (simp [*]; omega) | ((repeat (first | (with_reducible exact Below.refl _ _) | (with_reducible assumption) | (with_reducible refine Below.drew ?_) | (with_reducible refine below_drewN ?_ _) | ((with_reducible refine Below.setCell ?_ ?_ _); rotate_left; focus (first | (simp; done) | omega | (simp; omega))) | ((with_reducible refine Below.alloc ?_ ?_ _); rotate_left; focus (first | exact Nat.le_refl _ | omega | (simp; done) | (simp; omega))))); first | done | (simp [*]; done))))
        (first | (go_at_call 66; refine (eqFact_any (L k) _).mono ?_; rintro e w1 ⟨rfl, hb1⟩; obtain ⟨hc1, hf1⟩ := keepc hb1; have hs1 := hb1.size; have hS1 : ((fun w' => w'.cell? ⟨b, off + k * 5, none⟩ = some (.int .i64 (L k).k) ∧ w'.cell? ⟨b, off + k * 5 + 1, none⟩ = some (.int .i64 (L k).f) ∧ w'.cell? ⟨b, off + k * 5 + 2, none⟩ = some (.int .i64 (L k).t) ∧ w'.cell? ⟨b, off + k * 5 + 3, none⟩ = some (.int .i64 (L k).n) ∧ w'.cell? ⟨b, off + k * 5 + 4, none⟩ = some (.int .i64 (L k).v) ∧ w'.cell? ⟨b', off' + k * 5, none⟩ = some (.int .i64 (L k).k) ∧ w'.cell? ⟨b', off' + k * 5 + 1, none⟩ = some (.int .i64 (L k).f) ∧ w'.cell? ⟨b', off' + k * 5 + 2, none⟩ = some (.int .i64 (L k).t) ∧ w'.cell? ⟨b', off' + k * 5 + 3, none⟩ = some (.int .i64 (L k).n) ∧ w'.cell? ⟨b', off' + k * 5 + 4, none⟩ = some (.int .i64 (L k).v) ∧ b < w'.heap.size ∧ b' < w'.heap.size ∧ Below w.heap.size w w')) w1 := (by refine ⟨?_, ?_, ?_, ?_, ?_, ?_, ?_, ?_, ?_, ?_, ?_, ?_, ?_⟩ <;> first | (rw [hc1 _ _ (by first | omega | (simp [*]; omega) | (simp [*]; done))] <;> simp [go_sem, *]; done) | (first | omega | (simp [*] at hs1; omega)) | (refine Below.trans ?_ (hb1.mono (by first | omega | (simp [*]; done) | (simp [*]; omega))); (repeat (first | (with_reducible exact Below.refl _ _) | (with_reducible assumption) | (with_reducible refine Below.drew ?_) | (with_reducible refine below_drewN ?_ _) | ((with_reducible refine Below.setCell ?_ ?_ _); rotate_left; focus (first | (simp; done) | omega | (simp; omega))) | ((with_reducible refine Below.alloc ?_ ?_ _); rotate_left; focus (first | exact Nat.le_refl _ | omega | (simp; done) | (simp; omega))))); first | done | (simp [*]; done))); clear hb1 hc1 hf1 hs1))
      go_wp2_with fail
      go_roundw
      case rel => exact ⟨k + 1, by omega, by go_num, hS1.2.2.2.2.2.2.2.2.2.2.2.2⟩
      case measure => simp [intOf]; omega
    · go_wp2_with fail
      go_ret
      exact ⟨rfl, hbr⟩

instance : Inhabited Fa := ⟨Fa.zero⟩
set_option maxRecDepth 20000 in
theorem RdFa.arg {H : Type} {enc : TypeId × Value → H} {w : World} {base fuel : Nat} {spare : Nat → Bool} {held : Bool} {A : Option Addr} {len cap : Nat} {x : DataW H × List MemPlace}
    (hf : DataW.trod enc Try.prog w base spare held fuel 37 (Value.slice A len cap).cells.toList = some x) : ∃ L : Nat → Fa, RdFa w w.heap.size A len L := by
  rcases Go.Deep.open_slice Try.underlying37 hf with ⟨hcs, _⟩ | ⟨a, l, c, m, k, D, Pl, hcs, hb, hl, hm, hmm, rfl, hx⟩
  · simp [Value.cells] at hcs
    obtain ⟨rfl, rfl, rfl⟩ := hcs
    exact ⟨fun _ => Fa.zero, by omega, fun i hi => by omega⟩
  · simp [Value.cells] at hcs
    obtain ⟨rfl, rfl, rfl⟩ := hcs
    have hlm : len ≤ m := by rw [hmm]; split <;> omega
    have ce : Try.prog.cellsOf 100 = 5 := by kernel_rfl
    have c_int : Try.prog.cellsOf 3 = 1 := by kernel_rfl
    have each : ∀ i, i < m → ∃ s : Fa, w.cell? (a.add (i * 5)) = some (.int .i64 s.k) ∧ w.cell? (a.add (i * 5 + 1)) = some (.int .i64 s.f) ∧ w.cell? (a.add (i * 5 + 2)) = some (.int .i64 s.t) ∧ w.cell? (a.add (i * 5 + 3)) = some (.int .i64 s.n) ∧ w.cell? (a.add (i * 5 + 4)) = some (.int .i64 s.v) := by
      intro i hi
      obtain ⟨cs', h1, h2⟩ := hx i hi
      rw [ce] at h1
      obtain ⟨_, hlen, hcell⟩ := World.cells?_some h1
      obtain ⟨xs, q, _, _, _, hxl, hg⟩ := DataW.trod_struct Try.underlying100 h2
      match xs, hxl, cs', hlen with
      | [y0, y1, y2, y3, y4], _, [v0, v1, v2, v3, v4], _ =>
        have g0 := hg 0 _ rfl
        simp [c_int] at g0
        obtain ⟨z0, e0, -, -⟩ := DataW.trod_int Try.underlying3 g0
        simp only [List.cons.injEq, and_true] at e0
        subst e0
        have g1 := hg 1 _ rfl
        simp [c_int] at g1
        obtain ⟨z1, e1, -, -⟩ := DataW.trod_int Try.underlying3 g1
        simp only [List.cons.injEq, and_true] at e1
        subst e1
        have g2 := hg 2 _ rfl
        simp [c_int] at g2
        obtain ⟨z2, e2, -, -⟩ := DataW.trod_int Try.underlying3 g2
        simp only [List.cons.injEq, and_true] at e2
        subst e2
        have g3 := hg 3 _ rfl
        simp [c_int] at g3
        obtain ⟨z3, e3, -, -⟩ := DataW.trod_int Try.underlying3 g3
        simp only [List.cons.injEq, and_true] at e3
        subst e3
        have g4 := hg 4 _ rfl
        simp [c_int] at g4
        obtain ⟨z4, e4, -, -⟩ := DataW.trod_int Try.underlying3 g4
        simp only [List.cons.injEq, and_true] at e4
        subst e4
        have k0 := hcell 0 (by omega)
        have k1 := hcell 1 (by omega)
        have k2 := hcell 2 (by omega)
        have k3 := hcell 3 (by omega)
        have k4 := hcell 4 (by omega)
        simp only [Go.Deep.add_add] at k0 k1 k2 k3 k4
        exact ⟨⟨z0, z1, z2, z3, z4⟩, by simpa using k0, by simpa using k1, by simpa using k2, by simpa using k3, by simpa using k4⟩
    obtain ⟨L, hL⟩ := Go.Deep.choose_lt each
    refine ⟨L, by unfold maxLen at hm; omega, fun i hi => ?_⟩
    obtain ⟨b, off, spot⟩ := a
    have h0 := hL i (by omega)
    have hs : spot = none := by simpa [Addr.add] using World.cell?_spot (hL 0 (by omega)).1
    subst hs
    have ha : ∀ j, Addr.add ⟨b, off, none⟩ j = ⟨b, off + j, none⟩ := by intro j; unfold Addr.add; split <;> simp_all
    simp only [ha] at h0
    exact ⟨b, off, rfl, cell_lt h0.1, by simpa [Nat.add_assoc] using h0⟩

theorem fa_cells_len (s : Fa) : s.cells.length = 5 := rfl
theorem faAt_list (xs : List Fa) {n j : Nat} (hl : xs.length = n) (hj : j < n * 5) : (xs.flatMap Fa.cells).getD j undef = faAt (fun i => xs.getD i Fa.zero) j := by
  have h1 : j / 5 < xs.length := by omega
  have h := flat_get fa_cells_len xs (j / 5) (j % 5) (Nat.mod_lt _ (by omega))
  rw [show j / 5 * 5 + j % 5 = j by omega] at h
  rw [faAt, List.getD_eq_getElem?_getD, h, List.getElem?_eq_getElem h1, List.getD_eq_getElem?_getD, List.getD_eq_getElem?_getD, List.getElem?_eq_getElem h1]
  rfl
theorem OwFa.list {w : World} {base n : Nat} {v : Value} {xs : List Fa} (h : w.ownsRow base 71 5 v n (xs.flatMap Fa.cells)) (hl : xs.length = n) : OwR w base 71 5 v n (faAt fun i => xs.getD i Fa.zero) :=
  (OwR.of_own h).congr fun _ hj => faAt_list xs hl hj
theorem RdFa.own {w : World} {base n c : Nat} {A : Option Addr} {L : Nat → Fa} (h : OwR w base 71 5 (.slice A n c) n (faAt L)) : RdFa w w.heap.size A n L := by
  rcases h with ⟨hv, rfl⟩ | ⟨g, cap, G, hv, hg, hn, hm, hr, hG⟩
  · exact ⟨by omega, fun i hi => by omega⟩
  · injection hv with hv1 _ hv2
    subst hv1 hv2
    unfold maxLen at hm
    refine ⟨by omega, fun i hi => ⟨g, 0, rfl, hr.lt, ?_, ?_, ?_, ?_, ?_⟩⟩
    · rw [Nat.zero_add, hr.cell (by omega), hG _ (by omega), faAt0]
    · rw [Nat.zero_add, hr.cell (by omega), hG _ (by omega), faAt1]
    · rw [Nat.zero_add, hr.cell (by omega), hG _ (by omega), faAt2]
    · rw [Nat.zero_add, hr.cell (by omega), hG _ (by omega), faAt3]
    · rw [Nat.zero_add, hr.cell (by omega), hG _ (by omega), faAt4]
theorem fa_flat (L : Nat → Fa) {n j : Nat} (hj : j < n * 5) : (((List.range n).map L).flatMap Fa.cells)[j]? = some (faAt L j) := by
  have h1 : j / 5 < n := by omega
  have h := flat_get fa_cells_len ((List.range n).map L) (j / 5) (j % 5) (Nat.mod_lt _ (by omega))
  rw [show j / 5 * 5 + j % 5 = j by omega] at h
  have h2 : ((L (j / 5)).cells)[j % 5]? = some (faAt L j) := by
    have hl : j % 5 < ((L (j / 5)).cells).length := Nat.mod_lt _ (by omega)
    rw [faAt, List.getD_eq_getElem?_getD, List.getElem?_eq_getElem hl]
    rfl
  rw [h, List.getElem?_map, List.getElem?_range h1]
  exact h2
theorem fa_flat_len (L : Nat → Fa) (n : Nat) : (((List.range n).map L).flatMap Fa.cells).length = n * 5 := by rw [flat_len fa_cells_len]; simp
theorem RdFa.cellAt {w : World} {B b off n j : Nat} {L : Nat → Fa} (h : RdFa w B (some ⟨b, off, none⟩) n L) (hj : j < n * 5) : w.cell? ⟨b, off + j, none⟩ = some (faAt L j) := by
  obtain ⟨b', off', e, _, h0, h1, h2, h3, h4⟩ := h.2 (j / 5) (by omega)
  injection e with e
  injection e with e1 e2
  subst e1 e2
  have hd : j = j / 5 * 5 + j % 5 := by omega
  have hm : j % 5 < 5 := Nat.mod_lt _ (by omega)
  rw [faAt]
  generalize j % 5 = r at hd hm ⊢
  generalize j / 5 = q at hd h0 h1 h2 h3 h4 ⊢
  subst hd
  match r, hm with
  | 0, _ => simpa using h0
  | 1, _ => simpa [Nat.add_assoc] using h1
  | 2, _ => simpa [Nat.add_assoc] using h2
  | 3, _ => simpa [Nat.add_assoc] using h3
  | 4, _ => simpa [Nat.add_assoc] using h4
/-- The cells of a slice that is read, for an append of it. -/
theorem RdFa.news {w : World} {B n : Nat} {ad : Addr} {L : Nat → Fa} (h : RdFa w B (some ad) n L) : ∀ j u, (((List.range n).map L).flatMap Fa.cells)[j]? = some u → w.cell? (ad.add j) = some u := by
  intro j u hj
  have hlt : j < n * 5 := by
    rcases Nat.lt_or_ge j (n * 5) with hh | hh
    · exact hh
    · rw [List.getElem?_eq_none (by rw [fa_flat_len]; exact hh)] at hj
      cases hj
  rw [fa_flat L hlt] at hj
  injection hj with hj
  subst hj
  obtain ⟨b, off, e, _, _⟩ := h.2 (j / 5) (by omega)
  injection e with e
  subst e
  have ha : Addr.add ⟨b, off, none⟩ j = ⟨b, off + j, none⟩ := by unfold Addr.add; split <;> simp_all
  rw [ha]
  exact h.cellAt hlt
theorem fa_one (L : Nat → Fa) (n : Nat) : ∀ u ∈ ((List.range n).map L).flatMap Fa.cells, u.oneCell' = true := by
  intro u hu
  obtain ⟨s, _, hs⟩ := List.mem_flatMap.1 hu
  simp [Fa.cells] at hs
  rcases hs with rfl | rfl | rfl | rfl | rfl <;> rfl

/-- The marks from k on. -/
def mkFa (k : Int) (i : Nat) : Fa := ⟨k + 5 * (i : Int), k + 5 * (i : Int) + 1, k + 5 * (i : Int) + 2, k + 5 * (i : Int) + 3, k + 5 * (i : Int) + 4⟩

end Go.Proofs.Ytondmakaednpdaa
