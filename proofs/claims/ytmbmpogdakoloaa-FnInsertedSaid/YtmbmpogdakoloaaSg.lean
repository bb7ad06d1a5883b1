/- Segments: read, copied, compared. Conditions: the cells can be read. -/
import Derived.Test.YtmbmpogdakoloaaSpN
import Derived.Test.YtmbmpogdakoloaaOwR
import Derived.Deep.RegionHeld3
import Derived.Deep.Slices
namespace Go.Proofs.Ytmbmpogdakoloaa
open Go.RowKit

structure Sg where
  f : Int
  t : Int
  v : Int
/-- As a value. -/
abbrev Sg.val (s : Sg) : Value := .agg #[.int .i64 s.f, .int .i64 s.t, .int .i64 s.v]
abbrev Sg.cells (s : Sg) : List Value := [.int .i64 s.f, .int .i64 s.t, .int .i64 s.v]
def Sg.zero : Sg := ⟨0, 0, 0⟩

/-- n of them, L, lie at A, in blocks below B. -/
def RdSg (w : World) (B : Nat) (A : Option Addr) (n : Nat) (L : Nat → Sg) : Prop :=
  n ≤ 9223372036854775807 ∧ ∀ i, i < n → ∃ b off, A = some ⟨b, off, none⟩ ∧ b < B ∧ w.cell? ⟨b, off + i * 3, none⟩ = some (.int .i64 (L i).f) ∧ w.cell? ⟨b, off + i * 3 + 1, none⟩ = some (.int .i64 (L i).t) ∧ w.cell? ⟨b, off + i * 3 + 2, none⟩ = some (.int .i64 (L i).v)
/-- The cells of a row, in their order. -/
def sgAt (L : Nat → Sg) (j : Nat) : Value := (L (j / 3)).cells.getD (j % 3) undef
section
variable {w w' : World} {B n : Nat} {A : Option Addr} {L M : Nat → Sg}
theorem sgAt0 (L : Nat → Sg) (i : Nat) : sgAt L (i * 3) = .int .i64 (L i).f := by
  rw [sgAt, show (i * 3) / 3 = i by omega, show (i * 3) % 3 = 0 by omega]
  rfl
theorem sgAt1 (L : Nat → Sg) (i : Nat) : sgAt L (i * 3 + 1) = .int .i64 (L i).t := by
  rw [sgAt, show (i * 3 + 1) / 3 = i by omega, show (i * 3 + 1) % 3 = 1 by omega]
  rfl
theorem sgAt2 (L : Nat → Sg) (i : Nat) : sgAt L (i * 3 + 2) = .int .i64 (L i).v := by
  rw [sgAt, show (i * 3 + 2) / 3 = i by omega, show (i * 3 + 2) % 3 = 2 by omega]
  rfl
theorem sgAt_lt {k j : Nat} (h : ∀ i, i < k → L i = M i) (hj : j < k * 3) : sgAt L j = sgAt M j := by
  rw [sgAt, sgAt, h (j / 3) (by omega)]
theorem RdSg.below (h : RdSg w B A n L) (hb : Below B w w') : RdSg w' B A n L :=
  ⟨h.1, fun i hi => by
    obtain ⟨b, off, e, hlt, h0, h1, h2⟩ := h.2 i hi
    have hk := fun o => hb.cell (p := ⟨b, o, none⟩) hlt
    exact ⟨b, off, e, hlt, by rw [hk]; exact h0, by rw [hk]; exact h1, by rw [hk]; exact h2⟩⟩
theorem RdSg.more (h : RdSg w B A n L) {B' : Nat} (hB : B ≤ B') : RdSg w B' A n L :=
  ⟨h.1, fun i hi => by
    obtain ⟨b, off, e, hlt, hc⟩ := h.2 i hi
    exact ⟨b, off, e, by omega, hc⟩⟩
theorem RdSg.row {g N : Nat} {ty : TypeId} (h : w.rowIs g ty N (sgAt L)) (hB : g < B) (hN : n * 3 ≤ N) (hn : n ≤ 9223372036854775807) : RdSg w B (some ⟨g, 0, none⟩) n L :=
  ⟨hn, fun i hi => ⟨g, 0, rfl, hB, by rw [Nat.zero_add, h.cell (by omega), sgAt0], by rw [Nat.zero_add, h.cell (by omega), sgAt1], by rw [Nat.zero_add, h.cell (by omega), sgAt2]⟩⟩
end

set_option maxHeartbeats 400000 in
theorem eqSegment_any (s : Sg) (w : World) :
    Calls Try.prog 56 #[s.val, s.val] w fun e w' => e = .returned (.bool true) ∧ Below w.heap.size w w' := by
  go_enter Try.func56, Try.ntmps56
  go_wp2
  go_ret
  refine ⟨rfl, ?_⟩
  (repeat (first | (with_reducible exact Below.refl _ _) | ((with_reducible refine Below.setCell ?_ ?_ _); rotate_left; focus (first | (simp; done) | omega | (simp; omega))) | ((with_reducible refine Below.alloc ?_ ?_ _); rotate_left; focus (first | exact Nat.le_refl _ | omega | (simp; done) | (simp; omega)))))

theorem sg_inf : (Try.prog.info? 31).map (fun i => (i.zero, i.size, i.bytes)) = some (some (.agg #[.int .i64 0, .int .i64 0, .int .i64 0]), 3, 24) := by kernel_rfl


set_option maxHeartbeats 1600000 in
theorem eqSegments (w : World) (A A' : Option Addr) (n n' c c' : Nat) (L L' : Nat → Sg) (h : RdSg w w.heap.size A n L) (h' : RdSg w w.heap.size A' n' L') (hs : n = n' ∧ ∀ i, i < n → L i = L' i) :
    Calls Try.prog 34 #[.slice A n c, .slice A' n' c'] w fun e w' => e = .returned (.bool true) ∧ Below w.heap.size w w' := by
  obtain ⟨rfl, hs⟩ := hs
  have hn := h.1
  have HS := Lib.hid hs
  clear hs
  go_enter Try.func34, Try.ntmps34
  go_wp2_with fail
  go_loopw [5] (fun i wr => ∃ k : Nat, k ≤ n ∧ i = .int .i64 k ∧ Below w.heap.size w wr) (fun i _ => n - (intOf i).toNat)
  case atStart => exact ⟨0, Nat.zero_le _, rfl, Below.refl _ _⟩
  case round =>
    obtain ⟨k, hk, rfl, hbr⟩ := hrel
    have hs1 := hbr.size
    by_cases hlt : k < n
    · obtain ⟨b, off, rfl, hbB, h0, h1, h2⟩ := (h.below hbr).2 k hlt
      obtain ⟨b', off', rfl, hbB', h0', h1', h2'⟩ := (h'.below hbr).2 k hlt
      have hz := HS.out k hlt
      rw [← hz] at h0' h1' h2'
      clear hz h h'
      have hlt' : (k : Int) < n := by omega
      have hb1 : b < wr.heap.size := by omega
      have hb2 : b' < wr.heap.size := by omega
      go_wp2_with fail
      go_region_held3 (fun w' => w'.cell? ⟨b, off + k * 3, none⟩ = some (.int .i64 (L k).f) ∧ w'.cell? ⟨b, off + k * 3 + 1, none⟩ = some (.int .i64 (L k).t) ∧ w'.cell? ⟨b, off + k * 3 + 2, none⟩ = some (.int .i64 (L k).v) ∧ w'.cell? ⟨b', off' + k * 3, none⟩ = some (.int .i64 (L k).f) ∧ w'.cell? ⟨b', off' + k * 3 + 1, none⟩ = some (.int .i64 (L k).t) ∧ w'.cell? ⟨b', off' + k * 3 + 2, none⟩ = some (.int .i64 (L k).v) ∧ b < w'.heap.size ∧ b' < w'.heap.size ∧ Below w.heap.size w w') (first | (with_reducible assumption) | (refine ⟨?_, ?_, ?_, ?_, ?_, ?_, ?_, ?_, ?_⟩ <;> first | (with_reducible assumption) | omega | (simp [go_sem, *]; done) | (simp [*]; omega) | ((repeat (first | (with_reducible exact Below.refl _ _) | (with_reducible assumption) | (with_reducible refine Below.drew ?_) | (with_reducible refine below_drewN ?_ _) | ((with_reducible refine Below.setCell ?_ ?_ _); rotate_left; focus (first | (simp; done) | omega | (simp; omega))) | ((with_reducible refine Below.alloc ?_ ?_ _); rotate_left; focus (first | exact Nat.le_refl _ | omega | (simp; done) | (simp; omega))))); first | done | (simp [*]; done))))
        (first | (go_at_call 56; refine (eqSegment_any (L k) _).mono ?_; rintro e w1 ⟨rfl, hb1⟩; obtain ⟨hc1, hf1⟩ := keepc hb1; have hs1 := hb1.size; have hS1 : ((fun w' => w'.cell? ⟨b, off + k * 3, none⟩ = some (.int .i64 (L k).f) ∧ w'.cell? ⟨b, off + k * 3 + 1, none⟩ = some (.int .i64 (L k).t) ∧ w'.cell? ⟨b, off + k * 3 + 2, none⟩ = some (.int .i64 (L k).v) ∧ w'.cell? ⟨b', off' + k * 3, none⟩ = some (.int .i64 (L k).f) ∧ w'.cell? ⟨b', off' + k * 3 + 1, none⟩ = some (.int .i64 (L k).t) ∧ w'.cell? ⟨b', off' + k * 3 + 2, none⟩ = some (.int .i64 (L k).v) ∧ b < w'.heap.size ∧ b' < w'.heap.size ∧ Below w.heap.size w w')) w1 := (by refine ⟨?_, ?_, ?_, ?_, ?_, ?_, ?_, ?_, ?_⟩ <;> first | (rw [hc1 _ _ (by first | omega | (simp [*]; omega) | (simp [*]; done))] <;> simp [go_sem, *]; done) | (first | omega | (simp [*] at hs1; omega)) | (refine Below.trans ?_ (hb1.mono (by first | omega | (simp [*]; done) | (simp [*]; omega))); (repeat (first | (with_reducible exact Below.refl _ _) | (with_reducible assumption) | (with_reducible refine Below.drew ?_) | (with_reducible refine below_drewN ?_ _) | ((with_reducible refine Below.setCell ?_ ?_ _); rotate_left; focus (first | (simp; done) | omega | (simp; omega))) | ((with_reducible refine Below.alloc ?_ ?_ _); rotate_left; focus (first | exact Nat.le_refl _ | omega | (simp; done) | (simp; omega))))); first | done | (simp [*]; done))); clear hb1 hc1 hf1 hs1))
      go_wp2_with fail
      go_roundw
      case rel => exact ⟨k + 1, by omega, by go_num, hS1.2.2.2.2.2.2.2.2⟩
      case measure => simp [intOf]; omega
    · go_wp2_with fail
      go_ret
      exact ⟨rfl, hbr⟩


theorem sg_cells_len (s : Sg) : s.cells.length = 3 := rfl
theorem sgAt_list (xs : List Sg) {n j : Nat} (hl : xs.length = n) (hj : j < n * 3) : (xs.flatMap Sg.cells).getD j undef = sgAt (fun i => xs.getD i Sg.zero) j := by
  have h1 : j / 3 < xs.length := by omega
  have h := flat_get sg_cells_len xs (j / 3) (j % 3) (Nat.mod_lt _ (by omega))
  rw [show j / 3 * 3 + j % 3 = j by omega] at h
  rw [sgAt, List.getD_eq_getElem?_getD, h, List.getElem?_eq_getElem h1, List.getD_eq_getElem?_getD, List.getD_eq_getElem?_getD, List.getElem?_eq_getElem h1]
  rfl
theorem OwSg.list {w : World} {base n : Nat} {v : Value} {xs : List Sg} (h : w.ownsRow base 31 3 v n (xs.flatMap Sg.cells)) (hl : xs.length = n) : OwR w base 31 3 v n (sgAt fun i => xs.getD i Sg.zero) :=
  (OwR.of_own h).congr fun _ hj => sgAt_list xs hl hj
theorem RdSg.own {w : World} {base n c : Nat} {A : Option Addr} {L : Nat → Sg} (h : OwR w base 31 3 (.slice A n c) n (sgAt L)) : RdSg w w.heap.size A n L := by
  rcases h with ⟨hv, rfl⟩ | ⟨g, cap, G, hv, hg, hn, hm, hr, hG⟩
  · exact ⟨by omega, fun i hi => by omega⟩
  · injection hv with hv1 _ hv2
    subst hv1 hv2
    unfold maxLen at hm
    refine ⟨by omega, fun i hi => ⟨g, 0, rfl, hr.lt, ?_, ?_, ?_⟩⟩
    · rw [Nat.zero_add, hr.cell (by omega), hG _ (by omega), sgAt0]
    · rw [Nat.zero_add, hr.cell (by omega), hG _ (by omega), sgAt1]
    · rw [Nat.zero_add, hr.cell (by omega), hG _ (by omega), sgAt2]

/-- The marks from k on. -/
def mkSg (k : Int) (i : Nat) : Sg := ⟨k + 3 * (i : Int), k + 3 * (i : Int) + 1, k + 3 * (i : Int) + 2⟩
set_option maxHeartbeats 1600000 in
theorem markSegments (w : World) (base : Nat) (A : Option Addr) (n c : Nat) (F : Nat → Value) (k : Int) (h : OwR w base 31 3 (.slice A n c) n F) (hn : n ≤ 1099511627776) (hk : 0 ≤ k) (hk' : k ≤ 1099511627776) :
    Calls Try.prog 36 #[.slice A n c, .int .i64 k] w fun e w' => e = .returned (.int .i64 (k + 3 * n)) ∧ OwR w' base 31 3 (.slice A n c) n (sgAt (mkSg k)) ∧ w.grownBy w' (Value.slice A n c).ownBlock := by
  go_enter Try.func36, Try.ntmps36
  go_wp2_with fail
  go_loopw [1, 5] (fun q i wr => ∃ j : Nat, j ≤ n ∧ i = .int .i64 j ∧ q = .int .i64 (k + 3 * (j : Int)) ∧ OwR wr base 31 3 (.slice A n c) n (fun x => if x < j * 3 then sgAt (mkSg k) x else F x) ∧ w.grownBy wr (Value.slice A n c).ownBlock) (fun _ i _ => n - (intOf i).toNat)
  case atStart => exact ⟨0, Nat.zero_le _, rfl, by simp, h.congr fun x _ => by simp, grown_refl _ _⟩
  case round =>
    obtain ⟨j, hj, rfl, rfl, ho, hg⟩ := hrel
    by_cases hlt : j < n
    · rcases ho with ⟨_, h0⟩ | ⟨g, cap, G, hv, hgb, hnc, hcm, hr, hG⟩
      · omega
      · injection hv with hv1 _ hv2
        subst hv1 hv2
        have hj4 : j * 3 + 3 ≤ n * 3 := by omega
        have hc4 : n * 3 ≤ c * 3 := Nat.mul_le_mul_right _ hnc
        have c0 := hr.cell (i := j * 3) (by omega)
        have c1 := hr.cell (i := j * 3 + 1) (by omega)
        have c2 := hr.cell (i := j * 3 + 2) (by omega)
        have f0 := fun o => hr.frozen o
        have w1 : IntKind.i64.wrap (k + 3 * (j : Int) + 1) = k + 3 * (j : Int) + 1 := IntWalk.i64_in _ ⟨by omega, by omega⟩
        have w2 : IntKind.i64.wrap (k + 3 * (j : Int) + 1 + 1) = k + 3 * (j : Int) + 1 + 1 := IntWalk.i64_in _ ⟨by omega, by omega⟩
        have w3 : IntKind.i64.wrap (k + 3 * (j : Int) + 1 + 1 + 1) = k + 3 * (j : Int) + 1 + 1 + 1 := IntWalk.i64_in _ ⟨by omega, by omega⟩
        -- have hmod : (k + 3 * (j : Int) + 1 + 1).tmod 3 = (k + 3 * (j : Int) + 2) % 3 := by rw [Int.tmod_eq_emod_of_nonneg (by omega)]; congr 1; omega
        have HG := Lib.hid hG
        clear h hG
        go_wp2_with fail
        go_roundw
        case rel =>
          have hg' : w.grownBy wr (some g) := hg
          refine ⟨j + 1, by omega, by go_num, by congr 1; push_cast; omega, ?_, ?_⟩
          case refine_2 =>
            show w.grownBy _ (some g)
            exact grown_setCell (grown_setCell (grown_setCell (hg') (p := ⟨g, j * 3, none⟩) rfl _) (p := ⟨g, j * 3 + 1, none⟩) rfl _) (p := ⟨g, j * 3 + 2, none⟩) rfl _
          have hG := HG.out
          refine .inr ⟨g, c, _, rfl, hgb, hnc, hcm, ((hr.set (j * 3) _).set (j * 3 + 1) _).set (j * 3 + 2) _, fun x hx => ?_⟩
          by_cases e2 : x = j * 3 + 2
          · subst e2
            dsimp only
            rw [if_pos (show j * 3 + 2 < (j + 1) * 3 by omega), sgAt2]
            simp [mkSg]
            try omega
          by_cases e1 : x = j * 3 + 1
          · subst e1
            dsimp only
            rw [if_pos (show j * 3 + 1 < (j + 1) * 3 by omega), sgAt1]
            simp [mkSg]
            try omega
          by_cases e0 : x = j * 3
          · subst e0
            dsimp only
            rw [if_pos (show j * 3 < (j + 1) * 3 by omega), sgAt0]
            simp [mkSg]
            try omega
          by_cases e : x < j * 3
          · simp [e0, e1, e2, hG x hx, e, show x < (j + 1) * 3 by omega]
          · simp [e0, e1, e2, hG x hx, e, show ¬ x < (j + 1) * 3 by omega]
        case measure => simp [intOf]; omega
    · obtain rfl : j = n := by omega
      go_wp2_with fail
      go_ret
      exact ⟨rfl, ho.congr fun x hx => by simp [hx], hg⟩

set_option maxHeartbeats 1600000 in
theorem heldSegments (w : World) (A : Option Addr) (n c : Nat) (k : Int) (h : RdSg w w.heap.size A n (mkSg k)) (hn : n ≤ 1099511627776) (hk : 0 ≤ k) (hk' : k ≤ 1099511627776) :
    Calls Try.prog 37 #[.slice A n c, .int .i64 k] w fun e w' => e = .returned (.int .i64 (k + 3 * n)) ∧ w = w' := by
  go_enter Try.func37, Try.ntmps37
  go_wp2_with fail
  go_loop [1, 5] (fun q i => ∃ j : Nat, j ≤ n ∧ i = .int .i64 j ∧ q = .int .i64 (k + 3 * (j : Int))) (fun _ i => n - (intOf i).toNat)
  case atStart => exact ⟨0, Nat.zero_le _, rfl, by simp⟩
  case round =>
    obtain ⟨j, hj, rfl, rfl⟩ := hrel
    by_cases hlt : j < n
    · obtain ⟨b, off, rfl, hbB, h0, h1, h2⟩ := h.2 j hlt
      have c0 : w.cell? ⟨b, off + j * 3, none⟩ = some (.int .i64 (k + 3 * (j : Int))) := h0
      have c1 : w.cell? ⟨b, off + j * 3 + 1, none⟩ = some (.int .i64 (k + 3 * (j : Int) + 1)) := h1
      have c2 : w.cell? ⟨b, off + j * 3 + 2, none⟩ = some (.int .i64 (k + 3 * (j : Int) + 1 + 1)) := h2.trans (by simp only [mkSg]; congr 2; omega)
      have w1 : IntKind.i64.wrap (k + 3 * (j : Int) + 1) = k + 3 * (j : Int) + 1 := IntWalk.i64_in _ ⟨by omega, by omega⟩
      have w2 : IntKind.i64.wrap (k + 3 * (j : Int) + 1 + 1) = k + 3 * (j : Int) + 1 + 1 := IntWalk.i64_in _ ⟨by omega, by omega⟩
      have w3 : IntKind.i64.wrap (k + 3 * (j : Int) + 1 + 1 + 1) = k + 3 * (j : Int) + 1 + 1 + 1 := IntWalk.i64_in _ ⟨by omega, by omega⟩
      -- have hmod : (k + 3 * (j : Int) + 1 + 1).tmod 3 = (k + 3 * (j : Int) + 2) % 3 := by rw [Int.tmod_eq_emod_of_nonneg (by omega)]; congr 1; omega
      clear h h0 h1 h2
      go_wp2_with fail
      go_round
      case rel => exact ⟨j + 1, by omega, by go_num, by congr 1; push_cast; omega⟩
      case measure => simp [intOf]; omega
    · obtain rfl : j = n := by omega
      go_wp2_with fail
      go_ret
      exact ⟨rfl, rfl⟩
end Go.Proofs.Ytmbmpogdakoloaa
