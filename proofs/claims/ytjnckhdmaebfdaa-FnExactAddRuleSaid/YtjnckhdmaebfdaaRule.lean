/- Rules: weighed, copied, compared. Conditions: the nodes can be read. -/
import Derived.Test.YtjnckhdmaebfdaaFormOk
namespace Go.Proofs.Ytjnckhdmaebfdaa
open Go.RowKit

structure Ru where
  nm : Int
  fr : Int
  to : Int
  jo : Int
  ra : Int
  mo : Int
def Ru.zero : Ru := ⟨0, 0, 0, 0, 0, 0⟩

set_option maxHeartbeats 400000 in
theorem szNodesFrom (w : World) (A : Option Addr) (n c : Nat) (z : Int) (hn : n ≤ 9223372036854775807) (hz : 0 ≤ z ∧ z ≤ 1048576) :
    Calls Try.prog 50 #[.slice A n c, .int .i64 z] w fun e w' => e = .returned (.int .i64 (if z < (n : Int) then -1 else z - n)) ∧ w = w' := by
  by_cases h : z < (n : Int)
  · rw [if_pos h]
    have h1 : IntKind.i64.wrap (z - (n : Int)) = z - n := IntWalk.i64_in _ ⟨by omega, by omega⟩
    have h2 : z - (n : Int) < 0 := by omega
    go_enter Try.func50, Try.ntmps50
    go_wp2
    go_ret
    exact ⟨rfl, rfl⟩
  · rw [if_neg h]
    have h1 : IntKind.i64.wrap (z - (n : Int)) = z - n := IntWalk.i64_in _ ⟨by omega, by omega⟩
    have h2 : ¬ z - (n : Int) < 0 := by omega
    go_enter Try.func50, Try.ntmps50
    go_wp2
    go_ret
    exact ⟨rfl, rfl⟩

set_option maxHeartbeats 400000 in
theorem szRuleFrom (w : World) (s : Ru) (A : Option Addr) (n c : Nat) (z : Int) (hn : n ≤ 9223372036854775807) (hz : 0 ≤ z ∧ z ≤ 1048576) :
    Calls Try.prog 15 #[.agg #[.int .i64 s.nm, .int .i64 s.fr, .int .i64 s.to, .int .i64 s.jo, .int .i64 s.ra, .int .i64 s.mo, .slice A n c], .int .i64 z] w fun e w' => e = .returned (.int .i64 (if z < (n : Int) then -1 else z - n)) ∧ Below w.heap.size w w' := by
  by_cases h : z < (n : Int)
  · have h2 := szNodesFrom (w.alloc (.cells #[.int .i64 s.nm, .int .i64 s.fr, .int .i64 s.to, .int .i64 s.jo, .int .i64 s.ra, .int .i64 s.mo, .slice A n c] 24)) A n c z hn hz
    rw [if_pos h] at h2 ⊢
    go_enter Try.func15, Try.ntmps15
    go_wp2_with fail
    refine h2.mono ?_
    rintro e w' ⟨rfl, rfl⟩
    go_wp2_with fail
    go_ret
    exact ⟨rfl, (by (repeat (first | (with_reducible exact Below.refl _ _) | (with_reducible assumption) | (with_reducible refine Below.drew ?_) | (with_reducible refine below_drewN ?_ _) | ((with_reducible refine Below.setCell ?_ ?_ _); rotate_left; focus (first | (simp; done) | omega | (simp; omega))) | ((with_reducible refine Below.alloc ?_ ?_ _); rotate_left; focus (first | exact Nat.le_refl _ | omega | (simp; done) | (simp; omega))))))⟩
  · have h2 := szNodesFrom (w.alloc (.cells #[.int .i64 s.nm, .int .i64 s.fr, .int .i64 s.to, .int .i64 s.jo, .int .i64 s.ra, .int .i64 s.mo, .slice A n c] 24)) A n c z hn hz
    rw [if_neg h] at h2 ⊢
    have h3 : ¬ z - (n : Int) < 0 := by omega
    go_enter Try.func15, Try.ntmps15
    go_wp2_with fail
    refine h2.mono ?_
    rintro e w' ⟨rfl, rfl⟩
    go_wp2_with fail
    go_ret
    exact ⟨rfl, (by (repeat (first | (with_reducible exact Below.refl _ _) | (with_reducible assumption) | (with_reducible refine Below.drew ?_) | (with_reducible refine below_drewN ?_ _) | ((with_reducible refine Below.setCell ?_ ?_ _); rotate_left; focus (first | (simp; done) | omega | (simp; omega))) | ((with_reducible refine Below.alloc ?_ ?_ _); rotate_left; focus (first | exact Nat.le_refl _ | omega | (simp; done) | (simp; omega))))))⟩

set_option maxRecDepth 8000 in
set_option maxHeartbeats 1600000 in
theorem toRule_any (w : World) (s : Ru) (A : Option Addr) (n c : Nat) (N : Nat → No) (h : RdNo w w.heap.size A n N) (hn : n ≤ 1048576) :
    Calls Try.prog 17 #[.agg #[.int .i64 s.nm, .int .i64 s.fr, .int .i64 s.to, .int .i64 s.jo, .int .i64 s.ra, .int .i64 s.mo, .slice A n c]] w fun e w' => ∃ g : Nat, e = .returned (.agg #[.int .i64 s.nm, .int .i64 s.fr, .int .i64 s.to, .int .i64 s.jo, .int .i64 s.ra, .int .i64 s.mo, .slice (some ⟨g, 0, none⟩) n n]) ∧ w'.rowIs g 65 (n * 6) (noAt N) ∧ w.heap.size ≤ g ∧ Below w.heap.size w w' := by
  go_enter Try.func17, Try.ntmps17
  go_wp2_with fail
  refine (toNodes _ A n c N ((h.below (by (repeat (first | (with_reducible exact Below.refl _ _) | (with_reducible assumption) | (with_reducible refine Below.drew ?_) | (with_reducible refine below_drewN ?_ _) | ((with_reducible refine Below.setCell ?_ ?_ _); rotate_left; focus (first | (simp; done) | omega | (simp; omega))) | ((with_reducible refine Below.alloc ?_ ?_ _); rotate_left; focus (first | exact Nat.le_refl _ | omega | (simp; done) | (simp; omega))))))).more (by simp; omega)) hn).mono ?_
  rintro e w1 ⟨g, rfl, row, low, hb1⟩
  obtain ⟨hc1, hf1⟩ := keepc hb1
  have hlow : w.heap.size + 1 + 1 + 1 ≤ g := by simpa using low
  have c20 : w1.cell? ⟨w.heap.size + 1 + 1, 0, none⟩ = some (.int .i64 s.nm) := by rw [hc1 _ _ (by simp; try omega)]; simp [go_sem]
  have c21 : w1.cell? ⟨w.heap.size + 1 + 1, 1, none⟩ = some (.int .i64 s.fr) := by rw [hc1 _ _ (by simp; try omega)]; simp [go_sem]
  have c22 : w1.cell? ⟨w.heap.size + 1 + 1, 2, none⟩ = some (.int .i64 s.to) := by rw [hc1 _ _ (by simp; try omega)]; simp [go_sem]
  have c23 : w1.cell? ⟨w.heap.size + 1 + 1, 3, none⟩ = some (.int .i64 s.jo) := by rw [hc1 _ _ (by simp; try omega)]; simp [go_sem]
  have c24 : w1.cell? ⟨w.heap.size + 1 + 1, 4, none⟩ = some (.int .i64 s.ra) := by rw [hc1 _ _ (by simp; try omega)]; simp [go_sem]
  have c25 : w1.cell? ⟨w.heap.size + 1 + 1, 5, none⟩ = some (.int .i64 s.mo) := by rw [hc1 _ _ (by simp; try omega)]; simp [go_sem]
  have c26 : w1.cell? ⟨w.heap.size + 1 + 1, 6, none⟩ = some (.slice none 0 0) := by rw [hc1 _ _ (by simp; try omega)]; simp [go_sem]
  have f26 : w1.frozen? ⟨w.heap.size + 1 + 1, 6, none⟩ = false := by rw [hf1 _ _ (by simp; try omega)]; simp [go_sem]
  have c10 : w1.cell? ⟨w.heap.size + 1, 0, none⟩ = some ((.int .i64 0)) := by rw [hc1 _ _ (by simp; try omega)]; simp [go_sem]
  have f10 : w1.frozen? ⟨w.heap.size + 1, 0, none⟩ = false := by rw [hf1 _ _ (by simp; try omega)]; simp [go_sem]
  have c11 : w1.cell? ⟨w.heap.size + 1, 1, none⟩ = some ((.int .i64 0)) := by rw [hc1 _ _ (by simp; try omega)]; simp [go_sem]
  have f11 : w1.frozen? ⟨w.heap.size + 1, 1, none⟩ = false := by rw [hf1 _ _ (by simp; try omega)]; simp [go_sem]
  have c12 : w1.cell? ⟨w.heap.size + 1, 2, none⟩ = some ((.int .i64 0)) := by rw [hc1 _ _ (by simp; try omega)]; simp [go_sem]
  have f12 : w1.frozen? ⟨w.heap.size + 1, 2, none⟩ = false := by rw [hf1 _ _ (by simp; try omega)]; simp [go_sem]
  have c13 : w1.cell? ⟨w.heap.size + 1, 3, none⟩ = some ((.int .i64 0)) := by rw [hc1 _ _ (by simp; try omega)]; simp [go_sem]
  have f13 : w1.frozen? ⟨w.heap.size + 1, 3, none⟩ = false := by rw [hf1 _ _ (by simp; try omega)]; simp [go_sem]
  have c14 : w1.cell? ⟨w.heap.size + 1, 4, none⟩ = some ((.int .i64 0)) := by rw [hc1 _ _ (by simp; try omega)]; simp [go_sem]
  have f14 : w1.frozen? ⟨w.heap.size + 1, 4, none⟩ = false := by rw [hf1 _ _ (by simp; try omega)]; simp [go_sem]
  have c15 : w1.cell? ⟨w.heap.size + 1, 5, none⟩ = some ((.int .i64 0)) := by rw [hc1 _ _ (by simp; try omega)]; simp [go_sem]
  have f15 : w1.frozen? ⟨w.heap.size + 1, 5, none⟩ = false := by rw [hf1 _ _ (by simp; try omega)]; simp [go_sem]
  have c16 : w1.cell? ⟨w.heap.size + 1, 6, none⟩ = some ((.slice none 0 0)) := by rw [hc1 _ _ (by simp; try omega)]; simp [go_sem]
  have f16 : w1.frozen? ⟨w.heap.size + 1, 6, none⟩ = false := by rw [hf1 _ _ (by simp; try omega)]; simp [go_sem]
  have hB1 : Below w.heap.size w w1 := by refine Below.trans ?_ (hb1.mono (by simp; try omega)); (repeat (first | (with_reducible exact Below.refl _ _) | (with_reducible assumption) | (with_reducible refine Below.drew ?_) | (with_reducible refine below_drewN ?_ _) | ((with_reducible refine Below.setCell ?_ ?_ _); rotate_left; focus (first | (simp; done) | omega | (simp; omega))) | ((with_reducible refine Below.alloc ?_ ?_ _); rotate_left; focus (first | exact Nat.le_refl _ | omega | (simp; done) | (simp; omega)))))
  clear hc1 hf1 hb1
  go_wp2_with fail
  refine bodyPost_ret (v := .agg #[.int .i64 s.nm, .int .i64 s.fr, .int .i64 s.to, .int .i64 s.jo, .int .i64 s.ra, .int .i64 s.mo, .slice (some ⟨g, 0, none⟩) n n]) (by simp [results, Try.results17, go_sem, *]) rfl ⟨g, rfl, ?_, by omega, (by (repeat (first | (with_reducible exact Below.refl _ _) | (with_reducible assumption) | (with_reducible refine Below.drew ?_) | (with_reducible refine below_drewN ?_ _) | ((with_reducible refine Below.setCell ?_ ?_ _); rotate_left; focus (first | (simp; done) | omega | (simp; omega))) | ((with_reducible refine Below.alloc ?_ ?_ _); rotate_left; focus (first | exact Nat.le_refl _ | omega | (simp; done) | (simp; omega))))))⟩
  repeat (first | (with_reducible exact row) | (with_reducible refine World.rowIs.setOther ?_ ?_ _; rotate_left; focus (first | (simp; done) | (simp; omega))))
set_option maxRecDepth 8000 in
set_option maxHeartbeats 1600000 in
theorem eqRule_any (w : World) (s : Ru) (A A' : Option Addr) (n c c' : Nat) (N : Nat → No) (h : RdNo w w.heap.size A n N) (h' : RdNo w w.heap.size A' n N) :
    Calls Try.prog 19 #[.agg #[.int .i64 s.nm, .int .i64 s.fr, .int .i64 s.to, .int .i64 s.jo, .int .i64 s.ra, .int .i64 s.mo, .slice A n c], .agg #[.int .i64 s.nm, .int .i64 s.fr, .int .i64 s.to, .int .i64 s.jo, .int .i64 s.ra, .int .i64 s.mo, .slice A' n c']] w fun e w' => e = .returned (.bool true) ∧ Below w.heap.size w w' := by
  go_enter Try.func19, Try.ntmps19
  go_wp2_with fail
  refine (eqNodes _ A A' n n c c' N N ((h.below (by (repeat (first | (with_reducible exact Below.refl _ _) | (with_reducible assumption) | (with_reducible refine Below.drew ?_) | (with_reducible refine below_drewN ?_ _) | ((with_reducible refine Below.setCell ?_ ?_ _); rotate_left; focus (first | (simp; done) | omega | (simp; omega))) | ((with_reducible refine Below.alloc ?_ ?_ _); rotate_left; focus (first | exact Nat.le_refl _ | omega | (simp; done) | (simp; omega))))))).more (by simp; omega)) ((h'.below (by (repeat (first | (with_reducible exact Below.refl _ _) | (with_reducible assumption) | (with_reducible refine Below.drew ?_) | (with_reducible refine below_drewN ?_ _) | ((with_reducible refine Below.setCell ?_ ?_ _); rotate_left; focus (first | (simp; done) | omega | (simp; omega))) | ((with_reducible refine Below.alloc ?_ ?_ _); rotate_left; focus (first | exact Nat.le_refl _ | omega | (simp; done) | (simp; omega))))))).more (by simp; omega)) ⟨rfl, fun _ _ => rfl⟩).mono ?_
  rintro e w1 ⟨rfl, hb1⟩
  go_wp2_with fail
  go_ret
  refine ⟨rfl, Below.trans ?_ (hb1.mono (by simp; try omega))⟩
  (repeat (first | (with_reducible exact Below.refl _ _) | (with_reducible assumption) | (with_reducible refine Below.drew ?_) | (with_reducible refine below_drewN ?_ _) | ((with_reducible refine Below.setCell ?_ ?_ _); rotate_left; focus (first | (simp; done) | omega | (simp; omega))) | ((with_reducible refine Below.alloc ?_ ?_ _); rotate_left; focus (first | exact Nat.le_refl _ | omega | (simp; done) | (simp; omega)))))

def ruleB (s : Ru) (n : Nat) (N : Nat → No) : Bool := inB s.nm 1 20 && (spanB s.fr s.to && (inB s.jo 1 3600 && (inB s.ra 0 9 && (inB s.mo 1 4 && formB n N))))

set_option maxRecDepth 4000 in
set_option maxHeartbeats 3200000 in
theorem iRuleOk (w : World) (s : Ru) (A : Option Addr) (n c : Nat) (N : Nat → No) (h : RdNo w w.heap.size A n N) (hn : n ≤ 1099511627776) :
    Calls Try.prog 18 #[.agg #[.int .i64 s.nm, .int .i64 s.fr, .int .i64 s.to, .int .i64 s.jo, .int .i64 s.ra, .int .i64 s.mo, .slice A n c]] w fun e w' => e = .returned (.bool (ruleB s n N)) ∧ Below w.heap.size w w' := by
  have hbx : Below w.heap.size w (w.alloc (.cells #[.int .i64 s.nm, .int .i64 s.fr, .int .i64 s.to, .int .i64 s.jo, .int .i64 s.ra, .int .i64 s.mo, .slice A n c] 29)) := (Below.refl _ _).alloc (Nat.le_refl _) _
  have hx : RdNo (w.alloc (.cells #[.int .i64 s.nm, .int .i64 s.fr, .int .i64 s.to, .int .i64 s.jo, .int .i64 s.ra, .int .i64 s.mo, .slice A n c] 29)) (w.alloc (.cells #[.int .i64 s.nm, .int .i64 s.fr, .int .i64 s.to, .int .i64 s.jo, .int .i64 s.ra, .int .i64 s.mo, .slice A n c] 29)).heap.size A n N := (h.below hbx).more (by simp)
  have FO := fun (v : World) (hv : RdNo v v.heap.size A n N) => iFormulaOk v A n c N hv hn
  obtain ⟨G, hG⟩ : ∃ G, G = formB n N := ⟨_, rfl⟩
  obtain ⟨v, hv⟩ : ∃ v, v = ruleB s n N := ⟨_, rfl⟩
  rw [ruleB, ← hG] at hv
  have e0 : ruleB s n N = v := by rw [hv, ruleB, ← hG]
  rw [e0]
  simp only [← hG] at FO
  clear e0 hG h
  have HV := Lib.hid hv
  clear hv
  go_enter Try.func18, Try.ntmps18
  go_wp2_with (first | (go_at_call 54; refine (within_any _ _ _ _).mono ?_; rintro e w' ⟨rfl, rfl⟩) | (go_at_call 55; refine (isSpan_any _ _ _).mono ?_; rintro e w' ⟨rfl, rfl⟩) | (go_at_call 56; refine (FO _ hx).mono ?_; rintro e w1 ⟨rfl, hb1⟩))
  all_goals
    go_ret
    refine ⟨ret_bool ?_, (by first | exact hbx | exact hbx.trans (hb1.mono (by simp)))⟩
    have hq := HV.out
    clear HV FO hx
    subst hq
    simp_all

set_option maxRecDepth 4000 in
set_option maxHeartbeats 3200000 in
theorem sRuleOk (w : World) (s : Ru) (A : Option Addr) (n c : Nat) (N : Nat → No) (h : RdNo w w.heap.size A n N) (hn : n ≤ 1099511627776) :
    Calls Try.prog 16 #[.agg #[.int .i64 s.nm, .int .i64 s.fr, .int .i64 s.to, .int .i64 s.jo, .int .i64 s.ra, .int .i64 s.mo, .slice A n c]] w fun e w' => e = .returned (.bool (ruleB s n N)) ∧ Below w.heap.size w w' := by
  have hbx : Below w.heap.size w (w.alloc (.cells #[.int .i64 s.nm, .int .i64 s.fr, .int .i64 s.to, .int .i64 s.jo, .int .i64 s.ra, .int .i64 s.mo, .slice A n c] 29)) := (Below.refl _ _).alloc (Nat.le_refl _) _
  have hx : RdNo (w.alloc (.cells #[.int .i64 s.nm, .int .i64 s.fr, .int .i64 s.to, .int .i64 s.jo, .int .i64 s.ra, .int .i64 s.mo, .slice A n c] 29)) (w.alloc (.cells #[.int .i64 s.nm, .int .i64 s.fr, .int .i64 s.to, .int .i64 s.jo, .int .i64 s.ra, .int .i64 s.mo, .slice A n c] 29)).heap.size A n N := (h.below hbx).more (by simp)
  have FO := fun (v : World) (hv : RdNo v v.heap.size A n N) => sFormulaOk v A n c N hv hn
  obtain ⟨G, hG⟩ : ∃ G, G = formB n N := ⟨_, rfl⟩
  obtain ⟨v, hv⟩ : ∃ v, v = ruleB s n N := ⟨_, rfl⟩
  rw [ruleB, ← hG] at hv
  have e0 : ruleB s n N = v := by rw [hv, ruleB, ← hG]
  rw [e0]
  simp only [← hG] at FO
  clear e0 hG h
  have HV := Lib.hid hv
  clear hv
  go_enter Try.func16, Try.ntmps16
  go_wp2_with (first | (go_at_call 51; refine (l01In_any _ _ _ _).mono ?_; rintro e w' ⟨rfl, rfl⟩) | (go_at_call 52; refine (FO _ hx).mono ?_; rintro e w1 ⟨rfl, hb1⟩))
  all_goals
    go_ret
    refine ⟨ret_bool ?_, (by first | exact hbx | exact hbx.trans (hb1.mono (by simp)))⟩
    have hq := HV.out
    clear HV FO hx
    subst hq
    simp_all [spanB] <;> first | omega | (intros; omega) | (rw [Bool.eq_iff_iff]; simp; omega)
end Go.Proofs.Ytjnckhdmaebfdaa
