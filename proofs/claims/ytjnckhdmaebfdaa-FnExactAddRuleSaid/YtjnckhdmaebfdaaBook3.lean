/- Books of rules: compared, weighed, copied. Conditions: the rules can be read. -/
import Derived.Test.YtjnckhdmaebfdaaBook2
namespace Go.Proofs.Ytjnckhdmaebfdaa
open Go.RowKit

theorem CopR.far {w : World} {g m b o : Nat} {R : Nat → Rn} {G : Nat → Nat} (h : CopR w g m R G) (hb : b < g) (u : Value) : CopR (w.setCell ⟨b, o, none⟩ u) g m R G :=
  ⟨h.1.setOther (show g ≠ b by omega) u, fun i hi => ⟨(h.2.1 i hi).1, (h.2.1 i hi).2.setOther (show G i ≠ b by have := (h.2.1 i hi).1; omega) u⟩, h.2.2⟩
set_option maxRecDepth 8000 in
set_option maxHeartbeats 3200000 in
theorem eqRules (w : World) (A A' : Option Addr) (m c c' : Nat) (R R' : Nat → Rn) (h : RdRu w w.heap.size A m R) (h' : RdRu w w.heap.size A' m R') (hs : sameR R R' m) :
    Calls Try.prog 65 #[.slice A m c, .slice A' m c'] w fun e w' => e = .returned (.bool true) ∧ Below w.heap.size w w' := by
  have hm := h.1
  have HS := Lib.hid hs
  clear hs
  go_enter Try.func65, Try.ntmps65
  go_wp2_with fail
  go_loopw [5] (fun i wr => ∃ k : Nat, k ≤ m ∧ i = .int .i64 k ∧ Below w.heap.size w wr) (fun i _ => m - (intOf i).toNat)
  case atStart => exact ⟨0, Nat.zero_le _, rfl, Below.refl _ _⟩
  case round =>
    obtain ⟨k, hk, rfl, hbr⟩ := hrel
    have hs1 := hbr.size
    by_cases hlt : k < m
    · obtain ⟨⟨b, off, rfl, hbB, h0, h1, h2, h3, h4, h5, h6⟩, n1⟩ := ((h.below hbr).more hs1).2 k hlt
      obtain ⟨⟨b', off', rfl, hbB', h0', h1', h2', h3', h4', h5', h6'⟩, n2⟩ := ((h'.below hbr).more hs1).2 k hlt
      obtain ⟨e1, e2, e3⟩ := HS.out k hlt
      rw [e1] at h0' h1' h2' h3' h4' h5'
      rw [e2] at h6' n2
      rw [e3] at n2
      clear h h' e1 e2 e3 HS
      have hlt' : (k : Int) < m := by omega
      go_wp2_with fail
      go_region_held3 (fun w' => w'.cell? ⟨b, off + k * 7, none⟩ = some (.int .i64 (R k).s.nm) ∧ w'.cell? ⟨b, off + k * 7 + 1, none⟩ = some (.int .i64 (R k).s.fr) ∧ w'.cell? ⟨b, off + k * 7 + 2, none⟩ = some (.int .i64 (R k).s.to) ∧ w'.cell? ⟨b, off + k * 7 + 3, none⟩ = some (.int .i64 (R k).s.jo) ∧ w'.cell? ⟨b, off + k * 7 + 4, none⟩ = some (.int .i64 (R k).s.ra) ∧ w'.cell? ⟨b, off + k * 7 + 5, none⟩ = some (.int .i64 (R k).s.mo) ∧ w'.cell? ⟨b, off + k * 7 + 6, none⟩ = some (.slice (R k).A (R k).n (R k).c) ∧ w'.cell? ⟨b', off' + k * 7, none⟩ = some (.int .i64 (R k).s.nm) ∧ w'.cell? ⟨b', off' + k * 7 + 1, none⟩ = some (.int .i64 (R k).s.fr) ∧ w'.cell? ⟨b', off' + k * 7 + 2, none⟩ = some (.int .i64 (R k).s.to) ∧ w'.cell? ⟨b', off' + k * 7 + 3, none⟩ = some (.int .i64 (R k).s.jo) ∧ w'.cell? ⟨b', off' + k * 7 + 4, none⟩ = some (.int .i64 (R k).s.ra) ∧ w'.cell? ⟨b', off' + k * 7 + 5, none⟩ = some (.int .i64 (R k).s.mo) ∧ w'.cell? ⟨b', off' + k * 7 + 6, none⟩ = some ((.slice (R' k).A (R k).n (R' k).c)) ∧ b < w'.heap.size ∧ b' < w'.heap.size ∧ Below w.heap.size w w') (first | (with_reducible assumption) | (refine ⟨?_, ?_, ?_, ?_, ?_, ?_, ?_, ?_, ?_, ?_, ?_, ?_, ?_, ?_, ?_, ?_, ?_⟩ <;> first | (with_reducible assumption) | omega | (simp [go_sem, *]; done) | (simp [*]; omega) | ((repeat (first | (with_reducible exact Below.refl _ _) | (with_reducible assumption) | (with_reducible refine Below.drew ?_) | (with_reducible refine below_drewN ?_ _) | ((with_reducible refine Below.setCell ?_ ?_ _); rotate_left; focus (first | (simp; done) | omega | (simp; omega))) | ((with_reducible refine Below.alloc ?_ ?_ _); rotate_left; focus (first | exact Nat.le_refl _ | omega | (simp; done) | (simp; omega))))); first | done | (simp [*]; done))))
        (first | (go_at_call 19; refine (eqRule_any _ (R k).s _ _ (R k).n _ _ (R k).N (show RdNo wr.drew wr.drew.heap.size (R k).A (R k).n (R k).N from n1) (show RdNo wr.drew wr.drew.heap.size (R' k).A (R k).n (R k).N from n2)).mono ?_; rintro e w1 ⟨rfl, hb1⟩; obtain ⟨hc1, hf1⟩ := keepc hb1; have hs1 := hb1.size; have hS1 : ((fun w' => w'.cell? ⟨b, off + k * 7, none⟩ = some (.int .i64 (R k).s.nm) ∧ w'.cell? ⟨b, off + k * 7 + 1, none⟩ = some (.int .i64 (R k).s.fr) ∧ w'.cell? ⟨b, off + k * 7 + 2, none⟩ = some (.int .i64 (R k).s.to) ∧ w'.cell? ⟨b, off + k * 7 + 3, none⟩ = some (.int .i64 (R k).s.jo) ∧ w'.cell? ⟨b, off + k * 7 + 4, none⟩ = some (.int .i64 (R k).s.ra) ∧ w'.cell? ⟨b, off + k * 7 + 5, none⟩ = some (.int .i64 (R k).s.mo) ∧ w'.cell? ⟨b, off + k * 7 + 6, none⟩ = some (.slice (R k).A (R k).n (R k).c) ∧ w'.cell? ⟨b', off' + k * 7, none⟩ = some (.int .i64 (R k).s.nm) ∧ w'.cell? ⟨b', off' + k * 7 + 1, none⟩ = some (.int .i64 (R k).s.fr) ∧ w'.cell? ⟨b', off' + k * 7 + 2, none⟩ = some (.int .i64 (R k).s.to) ∧ w'.cell? ⟨b', off' + k * 7 + 3, none⟩ = some (.int .i64 (R k).s.jo) ∧ w'.cell? ⟨b', off' + k * 7 + 4, none⟩ = some (.int .i64 (R k).s.ra) ∧ w'.cell? ⟨b', off' + k * 7 + 5, none⟩ = some (.int .i64 (R k).s.mo) ∧ w'.cell? ⟨b', off' + k * 7 + 6, none⟩ = some ((.slice (R' k).A (R k).n (R' k).c)) ∧ b < w'.heap.size ∧ b' < w'.heap.size ∧ Below w.heap.size w w')) w1 := (by refine ⟨?_, ?_, ?_, ?_, ?_, ?_, ?_, ?_, ?_, ?_, ?_, ?_, ?_, ?_, ?_, ?_, ?_⟩ <;> first | (rw [hc1 _ _ (by first | omega | (simp [*]; omega) | (simp [*]; done))] <;> simp [go_sem, *]; done) | (first | omega | (simp [*] at hs1; omega)) | (refine Below.trans ?_ (hb1.mono (by first | omega | (simp [*]; done) | (simp [*]; omega))); (repeat (first | (with_reducible exact Below.refl _ _) | (with_reducible assumption) | (with_reducible refine Below.drew ?_) | (with_reducible refine below_drewN ?_ _) | ((with_reducible refine Below.setCell ?_ ?_ _); rotate_left; focus (first | (simp; done) | omega | (simp; omega))) | ((with_reducible refine Below.alloc ?_ ?_ _); rotate_left; focus (first | exact Nat.le_refl _ | omega | (simp; done) | (simp; omega))))); first | done | (simp [*]; done))); clear hb1 hc1 hf1 hs1))
      go_wp2_with fail
      go_roundw
      case rel => exact ⟨k + 1, by omega, by go_num, hS1.2.2.2.2.2.2.2.2.2.2.2.2.2.2.2.2⟩
      case measure => simp [intOf]; omega
    · go_wp2_with fail
      go_ret
      exact ⟨rfl, hbr⟩

set_option maxHeartbeats 800000 in
theorem szBookFrom (w : World) (A : Option Addr) (m c : Nat) (R : Nat → Rn) (z : Int) (h : RdRu w w.heap.size A m R) (hz : 0 ≤ z ∧ z ≤ 1048576) :
    Calls Try.prog 27 #[.agg #[.slice A m c], .int .i64 z] w fun e w' => e = .returned (.int .i64 (if z < ((m + wtR R m : Nat) : Int) then -1 else z - ((m + wtR R m : Nat) : Int))) ∧ Below w.heap.size w w' := by
  have hbx : Below w.heap.size w (w.alloc (.cells #[.slice A m c] 48)) := (Below.refl _ _).alloc (Nat.le_refl _) _
  have h2 := szRulesFrom (w.alloc (.cells #[.slice A m c] 48)) A m c R z ((h.below hbx).more (by simp)) hz
  by_cases hlt : z < ((m + wtR R m : Nat) : Int)
  · rw [if_pos hlt] at h2 ⊢
    clear hlt
    go_enter Try.func27, Try.ntmps27
    go_wp2_with fail
    refine h2.mono ?_
    rintro e w1 ⟨rfl, hb1⟩
    go_wp2_with fail
    go_ret
    exact ⟨rfl, hbx.trans (hb1.mono (by simp))⟩
  · rw [if_neg hlt] at h2 ⊢
    obtain ⟨y, hy⟩ : ∃ y, y = z - ((m + wtR R m : Nat) : Int) := ⟨_, rfl⟩
    rw [← hy] at h2 ⊢
    have h3 : ¬ y < 0 := by omega
    clear hlt hy
    go_enter Try.func27, Try.ntmps27
    go_wp2_with fail
    refine h2.mono ?_
    rintro e w1 ⟨rfl, hb1⟩
    go_wp2_with fail
    go_ret
    exact ⟨rfl, hbx.trans (hb1.mono (by simp))⟩
set_option maxHeartbeats 800000 in
theorem toBook_any (w : World) (A : Option Addr) (m c : Nat) (R : Nat → Rn) (h : RdRu w w.heap.size A m R) (hm : m ≤ 1048576) (hn : ∀ i, i < m → (R i).n ≤ 1048576) :
    Calls Try.prog 29 #[.agg #[.slice A m c]] w fun e w' => ∃ (g : Nat) (G : Nat → Nat), e = .returned (.agg #[.slice (some ⟨g, 0, none⟩) m m]) ∧ CopR w' g m R G ∧ w.heap.size ≤ g ∧ Below w.heap.size w w' := by
  have HN := Lib.hid hn
  clear hn
  go_enter Try.func29, Try.ntmps29
  go_wp2_with fail
  refine (toRules _ A m c R ((h.below (by (repeat (first | (with_reducible exact Below.refl _ _) | (with_reducible assumption) | (with_reducible refine Below.drew ?_) | (with_reducible refine below_drewN ?_ _) | ((with_reducible refine Below.setCell ?_ ?_ _); rotate_left; focus (first | (simp; done) | omega | (simp; omega))) | ((with_reducible refine Below.alloc ?_ ?_ _); rotate_left; focus (first | exact Nat.le_refl _ | omega | (simp; done) | (simp; omega))))))).more (by simp; omega)) hm HN.out).mono ?_
  rintro e w1 ⟨g, G, rfl, cop, low, hb1⟩
  obtain ⟨hc1, hf1⟩ := keepc hb1
  have hlow : w.heap.size + 1 + 1 + 1 ≤ g := by simpa using low
  have c20 : w1.cell? ⟨w.heap.size + 1 + 1, 0, none⟩ = some (.slice none 0 0) := by rw [hc1 _ _ (by simp; try omega)]; simp [go_sem]
  have f20 : w1.frozen? ⟨w.heap.size + 1 + 1, 0, none⟩ = false := by rw [hf1 _ _ (by simp; try omega)]; simp [go_sem]
  have c10 : w1.cell? ⟨w.heap.size + 1, 0, none⟩ = some (.slice none 0 0) := by rw [hc1 _ _ (by simp; try omega)]; simp [go_sem]
  have f10 : w1.frozen? ⟨w.heap.size + 1, 0, none⟩ = false := by rw [hf1 _ _ (by simp; try omega)]; simp [go_sem]
  have hB1 : Below w.heap.size w w1 := by refine Below.trans ?_ (hb1.mono (by simp; try omega)); (repeat (first | (with_reducible exact Below.refl _ _) | (with_reducible assumption) | (with_reducible refine Below.drew ?_) | (with_reducible refine below_drewN ?_ _) | ((with_reducible refine Below.setCell ?_ ?_ _); rotate_left; focus (first | (simp; done) | omega | (simp; omega))) | ((with_reducible refine Below.alloc ?_ ?_ _); rotate_left; focus (first | exact Nat.le_refl _ | omega | (simp; done) | (simp; omega)))))
  clear hc1 hf1 hb1
  have COP := Lib.hid cop
  clear cop
  go_wp2_with fail
  refine bodyPost_ret (v := .agg #[.slice (some ⟨g, 0, none⟩) m m]) (by simp [results, Try.results29, go_sem, c10]) rfl ⟨g, G, rfl, ?_, by omega, (by (repeat (first | (with_reducible exact Below.refl _ _) | (with_reducible assumption) | (with_reducible refine Below.drew ?_) | (with_reducible refine below_drewN ?_ _) | ((with_reducible refine Below.setCell ?_ ?_ _); rotate_left; focus (first | (simp; done) | omega | (simp; omega))) | ((with_reducible refine Below.alloc ?_ ?_ _); rotate_left; focus (first | exact Nat.le_refl _ | omega | (simp; done) | (simp; omega))))))⟩
  exact (COP.out.far (by omega) _).far (by omega) _
set_option maxHeartbeats 800000 in
theorem eqBook_any (w : World) (A A' : Option Addr) (m c c' : Nat) (R R' : Nat → Rn) (h : RdRu w w.heap.size A m R) (h' : RdRu w w.heap.size A' m R') (hs : sameR R R' m) :
    Calls Try.prog 30 #[.agg #[.slice A m c], .agg #[.slice A' m c']] w fun e w' => e = .returned (.bool true) ∧ Below w.heap.size w w' := by
  have HS := Lib.hid hs
  clear hs
  go_enter Try.func30, Try.ntmps30
  go_wp2_with fail
  refine (eqRules _ A A' m c c' R R' ((h.below (by (repeat (first | (with_reducible exact Below.refl _ _) | (with_reducible assumption) | (with_reducible refine Below.drew ?_) | (with_reducible refine below_drewN ?_ _) | ((with_reducible refine Below.setCell ?_ ?_ _); rotate_left; focus (first | (simp; done) | omega | (simp; omega))) | ((with_reducible refine Below.alloc ?_ ?_ _); rotate_left; focus (first | exact Nat.le_refl _ | omega | (simp; done) | (simp; omega))))))).more (by simp; omega)) ((h'.below (by (repeat (first | (with_reducible exact Below.refl _ _) | (with_reducible assumption) | (with_reducible refine Below.drew ?_) | (with_reducible refine below_drewN ?_ _) | ((with_reducible refine Below.setCell ?_ ?_ _); rotate_left; focus (first | (simp; done) | omega | (simp; omega))) | ((with_reducible refine Below.alloc ?_ ?_ _); rotate_left; focus (first | exact Nat.le_refl _ | omega | (simp; done) | (simp; omega))))))).more (by simp; omega)) HS.out).mono ?_
  rintro e w1 ⟨rfl, hb1⟩
  go_wp2_with fail
  go_ret
  refine ⟨rfl, Below.trans ?_ (hb1.mono (by simp; try omega))⟩
  (repeat (first | (with_reducible exact Below.refl _ _) | (with_reducible assumption) | (with_reducible refine Below.drew ?_) | (with_reducible refine below_drewN ?_ _) | ((with_reducible refine Below.setCell ?_ ?_ _); rotate_left; focus (first | (simp; done) | omega | (simp; omega))) | ((with_reducible refine Below.alloc ?_ ?_ _); rotate_left; focus (first | exact Nat.le_refl _ | omega | (simp; done) | (simp; omega)))))
end Go.Proofs.Ytjnckhdmaebfdaa
