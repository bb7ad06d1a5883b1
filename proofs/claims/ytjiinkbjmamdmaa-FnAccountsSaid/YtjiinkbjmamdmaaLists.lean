/- The lists that a draw gives to an account. Conditions: the cursor is whole. -/
import Derived.Test.YtjiinkbjmamdmaaPlaces
import Derived.Test.YtjiinkbjmamdmaaIntS
namespace Go.Proofs.Ytjiinkbjmamdmaa
open Go.RowKit

/-- One of m numbers. -/
def isOne (m : Nat) (z : Nat → Int) (x : Int) : Prop := ∃ i, i < m ∧ x = z i
set_option maxHeartbeats 400000 in
theorem sPickInt (w : World) (B g : Nat) (A : Option Addr) (n c : Nat) (k m cc : Nat) (z : Nat → Int) (hc : Cur w B g A n c) (hk : ¬ k = g) (hm : 0 < m) (hm' : m ≤ 2147483647) (hz : ∀ i, i < m → w.cell? ⟨k, i, none⟩ = some (.int .i64 (z i))) :
    Calls Try.prog 74 #[.pointer (some ⟨g, 0, none⟩), .slice (some ⟨k, 0, none⟩) m cc] w (Drawn w B g A n c (isOne m z)) := by
  go_enter Try.func74, Try.ntmps74
  go_wp2_with fail
  refine (sBelow w B g A n c m (by omega) hc).mono ?_
  rintro e w1 ⟨x, rfl, ⟨hx0, hx1, -⟩, hc1, hg1⟩
  have hx2 := hx1 (by omega)
  clear hx1
  obtain ⟨i, rfl⟩ := Int.eq_ofNat_of_zero_le hx0
  have hcell : w1.cell? ⟨k, i, none⟩ = some (.int .i64 (z i)) := hg1.cell (hz i (by omega)) (by intro e; injection e with e; exact hk e)
  go_wp2_with fail
  go_ret
  exact ⟨_, rfl, ⟨i, by omega, rfl⟩, hc1, hg1⟩

/-- Two rows that lie apart. -/
def Apart (u v : Value) : Prop := ∀ k, u.ownBlock = some k → v.ownBlock ≠ some k
theorem Apart.symm {u v : Value} (h : Apart u v) : Apart v u := fun k hk e => h k e hk
theorem Apart.kept {w w' : World} {u v : Value} {base size n : Nat} {e : TypeId} {xs : List Value} (h : Apart u v) (ho : w.ownsRow base e size v n xs) (hg : w.grownBy w' u.ownBlock) : w'.ownsRow base e size v n xs := by
  refine ho.kept hg ?_
  cases hv : v.ownBlock with
  | none => exact .inl rfl
  | some k => exact .inr fun e => h k e.symm hv
theorem Apart.grows {w : World} {u u' v : Value} {base size n : Nat} {e : TypeId} {xs : List Value} (h : Apart u v) (ho : w.ownsRow base e size v n xs) {b : Nat} (hat : u'.ownBlock = u.ownBlock ∨ u'.ownBlock = some b) (hb : w.heap.size ≤ b) : Apart u' v := by
  intro k hk
  rcases hat with e | e
  · exact h k (e ▸ hk)
  · intro hv
    have := (ho.lt k hv).2
    rw [e] at hk
    injection hk
    omega

set_option maxHeartbeats 1600000 in
theorem sLists (w : World) (B g : Nat) (A : Option Addr) (n c : Nat) (hc : Cur w B g A n c) :
    Calls Try.prog 57 #[.pointer (some ⟨g, 0, none⟩)] w fun e w' => ∃ (u v : Value) (r : Int) (k : Nat) (xs ys : List Int), e = .returned (.tuple #[u, v, .int .i64 r]) ∧ k ≤ 13 ∧ xs.length = k ∧ ys.length = k ∧ (∀ x ∈ xs, 0 ≤ x ∧ x ≤ 20000) ∧ (∀ y ∈ ys, 0 ≤ y ∧ y ≤ 18000) ∧ 0 ≤ r ∧ r ≤ 500 ∧ w'.ownsRow B 3 1 u k (xs.map (Value.int .i64)) ∧ w'.ownsRow B 3 1 v k (ys.map (Value.int .i64)) ∧ Below B w w' := by
  obtain ⟨i0, hi, hz0, hz1, hz2⟩ := info_parts int_inf
  have hBg : B ≤ g ∧ B ≤ w.heap.size := (by obtain ⟨_, _, _, _, _, h1, h2, _⟩ := hc; exact ⟨h1, h2⟩)
  obtain ⟨hBg, hBw⟩ := hBg
  go_enter Try.func57, Try.ntmps57
  go_wp2_with fail
  go_loopw [5, 6, 7] (fun u v i wr => ∃ (k : Nat) (xs ys : List Int), k ≤ 13 ∧ i = .int .i64 k ∧ Hid (xs.length = k ∧ ys.length = k ∧ (∀ x ∈ xs, 0 ≤ x ∧ x ≤ 20000) ∧ (∀ y ∈ ys, 0 ≤ y ∧ y ≤ 18000)) ∧ wr.ownsRow B 3 1 u k (xs.map (Value.int .i64)) ∧ wr.ownsRow B 3 1 v k (ys.map (Value.int .i64)) ∧ Apart u v ∧ Cur wr B g A n c ∧ Below B w wr) (fun _ _ i _ => 13 - (intOf i).toNat)
  case atStart =>
    refine ⟨0, [], [], by omega, rfl, ?_, (own_empty _ _ _ _ hBw).alloc _, (by have := own_empty (w.alloc (.cells #[] 3)) B 3 1 (by simp; omega); simpa using this), ?_, (hc.alloc _).alloc _, ((Below.refl _ _).alloc hBw _).alloc (by first | omega | (simp; omega)) _⟩
    · exact Lib.hid ⟨rfl, rfl, by simp, by simp⟩
    · intro k hk e
      simp [Value.ownBlock] at hk e
      omega
  case round =>
    obtain ⟨k, xs, ys, hk, rfl, hok, hu, hv, hap, hcr, hbr⟩ := hrel
    go_wp2_with fail
    refine (sBelow _ B g A n c 14 (by omega) hcr).mono ?_
    rintro e w2 ⟨y, rfl, hy, hc2, hg2⟩
    have hy := hy.2.1 (by omega)
    have hu2 := own_drawn hu hcr hg2 (by decide)
    have hv2 := own_drawn hv hcr hg2 (by decide)
    have hb2 := hbr.grown hg2 (Nat.le_trans hBw hbr.size) (fun q hq => by injection hq; omega)
    clear hg2 hu hv hcr
    by_cases hlt : (k : Int) < y
    · go_wp2_with fail
      refine (sBelow _ B g A n c 3 (by omega) hc2).mono ?_
      rintro e w3 ⟨x, rfl, hx, hc3, hg3⟩
      obtain ⟨hx0, hx1, -⟩ := hx
      have hx1 := hx1 (by omega)
      have hu3 := own_drawn hu2 hc2 hg3 (by decide)
      have hv3 := own_drawn hv2 hc2 hg3 (by decide)
      have hb3 := hb2.grown hg3 (Nat.le_trans hBw hb2.size) (fun q hq => by injection hq; omega)
      have hs3 := Nat.le_trans hBw hb3.size
      clear hg3 hu2 hv2 hc2 hb2
      go_wp2_with (at_builtin; refine wpList_append_own_at _ rfl _ _ 36 rfl B 3 i0 (.int .i64 0) 1 8 Try.underlying36 hi hz0 hz1 hz2 rfl (by decide) _ _ _ rfl (hu3.alloc _) ⟨w3.heap.size, 0, none⟩ 1 1 [.int .i64 (x * 10000)] rfl rfl (cell_one_new _ _ _) ?c2a ?c3a ?c4a ?c5a ?_)
      case c2a => (first | rfl | (intro u hu; simp at hu; subst hu; rfl))
      case c3a => unfold maxLen; omega
      case c4a => omega
      case c5a => simp; omega
      intro u' w4 hu4 hg4 _ hat4
      have hv4 := hap.kept (hv3.alloc _) hg4
      have hap4 := hap.grows hv3 hat4 (by omega)
      have hc4 := cur_append (hc3.alloc _) (hu3.alloc _) hg4 (by decide) (Nat.le_refl _)
      have hb4 := (hb3.alloc hs3 _).grown hg4 (by simp; omega) (own_block_base hu3)
      clear hg4 hat4 hu3 hv3 hc3 hb3
      go_wp2_with fail
      refine (sBelow _ B g A n c 3 (by omega) hc4).mono ?_
      rintro e w5 ⟨t, rfl, ht, hc5, hg5⟩
      obtain ⟨ht0, ht1, -⟩ := ht
      have ht1 := ht1 (by omega)
      have hu5 := own_drawn hu4 hc4 hg5 (by decide)
      have hv5 := own_drawn hv4 hc4 hg5 (by decide)
      have hb5 := hb4.grown hg5 (Nat.le_trans hBw hb4.size) (fun q hq => by injection hq; omega)
      have hs5 := Nat.le_trans hBw hb5.size
      clear hg5 hu4 hv4 hc4 hb4
      go_wp2_with (at_builtin; refine wpList_append_own_at _ rfl _ _ 36 rfl B 3 i0 (.int .i64 0) 1 8 Try.underlying36 hi hz0 hz1 hz2 rfl (by decide) _ _ _ rfl (hv5.alloc _) ⟨w5.heap.size, 0, none⟩ 1 1 [.int .i64 (t * 9000)] rfl rfl (cell_one_new _ _ _) ?c2b ?c3b ?c4b ?c5b ?_)
      case c2b => (first | rfl | (intro u hu; simp at hu; subst hu; rfl))
      case c3b => unfold maxLen; omega
      case c4b => omega
      case c5b => simp; omega
      intro v' w6 hv6 hg6 _ hat6
      have hu6 := hap4.symm.kept (hu5.alloc _) hg6
      have hap6 := hap4.symm.grows hu5 hat6 (by omega)
      have hc6 := cur_append (hc5.alloc _) (hv5.alloc _) hg6 (by decide) (Nat.le_refl _)
      have hb6 := (hb5.alloc hs5 _).grown hg6 (by simp; omega) (own_block_base hv5)
      go_wp2
      go_roundw
      case rel =>
        refine ⟨k + 1, xs ++ [x * 10000], ys ++ [t * 9000], by omega, by go_num, ?_, ?_, ?_, hap6.symm, hc6, hb6⟩
        · refine Lib.hid ⟨?_, ?_, ?_, ?_⟩
          · rw [List.length_append, hok.out.1]; rfl
          · rw [List.length_append, hok.out.2.1]; rfl
          · intro q hq
            rcases List.mem_append.1 hq with h | h
            · exact hok.out.2.2.1 q h
            · simp at h
              omega
          · intro q hq
            rcases List.mem_append.1 hq with h | h
            · exact hok.out.2.2.2 q h
            · simp at h
              omega
        · rw [List.map_append]
          exact hu6
        · rw [List.map_append]
          exact hv6
      case measure => simp [intOf]; omega
    · have hs2 := Nat.le_trans hBw hb2.size
      have hcg : ¬ w2.heap.size = g := (by obtain ⟨_, _, h, _⟩ := hc2; have := h.lt; omega)
      go_wp2_with fail
      refine (sPickInt _ B g A n c w2.heap.size 6 6 (fun i => [0, 40, 60, 500, 60, 40].getD i 0) (hc2.alloc _) hcg (by omega) (by omega) ?_).mono ?_
      · intro i hi
        match i, hi with
        | 0, _ => simp [go_sem]
        | 1, _ => simp [go_sem]
        | 2, _ => simp [go_sem]
        | 3, _ => simp [go_sem]
        | 4, _ => simp [go_sem]
        | 5, _ => simp [go_sem]
      rintro e w3 ⟨r, rfl, hone, hc3, hg3⟩
      have hr3 : 0 ≤ r ∧ r ≤ 500 := by
        obtain ⟨i, hi6, hr⟩ := hone
        match i, hi6 with
        | 0, _ => simp at hr; omega
        | 1, _ => simp at hr; omega
        | 2, _ => simp at hr; omega
        | 3, _ => simp at hr; omega
        | 4, _ => simp at hr; omega
        | 5, _ => simp at hr; omega
      clear hone
      have hu3 := own_drawn (hu2.alloc _) (hc2.alloc _) hg3 (by decide)
      have hv3 := own_drawn (hv2.alloc _) (hc2.alloc _) hg3 (by decide)
      have hb3 := (hb2.alloc hs2 _).grown hg3 (by simp; omega) (fun q hq => by injection hq; omega)
      go_wp2_with fail
      go_ret3
      exact ⟨_, _, _, k, xs, ys, rfl, hk, hok.out.1, hok.out.2.1, hok.out.2.2.1, hok.out.2.2.2, hr3.1, hr3.2, hu3, hv3, hb3⟩

set_option maxHeartbeats 800000 in
theorem sDrawAccount (w : World) (A : Option Addr) (n c : Nat) (hb : Bys w w.heap.size A n) :
    Calls Try.prog 32 #[.slice A n c] w fun e w' => ∃ (u v : Value) (r : Int) (k : Nat) (xs ys : List Int), e = .returned (.tuple #[u, v, .int .i64 r]) ∧ k ≤ 13 ∧ xs.length = k ∧ ys.length = k ∧ (∀ x ∈ xs, 0 ≤ x ∧ x ≤ 20000) ∧ (∀ y ∈ ys, 0 ≤ y ∧ y ≤ 18000) ∧ 0 ≤ r ∧ r ≤ 500 ∧ w'.ownsRow w.heap.size 3 1 u k (xs.map (Value.int .i64)) ∧ w'.ownsRow w.heap.size 3 1 v k (ys.map (Value.int .i64)) ∧ Below w.heap.size w w' := by
  go_enter Try.func32, Try.ntmps32
  go_wp2_with fail
  refine (sNew _ w.heap.size A n c (Nat.le_refl _) hb).mono ?_
  rintro e w1 ⟨g, rfl, hc, hb1, hg⟩
  go_wp2_with fail
  refine (sLists _ w.heap.size g A n c hc).mono ?_
  rintro e w2 ⟨u, v, r, k, xs, ys, rfl, h1, h2, h3, h4, h5, h6, h7, h8, h9, hb2⟩
  go_wp2_with fail
  go_ret3
  exact ⟨_, _, _, k, xs, ys, rfl, h1, h2, h3, h4, h5, h6, h7, h8, h9, hb1.trans hb2⟩
end Go.Proofs.Ytjiinkbjmamdmaa
