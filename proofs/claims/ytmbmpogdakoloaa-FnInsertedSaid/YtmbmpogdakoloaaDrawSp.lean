/- The spells that a draw gives. Conditions: the bytes can be read. -/
import Derived.Test.YtmbmpogdakoloaaPick
import Derived.Test.YtmbmpogdakoloaaBrk
namespace Go.Proofs.Ytmbmpogdakoloaa
open Go.RowKit

theorem getD_old {α : Type} (xs : List α) (x d : α) {i : Nat} (h : i < xs.length) : (xs ++ [x]).getD i d = xs.getD i d := by
  rw [List.getD_eq_getElem?_getD, List.getD_eq_getElem?_getD, List.getElem?_append_left h]
theorem getD_new {α : Type} (xs : List α) (x d : α) {i : Nat} (h : i = xs.length) : (xs ++ [x]).getD i d = x := by
  subst h
  rw [List.getD_eq_getElem?_getD, List.getElem?_append_right (Nat.le_refl _)]
  simp
/-- k spells in their order, the last ends at a at the latest. -/
def spChain (L : Nat → Sp) (k : Nat) (a : Int) : Prop := ∀ i, i < k → 0 ≤ (L i).f ∧ (L i).f < (L i).t ∧ (L i).t ≤ a ∧ 1 ≤ (L i).p ∧ (L i).p ≤ 100 ∧ (i = 0 ∨ (L (i - 1)).t ≤ (L i).f)
theorem spChain.ok {L : Nat → Sp} {k : Nat} {a : Int} (h : spChain L k a) (ha : a ≤ 3600) (hk : k ≤ 30) : spOk k L = true := by
  simp only [spOk, Bool.and_eq_true]
  refine ⟨allUp_mk fun i hi => ?_, by simpa using hk⟩
  have hh := h i hi
  simp only [spGood, Bool.and_eq_true, inB_iff, spanB_iff, Bool.or_eq_true, beq_iff_eq, Bool.not_eq_true', decide_eq_false_iff_not]
  omega
theorem spChain.more {xs : List Sp} {k : Nat} {a b f t p : Int} {v : Bool} (h : spChain (fun i => xs.getD i Sp.zero) k a) (hl : xs.length = k) (h0 : 0 ≤ a) (h1 : a ≤ f) (h2 : f < t) (h3 : t ≤ b) (h4 : 1 ≤ p) (h5 : p ≤ 100) :
    spChain (fun i => (xs ++ ([⟨f, t, p, v⟩] : List Sp)).getD i Sp.zero) (k + 1) b := by
  intro i hi
  by_cases e : i < k
  · have hh := h i e
    have e1 := getD_old xs (⟨f, t, p, v⟩ : Sp) Sp.zero (show i < xs.length by omega)
    have e2 := getD_old xs (⟨f, t, p, v⟩ : Sp) Sp.zero (show i - 1 < xs.length by omega)
    dsimp only at hh ⊢
    rw [e1, e2]
    omega
  · obtain rfl : i = k := by omega
    have e1 := getD_new xs (⟨f, t, p, v⟩ : Sp) Sp.zero (show i = xs.length by omega)
    dsimp only at h ⊢
    rw [e1]
    dsimp only
    refine ⟨by omega, h2, h3, h4, h5, ?_⟩
    by_cases e0 : i = 0
    · exact .inl e0
    · have hh := h (i - 1) (by omega)
      have e2 := getD_old xs (⟨f, t, p, v⟩ : Sp) Sp.zero (show i - 1 < xs.length by omega)
      rw [e2]
      dsimp only at hh
      omega

set_option maxHeartbeats 1600000 in
theorem sSpells (w : World) (B g : Nat) (A : Option Addr) (n c : Nat) (hc : Cur w B g A n c) :
    Calls Try.prog 42 #[.pointer (some ⟨g, 0, none⟩)] w fun e w' => ∃ (v : Value) (k : Nat) (xs : List Sp) (a : Int), e = .returned v ∧ k ≤ 6 ∧ xs.length = k ∧ spChain (fun i => xs.getD i Sp.zero) k a ∧ a ≤ 300 ∧ w'.ownsRow B 29 4 v k (xs.flatMap Sp.cells) ∧ Below B w w' := by
  obtain ⟨i0, hi, hz0, hz1, hz2⟩ := info_parts sp_inf
  have hBg : B ≤ g ∧ B ≤ w.heap.size := (by obtain ⟨_, _, _, _, _, h1, h2, _⟩ := hc; exact ⟨h1, h2⟩)
  obtain ⟨hBg, hBw⟩ := hBg
  go_enter Try.func42, Try.ntmps42
  go_wp2_with fail
  refine (sBelow _ B g A n c 20 (by omega) (hc.alloc _)).mono ?_
  rintro e w1 ⟨x1, rfl, hx1, hc1, hg1⟩
  obtain ⟨l1, u1a, -⟩ := hx1
  have u1 := u1a (by omega)
  clear u1a
  have hn1 : w1.ownsRow B 29 4 (.slice (some ⟨w.heap.size, 0, none⟩) 0 0) 0 [] := own_drawn (own_empty _ _ _ _ hBw) (hc.alloc _) hg1 (by decide)
  have hb1 : Below B w w1 := ((Below.refl _ _).alloc hBw _).grown hg1 (by simp; omega) (fun q hq => by injection hq; omega)
  clear hg1 hc
  go_wp2_with fail
  go_loopw [3, 4, 5] (fun v s i wr => ∃ (k : Nat) (xs : List Sp) (a : Int), k ≤ 6 ∧ i = .int .i64 k ∧ s = .int .i64 a ∧ Hid (xs.length = k ∧ spChain (fun i => xs.getD i Sp.zero) k a) ∧ 0 ≤ a ∧ a ≤ 20 + 37 * (k : Int) ∧ wr.ownsRow B 29 4 v k (xs.flatMap Sp.cells) ∧ Cur wr B g A n c ∧ Below B w wr) (fun _ _ i _ => 7 - (intOf i).toNat)
  case atStart => exact ⟨0, [], x1, by omega, rfl, rfl, Lib.hid ⟨rfl, fun i hi => by omega⟩, by omega, by omega, hn1, hc1, hb1⟩
  case round =>
    obtain ⟨k, xs, a, hk, rfl, rfl, hok, ha0, ha1, hn0, hc0, hb0⟩ := hrel
    go_wp2_with fail
    refine (sBelow _ B g A n c 7 (by omega) hc0).mono ?_
    rintro e w2 ⟨x2, rfl, hx2, hc2, hg2⟩
    obtain ⟨l2, u2a, -⟩ := hx2
    have u2 := u2a (by omega)
    clear u2a
    have hn2 := own_drawn hn0 hc0 hg2 (by decide)
    have hb2 := hb0.grown hg2 (Nat.le_trans hBw hb0.size) (fun q hq => by injection hq; omega)
    clear hg2 hn0 hc0 hb0
    by_cases hlt : (k : Int) < x2
    · go_wp2_with fail
      refine (sBelow _ B g A n c 8 (by omega) hc2).mono ?_
      rintro e w3 ⟨x3, rfl, hx3, hc3, hg3⟩
      obtain ⟨l3, u3a, -⟩ := hx3
      have u3 := u3a (by omega)
      clear u3a
      have hn3 := own_drawn hn2 hc2 hg3 (by decide)
      have hb3 := hb2.grown hg3 (Nat.le_trans hBw hb2.size) (fun q hq => by injection hq; omega)
      clear hg3 hn2 hc2 hb2
      go_wp2_with fail
      refine (sBelow _ B g A n c 2 (by omega) hc3).mono ?_
      rintro e w4 ⟨x4, rfl, hx4, hc4, hg4⟩
      obtain ⟨l4, u4a, -⟩ := hx4
      have u4 := u4a (by omega)
      clear u4a
      have hn4 := own_drawn hn3 hc3 hg4 (by decide)
      have hb4 := hb3.grown hg4 (Nat.le_trans hBw hb3.size) (fun q hq => by injection hq; omega)
      clear hg4 hn3 hc3 hb3
      have hmb := mul_bd l3 (show x3 ≤ 7 by omega) l4 (show x4 ≤ 1 by omega)
      have m1 : IntKind.i64.wrap (x3 * x4) = x3 * x4 := IntWalk.i64_in _ ⟨by omega, by omega⟩
      obtain ⟨f, hf⟩ : ∃ f, f = a + x3 * x4 := ⟨_, rfl⟩
      have m2 : IntKind.i64.wrap (a + x3 * x4) = f := by rw [hf]; exact IntWalk.i64_in _ ⟨by omega, by omega⟩
      have hf0 : a ≤ f ∧ f ≤ a + 7 := by omega
      obtain ⟨hf1, hf2⟩ := hf0
      clear hf hmb
      have m3 : IntKind.i64.wrap (f + 1) = f + 1 := IntWalk.i64_in _ ⟨by omega, by omega⟩
      go_wp2_with fail
      refine (sBelow _ B g A n c 30 (by omega) hc4).mono ?_
      rintro e w5 ⟨x5, rfl, hx5, hc5, hg5⟩
      obtain ⟨l5, u5a, -⟩ := hx5
      have u5 := u5a (by omega)
      clear u5a
      have hn5 := own_drawn hn4 hc4 hg5 (by decide)
      have hb5 := hb4.grown hg5 (Nat.le_trans hBw hb4.size) (fun q hq => by injection hq; omega)
      clear hg5 hn4 hc4 hb4
      have m4 : IntKind.i64.wrap (f + 1 + x5) = f + 1 + x5 := IntWalk.i64_in _ ⟨by omega, by omega⟩
      have hs5 := Nat.le_trans hBw hb5.size
      have hcg : ¬ w5.heap.size = g := (by obtain ⟨_, _, h, _⟩ := hc5; have := h.lt; omega)
      go_wp2_with fail
      refine (sPickInt _ B g A n c w5.heap.size 5 5 (fun i => [100, 100, 50, 80, 1].getD i 0) (hc5.alloc _) hcg (by omega) (by omega) ?_).mono ?_
      · intro i hi
        match i, hi with
        | 0, _ => simp [go_sem]
        | 1, _ => simp [go_sem]
        | 2, _ => simp [go_sem]
        | 3, _ => simp [go_sem]
        | 4, _ => simp [go_sem]
      rintro e w6 ⟨r, rfl, hone, hc6, hg6⟩
      have hr : 1 ≤ r ∧ r ≤ 100 := by
        obtain ⟨i, hi6, hr⟩ := hone
        match i, hi6 with
        | 0, _ => simp at hr; omega
        | 1, _ => simp at hr; omega
        | 2, _ => simp at hr; omega
        | 3, _ => simp at hr; omega
        | 4, _ => simp at hr; omega
      clear hone
      obtain ⟨hr1, hr2⟩ := hr
      have hn6 := own_drawn (hn5.alloc _) (hc5.alloc _) hg6 (by decide)
      have hb6 := (hb5.alloc hs5 _).grown hg6 (by simp; omega) (fun q hq => by injection hq; omega)
      clear hg6 hn5 hc5 hb5
      go_wp2_with fail
      refine (sOnce _ B g A n c 5 (by omega) hc6).mono ?_
      rintro e w7 ⟨vb, rfl, hc7, hg7⟩
      have hn7 := own_drawn hn6 hc6 hg7 (by decide)
      have hb7 := hb6.grown hg7 (Nat.le_trans hBw hb6.size) (fun q hq => by injection hq; omega)
      have hs7 := Nat.le_trans hBw hb7.size
      clear hg7 hn6 hc6 hb6
      go_wp2_with (at_builtin; (refine wpList_append_own_at _ rfl _ _ 24 rfl B 29 i0 (.agg #[.int .i64 0, .int .i64 0, .int .i64 0, .bool false]) 4 32 Try.underlying24 hi hz0 hz1 hz2 rfl (by decide) _ _ _ rfl (hn7.alloc _) ⟨w7.heap.size, 0, none⟩ 1 1 [.int .i64 f, .int .i64 (f + 1 + x5), .int .i64 r, .bool vb] rfl rfl (cells_new _ [.int .i64 f, .int .i64 (f + 1 + x5), .int .i64 r, .bool vb] _) ?c2 ?c3 ?c4 ?c5 ?_))
      case c2 => (first | rfl | (intro u hu; simp at hu; rcases hu with rfl | rfl | rfl | rfl <;> rfl))
      case c3 => unfold maxLen; omega
      case c4 => omega
      case c5 => simp; omega
      intro v' w8 hn8 hg8 _ hat8
      have hc8 := cur_append (hc7.alloc _) (hn7.alloc _) hg8 (by decide) (Nat.le_refl _)
      have hb8 := (hb7.alloc hs7 _).grown hg8 (by simp; omega) (own_block_base hn7)
      go_wp2
      go_roundw
      case rel =>
        refine ⟨k + 1, xs ++ [⟨f, f + 1 + x5, r, vb⟩], f + 1 + x5, by omega, by go_num, rfl, ?_, by omega, by omega, ?_, hc8, hb8⟩
        · exact Lib.hid ⟨by rw [List.length_append, hok.out.1]; rfl, hok.out.2.more hok.out.1 ha0 hf1 (by omega) (Int.le_refl _) hr1 hr2⟩
        · rw [List.flatMap_append]
          exact hn8
      case measure => simp [intOf]; omega
    · go_wp2_with fail
      go_ret
      exact ⟨_, k, xs, a, rfl, hk, hok.out.1, hok.out.2, by omega, hn2, hb2⟩

set_option maxHeartbeats 800000 in
theorem sDrawSpells (w : World) (A : Option Addr) (n c : Nat) (hb : Bys w w.heap.size A n) :
    Calls Try.prog 14 #[.slice A n c] w fun e w' => ∃ (v : Value) (k : Nat) (xs : List Sp) (a : Int), e = .returned v ∧ k ≤ 6 ∧ xs.length = k ∧ spChain (fun i => xs.getD i Sp.zero) k a ∧ a ≤ 300 ∧ w'.ownsRow w.heap.size 29 4 v k (xs.flatMap Sp.cells) ∧ Below w.heap.size w w' := by
  go_enter Try.func14, Try.ntmps14
  go_wp2_with fail
  refine (sNew _ w.heap.size A n c (Nat.le_refl _) hb).mono ?_
  rintro e w1 ⟨g, rfl, hc, hb1, hg⟩
  go_wp2_with fail
  refine (sSpells _ w.heap.size g A n c hc).mono ?_
  rintro e w2 ⟨v, k, xs, a, rfl, h1, h2, h3, h4, h5, hb2⟩
  go_wp2_with fail
  go_ret
  exact ⟨_, k, xs, a, rfl, h1, h2, h3, h4, h5, hb1.trans hb2⟩
end Go.Proofs.Ytmbmpogdakoloaa
