/- DrawPlaces: twelve numbers below 10000. Conditions: the bytes can be read. -/
import Derived.Test.YtmbmpogdakoloaaDraw
namespace Go.Proofs.Ytmbmpogdakoloaa
open Go.RowKit

theorem int_info : (Try.prog.info? 3).map (fun i => (i.zero, i.size, i.bytes)) = some (some (.int .i64 0), 1, 8) := by kernel_rfl

theorem own_drawn {w w' : World} {B g n c base e size m : Nat} {A : Option Addr} {v : Value} {xs : List Value} (h : w.ownsRow base e size v m xs) (hc : Cur w B g A n c) (hg : w.grownBy w' (some g)) (hne : e ≠ 82) : w'.ownsRow base e size v m xs := by
  obtain ⟨_, _, hw, _⟩ := hc
  exact h.kept hg (.inr (own_apart h hw hne))
theorem cur_append {w w' : World} {B g n c base e size m : Nat} {A : Option Addr} {v : Value} {xs : List Value} (hc : Cur w B g A n c) (h : w.ownsRow base e size v m xs) (hg : w.grownBy w' v.ownBlock) (hne : e ≠ 82) (hB : B ≤ base) : Cur w' B g A n c := by
  have h1 := h.lt
  refine hc.grown hg ?_ (fun k hk => Nat.le_trans hB (h1 k hk).1)
  obtain ⟨_, _, hw, _⟩ := hc
  exact fun e => own_apart h hw hne e.symm
theorem Cur.alloc {w : World} {B g n c : Nat} {A : Option Addr} (hc : Cur w B g A n c) (o : Obj) : Cur (w.alloc o) B g A n c :=
  hc.grown (row := none) ⟨rfl, rfl, rfl, by simp, fun k hk _ => Below.heap_alloc _ _ _ hk⟩ (by simp) (by simp)
theorem own_block_base {w : World} {base e size m : Nat} {v : Value} {xs : List Value} (h : w.ownsRow base e size v m xs) : ∀ k, v.ownBlock = some k → base ≤ k := fun k hk => (h.lt k hk).1

/-- What DrawPlaces leaves. -/
def Placed (w : World) (e : Ending) (w' : World) : Prop :=
  ∃ (v : Value) (xs : List Int), e = .returned v ∧ xs.length = 12 ∧ (∀ x ∈ xs, 0 ≤ x ∧ x < 10000) ∧ w'.ownsRow w.heap.size 3 1 v 12 (xs.map (Value.int .i64)) ∧ Below w.heap.size w w'

set_option maxHeartbeats 800000 in
theorem sPlaces (w : World) (A : Option Addr) (n c : Nat) (hb : Bys w w.heap.size A n) :
    Calls Try.prog 30 #[.slice A n c] w (Placed w) := by
  obtain ⟨i0, hi, hz0, hz1, hz2⟩ := info_parts int_info
  go_enter Try.func30, Try.ntmps30
  go_wp2_with fail
  refine (sNew _ w.heap.size A n c (Nat.le_refl _) hb).mono ?_
  rintro e w1 ⟨g, rfl, hc, hb1, hg⟩
  have hs1 := hb1.size
  go_wp2_with fail
  go_loopw [4, 5] (fun v i wr => ∃ (k : Nat) (xs : List Int), k ≤ 12 ∧ i = .int .i64 k ∧ Hid (xs.length = k) ∧ (∀ x ∈ xs, 0 ≤ x ∧ x < 10000) ∧ wr.ownsRow w.heap.size 3 1 v k (xs.map (Value.int .i64)) ∧ Cur wr w.heap.size g A n c ∧ Below w.heap.size w wr) (fun _ i _ => 12 - (intOf i).toNat)
  case atStart =>
    exact ⟨0, [], by omega, rfl, rfl, by simp, own_empty _ _ _ _ hs1, hc.alloc _, hb1.alloc hs1 _⟩
  case round =>
    obtain ⟨k, xs, hk, rfl, hl, hxs, hown, hcr, hbr⟩ := hrel
    have hXS := Lib.hid hxs
    clear hxs
    by_cases hlt : (k : Int) < 12
    · go_wp2_with fail
      refine (sBelow _ w.heap.size g A n c 10000 (by omega) hcr).mono ?_
      rintro e w2 ⟨x, rfl, hx, hc2, hg2⟩
      have hown2 := own_drawn hown hcr hg2 (by decide)
      have hb2 := hbr.grown hg2 hbr.size (fun k e => by injection e; omega)
      have hs2 := hb2.size
      go_wp2_with (at_builtin; refine wpList_append_own_at _ rfl _ _ 38 rfl w.heap.size 3 i0 (.int .i64 0) 1 8 Try.underlying38 hi hz0 hz1 hz2 rfl (by decide) _ _ _ rfl (hown2.alloc _) ⟨w2.heap.size, 0, none⟩ 1 1 [.int .i64 x] rfl rfl ?c1 ?c2 ?c3 ?c4 ?c5 ?_)
      case c1 =>
        intro j u hj
        match j, hj with
        | 0, hj => simp at hj; subst hj; simp [Addr.add]
      case c2 => intro u hu; simp at hu; subst hu; rfl
      case c3 => unfold maxLen; omega
      case c4 => omega
      case c5 => simp; omega
      intro v' w3 hown3 hg3 _ hat
      go_wp2
      go_roundw
      case rel =>
        refine ⟨k + 1, xs ++ [x], by omega, by go_num, ?_, ?_, ?_, cur_append (hc2.alloc _) (hown2.alloc _) hg3 (by decide) (Nat.le_refl _), (hb2.alloc hs2 _).grown hg3 (by simp; omega) (own_block_base hown2)⟩
        · show (xs ++ [x]).length = k + 1
          rw [List.length_append, hl.out]
          rfl
        · intro y hy
          rcases List.mem_append.1 hy with h | h
          · exact hXS.out y h
          · simp at h
            subst h
            exact ⟨hx.1, hx.2.1 (by omega)⟩
        · rw [List.map_append]
          exact hown3
      case measure => simp [intOf]; omega
    · go_wp2
      go_ret
      obtain rfl : k = 12 := by omega
      exact ⟨_, xs, rfl, hl.out, hXS.out, hown, hbr⟩

set_option maxHeartbeats 400000 in
theorem lBig (w : World) (A : Option Addr) (n c : Nat) (_hn : n ≤ 9223372036854775807) :
    Calls Try.prog 13 #[.slice A n c] w fun e w' => e = .returned (.bool (decide ((1048576 : Int) < n))) ∧ w = w' := by
  go_enter Try.func13, Try.ntmps13
  go_wp2
  go_ret
  exact ⟨rfl, rfl⟩
/-- The twelve numbers by their places. -/
def PlacedAt (w : World) (e : Ending) (w' : World) : Prop :=
  ∃ (g cap : Nat) (f : Nat → Int), e = .returned (.slice (some ⟨g, 0, none⟩) 12 cap) ∧ w.heap.size ≤ g ∧ g < w'.heap.size ∧ (∀ j, j < 12 → w'.cell? ⟨g, j, none⟩ = some (.int .i64 (f j)) ∧ 0 ≤ f j ∧ f j < 10000) ∧ Below w.heap.size w w'
theorem sPlacesAt (w : World) (A : Option Addr) (n c : Nat) (hb : Bys w w.heap.size A n) :
    Calls Try.prog 30 #[.slice A n c] w (PlacedAt w) := by
  refine (sPlaces w A n c hb).mono ?_
  rintro e w' ⟨v, xs, rfl, hl, hx, hown, hbl⟩
  have hown' := hown
  rcases hown.2 with ⟨_, h0⟩ | ⟨g, cap, cur, rfl, hg, hh, _⟩
  · omega
  · have hlt : g < w'.heap.size := Whole.lt (cs := cur) hh
    refine ⟨g, cap, fun j => xs.getD j 0, rfl, hg, hlt, fun j hj => ?_, hbl⟩
    have hc := hown'.cellAt j (by omega)
    have hj' : j < xs.length := by omega
    have hget : xs.getD j 0 = xs[j] := by rw [List.getD_eq_getElem?_getD, List.getElem?_eq_getElem hj']; rfl
    show _ = some (Value.int .i64 (xs.getD j 0)) ∧ 0 ≤ xs.getD j 0 ∧ xs.getD j 0 < 10000
    rw [hc, List.getElem?_map, List.getElem?_eq_getElem hj', hget]
    exact ⟨rfl, hx _ (List.getElem_mem hj')⟩
end Go.Proofs.Ytmbmpogdakoloaa
