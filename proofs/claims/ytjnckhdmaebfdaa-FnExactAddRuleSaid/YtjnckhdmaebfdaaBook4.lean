/- Marks in a copy of a book: the result and that all else stays. -/
import Derived.Test.YtjnckhdmaebfdaaBook2
namespace Go.Proofs.Ytjnckhdmaebfdaa
open Go.RowKit

/-- Only blocks from lo on and below hi were written, and new ones made. -/
def Mid (lo hi : Nat) (w w' : World) : Prop := Below lo w w' ∧ ∀ k, hi ≤ k → k < w.heap.size → w'.heap[k]? = w.heap[k]?
theorem Mid.refl (lo hi : Nat) (w : World) : Mid lo hi w w := ⟨Below.refl _ _, fun _ _ _ => rfl⟩
theorem Mid.trans {lo hi : Nat} {a b c : World} (h : Mid lo hi a b) (k : Mid lo hi b c) : Mid lo hi a c :=
  ⟨h.1.trans k.1, fun i hi' hl => (k.2 i hi' (Nat.lt_of_lt_of_le hl h.1.size)).trans (h.2 i hi' hl)⟩
theorem Mid.of_grown {lo hi g : Nat} {w w' : World} (h : w.grownBy w' (some g)) (hl : lo ≤ g) (hh : g < hi) (hs : lo ≤ w.heap.size) : Mid lo hi w w' :=
  ⟨below_of_grown h hl hs, fun i hi' hlt => h.block i hlt (by intro e; injection e with e; omega)⟩
theorem Mid.of_below {lo hi : Nat} {w w' : World} (h : Below w.heap.size w w') (hs : lo ≤ w.heap.size) : Mid lo hi w w' :=
  ⟨h.mono hs, fun i _ hlt => h.block i hlt⟩
theorem Mid.owr {lo hi base size n : Nat} {w w' : World} {e : TypeId} {v : Value} {F : Nat → Value} (h : OwR w base e size v n F) (hm : Mid lo hi w w') (hb : hi ≤ base) : OwR w' base e size v n F := by
  rcases h with h | ⟨g, cap, G, rfl, h2, h3, h4, h5, h6⟩
  · exact .inl h
  · exact .inr ⟨g, cap, G, rfl, h2, h3, h4, h5.of_block (hm.2 g (by omega) h5.lt), h6⟩
theorem Mid.own {lo hi base size n : Nat} {w w' : World} {e : TypeId} {v : Value} {xs : List Value} (h : w.ownsRow base e size v n xs) (hm : Mid lo hi w w') (hb : hi ≤ base) : w'.ownsRow base e size v n xs := by
  obtain ⟨hl, h⟩ := h
  rcases h with h | ⟨g, cap, cur, hv, hg, hh, h1, h2, h3, h4⟩
  · exact ⟨hl, .inl h⟩
  · exact ⟨hl, .inr ⟨g, cap, cur, hv, hg, (hm.2 g (by omega) (Whole.lt (cs := cur) hh)).trans hh, h1, h2, h3, h4⟩⟩

set_option maxHeartbeats 3200000 in
theorem markRules (w : World) (base hi g m : Nat) (R : Nat → Rn) (G : Nat → Nat) (k : Int) (h : CopR w g m R G) (hb : base ≤ g) (hgh : g < hi) (hGh : ∀ i, i < m → G i < hi) (hW : m + wtR R m ≤ 1048576) (hk : 0 ≤ k) (hk' : k ≤ 1048576) :
    Calls Try.prog 68 #[.slice (some ⟨g, 0, none⟩) m m, .int .i64 k] w fun e w' => (∃ s : Int, e = .returned (.int .i64 s) ∧ 0 ≤ s ∧ s ≤ 8388608) ∧ Mid base hi w w' := by
  obtain ⟨h1, h2, h3⟩ := h
  have hs6 : ∀ i, i < m → ruAt (mkR R G) (i * 7 + 6) = .slice (some ⟨G i, 0, none⟩) (R i).n (R i).n := fun i _ => ruAt6 (mkR R G) i
  have hgl := h1.lt
  go_enter Try.func68, Try.ntmps68
  go_wp2_with fail
  go_loopw [1, 5] (fun q i wr => ∃ (j : Nat) (F : Nat → Value), j ≤ m ∧ i = .int .i64 j ∧ q = .int .i64 (k + 6 * ((j + wtR R j : Nat) : Int)) ∧ wr.rowIs g 29 (m * 7) F ∧ (∀ i, i < m → F (i * 7 + 6) = .slice (some ⟨G i, 0, none⟩) (R i).n (R i).n) ∧ (∀ i, i < m → ∃ L, wr.rowIs (G i) 65 ((R i).n * 6) L) ∧ Mid base hi w wr) (fun _ i _ => m - (intOf i).toNat)
  case atStart => exact ⟨0, _, Nat.zero_le _, rfl, by simp [wtR], h1, hs6, fun i hq => ⟨_, (h2 i hq).2⟩, Mid.refl _ _ _⟩
  case round =>
    obtain ⟨j, F, hj, rfl, rfl, hr, hF, hL, hbr⟩ := hrel
    by_cases hlt : j < m
    · obtain ⟨s, hs⟩ : ∃ s : Int, s = k + 6 * ((j + wtR R j : Nat) : Int) := ⟨_, rfl⟩
      have hwt : wtR R j + (R j).n ≤ wtR R m := wtR_mono R (show j + 1 ≤ m by omega)
      have hsn : k + 6 * ((j + 1 + wtR R (j + 1) : Nat) : Int) = s + 6 + 6 * ((R j).n : Int) := by rw [hs, wtR]; push_cast; omega
      rw [← hs]
      have hs0 : 0 ≤ s := by omega
      have hs1 : s ≤ 1000000000 := by omega
      clear hs
      have hGj := (h2 j hlt).1
      obtain ⟨L, hLj⟩ := hL j hlt
      have hGl := hLj.lt
      have c0 := hr.cell (i := j * 7) (by omega)
      have c1 := hr.cell (i := j * 7 + 1) (by omega)
      have c2 := hr.cell (i := j * 7 + 2) (by omega)
      have c3 := hr.cell (i := j * 7 + 3) (by omega)
      have c4 := hr.cell (i := j * 7 + 4) (by omega)
      have c5 := hr.cell (i := j * 7 + 5) (by omega)
      have c6 := hr.cell (i := j * 7 + 6) (by omega)
      rw [hF j hlt] at c6
      have f0 := fun o => hr.frozen o
      have w1 : IntKind.i64.wrap (s + 1) = s + 1 := IntWalk.i64_in _ ⟨by omega, by omega⟩
      have w2 : IntKind.i64.wrap (s + 1 + 1) = s + 1 + 1 := IntWalk.i64_in _ ⟨by omega, by omega⟩
      have w3 : IntKind.i64.wrap (s + 1 + 1 + 1) = s + 1 + 1 + 1 := IntWalk.i64_in _ ⟨by omega, by omega⟩
      have w4 : IntKind.i64.wrap (s + 1 + 1 + 1 + 1) = s + 1 + 1 + 1 + 1 := IntWalk.i64_in _ ⟨by omega, by omega⟩
      have w5 : IntKind.i64.wrap (s + 1 + 1 + 1 + 1 + 1) = s + 1 + 1 + 1 + 1 + 1 := IntWalk.i64_in _ ⟨by omega, by omega⟩
      have w6 : IntKind.i64.wrap (s + 1 + 1 + 1 + 1 + 1 + 1) = s + 1 + 1 + 1 + 1 + 1 + 1 := IntWalk.i64_in _ ⟨by omega, by omega⟩
      have HF := Lib.hid hF
      have HL := Lib.hid hL
      clear hs6 h1 hF hL
      go_wp2_with fail
      have hgs := (grown_setCell (grown_setCell (grown_setCell (grown_setCell (grown_setCell (grown_setCell (grown_refl wr _) (p := ⟨g, j * 7, none⟩) rfl (.int .i64 s)) (p := ⟨g, j * 7 + 1, none⟩) rfl (.int .i64 (s + 1))) (p := ⟨g, j * 7 + 2, none⟩) rfl (.int .i64 (s + 1 + 1))) (p := ⟨g, j * 7 + 3, none⟩) rfl (.int .i64 (s + 1 + 1 + 1))) (p := ⟨g, j * 7 + 4, none⟩) rfl (.int .i64 (s + 1 + 1 + 1 + 1))) (p := ⟨g, j * 7 + 5, none⟩) rfl (.int .i64 (s + 1 + 1 + 1 + 1 + 1)))
      refine (markNodes _ base _ _ _ _ _ ((OwR.of_row hLj (by omega) (by unfold maxLen; omega)).kept hgs (by intro q hq; injection hq with hq; intro e; injection e with e; exact absurd (e.trans hq.symm) (by show ¬ g = G j; omega))) (by omega) (by omega) (by omega)).mono ?_
      rintro e w2 ⟨rfl, ho2, hg2⟩
      have hr2 := ((((((hr.set (j * 7) (.int .i64 (s))).set (j * 7 + 1) (.int .i64 (s + 1))).set (j * 7 + 2) (.int .i64 (s + 1 + 1))).set (j * 7 + 3) (.int .i64 (s + 1 + 1 + 1))).set (j * 7 + 4) (.int .i64 (s + 1 + 1 + 1 + 1))).set (j * 7 + 5) (.int .i64 (s + 1 + 1 + 1 + 1 + 1)))
      have HR := Lib.hid hr2
      have hbs := Mid.of_grown hgs hb hgh (by have := hbr.1.size; omega)
      have hGj2 := hGh j hlt
      go_wp2_with fail
      go_roundw
      case rel =>
        have hne2 : ∀ i, i < m → i ≠ j → G i ≠ G j := fun i hi e => by
          rcases Nat.lt_or_ge i j with q | q
          · have := h3 i j q hlt; omega
          · have := h3 j i (by omega) hi; omega
        have hg2' : World.grownBy _ w2 (some (G j)) := hg2
        refine ⟨j + 1, _, by omega, by go_num, ?_, HR.out.of_block (hg2'.block g HR.out.lt (by intro e; injection e with e; omega)), fun i hi => ?_, fun i hi => ?_, ?_⟩
        · refine congrArg (Value.int .i64) ?_
          omega
        · have hh := HF.out i hi
          rw [if_neg (by omega), if_neg (by omega), if_neg (by omega), if_neg (by omega), if_neg (by omega), if_neg (by omega)]
          exact hh
        · by_cases e : i = j
          · subst e
            rcases ho2 with ⟨hv, _⟩ | ⟨g', cap, G', hv, _, _, _, hr', _⟩
            · cases hv
            · injection hv with hv1 _ hv2
              injection hv1 with hv1
              injection hv1 with hv1
              subst hv1 hv2
              exact ⟨_, hr'⟩
          · obtain ⟨L', hL'⟩ := HL.out i hi
            have hne : G i ≠ g := by have := (h2 i hi).1; omega
            have hx := ((((((hL'.setOther (a := ⟨g, j * 7, none⟩) hne (.int .i64 (s))).setOther (a := ⟨g, j * 7 + 1, none⟩) hne (.int .i64 (s + 1))).setOther (a := ⟨g, j * 7 + 2, none⟩) hne (.int .i64 (s + 1 + 1))).setOther (a := ⟨g, j * 7 + 3, none⟩) hne (.int .i64 (s + 1 + 1 + 1))).setOther (a := ⟨g, j * 7 + 4, none⟩) hne (.int .i64 (s + 1 + 1 + 1 + 1))).setOther (a := ⟨g, j * 7 + 5, none⟩) hne (.int .i64 (s + 1 + 1 + 1 + 1 + 1)))
            exact ⟨L', hx.of_block (hg2'.block (G i) hx.lt (by intro q; injection q with q; exact hne2 i hi e q))⟩
        · exact hbr.trans (hbs.trans (Mid.of_grown hg2' (by omega) hGj2 (by have := hbs.1.size; have := hbr.1.size; omega)))
      case measure => simp [intOf]; omega
    · obtain rfl : j = m := by omega
      go_wp2_with fail
      go_ret
      exact ⟨⟨_, rfl, by omega⟩, hbr⟩

set_option maxHeartbeats 800000 in
theorem markBook (w : World) (base hi g m : Nat) (R : Nat → Rn) (G : Nat → Nat) (k : Int) (h : CopR w g m R G) (hb : base ≤ g) (hgh : g < hi) (hGh : ∀ i, i < m → G i < hi) (hB : base ≤ w.heap.size) (hW : m + wtR R m ≤ 1048576) (hk : 0 ≤ k) (hk' : k ≤ 1048576) :
    Calls Try.prog 35 #[.agg #[.slice (some ⟨g, 0, none⟩) m m], .int .i64 k] w fun e w' => (∃ s : Int, e = .returned (.int .i64 s) ∧ 0 ≤ s ∧ s ≤ 8388608) ∧ Mid base hi w w' := by
  have hbx := Mid.of_below (hi := hi) ((Below.refl w.heap.size w).alloc (Nat.le_refl _) (.cells #[.slice (some ⟨g, 0, none⟩) m m] 37)) hB
  go_enter Try.func35, Try.ntmps35
  go_wp2_with fail
  refine (markRules _ base hi g m R G k (h.below ((Below.refl _ _).alloc (Nat.le_refl _) _)) hb hgh hGh hW hk hk').mono ?_
  rintro e w1 ⟨⟨s, rfl, hs⟩, hb1⟩
  go_wp2_with fail
  go_ret
  exact ⟨⟨s, rfl, hs⟩, hbx.trans hb1⟩
end Go.Proofs.Ytjnckhdmaebfdaa
