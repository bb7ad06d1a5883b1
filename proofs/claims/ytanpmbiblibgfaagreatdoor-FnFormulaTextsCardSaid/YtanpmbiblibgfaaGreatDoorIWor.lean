/- The words of a formula, by the program. Conditions: the nodes can be read, the table lies as the library lays it. -/
import Derived.Test.YtanpmbiblibgfaaGreatDoorFmtI
import Derived.Test.YtanpmbiblibgfaaGreatDoorWds
import Derived.Test.YtanpmbiblibgfaaGreatDoorGb
import Derived.Deep.Cut
import Derived.Deep.DeepCutAuto
import Derived.Maps.AppendAt
namespace Go.Proofs.YtanpmbiblibgfaaGreatDoor
open Go.RowKit Go.Lib
set_option linter.unusedVariables false
set_option linter.unusedSimpArgs false
theorem str_inf : (Tryz.prog.info? 9).map (fun i => (i.zero, i.size, i.bytes)) = some (some (.string ByteArray.empty), 1, 16) := by kernel_rfl
/-- Words as cells. -/
abbrev strs (ws : List (List UInt8)) : List Value := ws.map strV
theorem own_one (w : World) (base : Nat) (h : base ≤ w.heap.size) (x : List UInt8) : (w.alloc (.cells #[strV x] 9)).ownsRow base 9 1 (.slice (some ⟨w.heap.size, 0, none⟩) 1 1) 1 (strs [x]) :=
  ⟨by simp, .inr ⟨w.heap.size, 1, #[strV x], rfl, h, Whole.new w 9 #[strV x], Nat.le_refl _, by unfold maxLen; omega, by simp, by simp⟩⟩
/-- The cells of an owned row of words. -/
theorem own_cells {w : World} {base n c : Nat} {B : Option Addr} {ws : List (List UInt8)} (h : w.ownsRow base 9 1 (.slice B n c) n (strs ws)) (hn : 1 ≤ n) : ∃ g, B = some ⟨g, 0, none⟩ ∧ base ≤ g ∧ g < w.heap.size ∧ n ≤ c ∧ ws.length = n ∧ ∀ (j : Nat) x, ws[j]? = some x → w.cell? ⟨g, j, none⟩ = some (strV x) := by
  obtain ⟨hl, h'⟩ := h
  have hl2 : ws.length = n := by simpa using hl
  have hr := OwR.of_own ⟨hl, h'⟩
  rcases hr with ⟨_, h0⟩ | ⟨g, cap, G, hv, hg, hn1, hm, hr, hG⟩
  · omega
  · injection hv with hv1 _ hv2
    subst hv1 hv2
    refine ⟨g, rfl, hg, hr.lt, hn1, hl2, fun j x hx => ?_⟩
    have hj : j < ws.length := (List.getElem?_eq_some_iff.1 hx).1
    rw [hr.cell (i := j) (by omega), hG j (by omega)]
    show some ((strs ws).getD j undef) = _
    rw [List.getD_eq_getElem?_getD, List.getElem?_map, hx]
    rfl
theorem own_news {w : World} {g : Nat} {zs : List (List UInt8)} (h : ∀ (j : Nat) x, zs[j]? = some x → w.cell? ⟨g, j, none⟩ = some (strV x)) : ∀ j u, (strs zs)[j]? = some u → w.cell? ((⟨g, 0, none⟩ : Addr).add j) = some u := by
  intro j u hu
  rw [List.getElem?_map] at hu
  cases hq : zs[j]? with
  | none => rw [hq] at hu; cases hu
  | some x =>
    rw [hq] at hu
    injection hu with hu
    rw [← hu]
    have ha : Addr.add ⟨g, 0, none⟩ j = ⟨g, j, none⟩ := by unfold Addr.add; split <;> simp_all
    rw [ha]
    exact h j x hq
theorem strs_one (zs : List (List UInt8)) : ∀ u ∈ strs zs, u.oneCell' = true := by
  intro u hu
  obtain ⟨x, _, rfl⟩ := List.mem_map.1 hu
  rfl
set_option maxHeartbeats 800000 in
theorem iKindWords (w : World) :
    Calls Tryz.prog 28 #[] w fun e w' => ∃ g : Nat, e = .returned (.slice (some ⟨g, 0, none⟩) 7 7) ∧ w.heap.size ≤ g ∧ g < w'.heap.size ∧ (∀ k : Nat, k < 7 → w'.cell? ⟨g, k, none⟩ = some (strV (nameL ((k : Int) + 3)))) ∧ Below w.heap.size w w' := by
  have pK := Whole.new w 9 #[.string ⟨#[43]⟩, .string ⟨#[45]⟩, .string ⟨#[42]⟩, .string ⟨#[47]⟩, .string ⟨#[109, 105, 110]⟩, .string ⟨#[109, 97, 120]⟩, .string ⟨#[112, 105, 99, 107]⟩]
  go_enter Tryz.func28, Tryz.ntmps28
  go_wp2
  go_ret
  refine ⟨w.heap.size, rfl, Nat.le_refl _, by simp, fun k hk => ?_, (by (repeat (first | (with_reducible exact Below.refl _ _) | (with_reducible assumption) | (with_reducible refine Below.drew ?_) | (with_reducible refine below_drewN ?_ _) | ((with_reducible refine Below.setCell ?_ ?_ _); rotate_left; focus (first | (simp; done) | omega | (simp; omega))) | ((with_reducible refine Below.alloc ?_ ?_ _); rotate_left; focus (first | exact Nat.le_refl _ | omega | (simp; done) | (simp; omega))))))⟩
  rcases (show k = 0 ∨ k = 1 ∨ k = 2 ∨ k = 3 ∨ k = 4 ∨ k = 5 ∨ k = 6 by omega) with rfl | rfl | rfl | rfl | rfl | rfl | rfl
  all_goals exact pK.cell _
/-- The operands' slice, in a block of its own. -/
def OpW (w : World) (xs : List Int) (e : Ending) (w' : World) : Prop := ∃ g : Nat, e = .returned (.slice (some ⟨g, 0, none⟩) xs.length xs.length) ∧ Whole w' g 3 (xs.map (Value.int .i64)).toArray ∧ Below w.heap.size w w'
set_option maxHeartbeats 800000 in
theorem iOpW9 (k x y z p q : Int) (hk : k = 9) (w : World) :
    Calls Tryz.prog 16 #[.agg #[.int .i64 k, .int .i64 x, .int .i64 y, .int .i64 z, .int .i64 p, .int .i64 q]] w (OpW w [x, y, z]) := by
  subst hk
  go_enter Tryz.func16, Tryz.ntmps16
  go_wp2_with fail
  refine bodyPost_ret (v := .slice (some ⟨w.heap.size + 1, 0, none⟩) 3 3) (by simp [results, Tryz.results16, go_sem]) rfl ⟨w.heap.size + 1, rfl, ?_, (by (repeat (first | (with_reducible exact Below.refl _ _) | (with_reducible assumption) | (with_reducible refine Below.drew ?_) | (with_reducible refine below_drewN ?_ _) | ((with_reducible refine Below.setCell ?_ ?_ _); rotate_left; focus (first | (simp; done) | omega | (simp; omega))) | ((with_reducible refine Below.alloc ?_ ?_ _); rotate_left; focus (first | exact Nat.le_refl _ | omega | (simp; done) | (simp; omega))))))⟩
  have k0 := Whole.new (w.alloc (.cells #[.int .i64 9, .int .i64 x, .int .i64 y, .int .i64 z, .int .i64 p, .int .i64 q] 46)) 3 #[.int .i64 x, .int .i64 y, .int .i64 z]
  simpa using k0
set_option maxHeartbeats 800000 in
theorem iOpW2 (k x y z p q : Int) (hk : 3 ≤ k ∧ k ≤ 8) (w : World) :
    Calls Tryz.prog 16 #[.agg #[.int .i64 k, .int .i64 x, .int .i64 y, .int .i64 z, .int .i64 p, .int .i64 q]] w (OpW w [x, y]) := by
  have k9 : (k == 9) = false := by simp; omega
  have ki : inB k 3 8 = true := by rw [inB_iff]; exact hk
  go_enter Tryz.func16, Tryz.ntmps16
  go_wp2_with (go_at_call 30; refine (within_any _ _ _ _).mono ?_; rintro e w' ⟨rfl, rfl⟩)
  refine bodyPost_ret (v := .slice (some ⟨w.heap.size + 1, 0, none⟩) 2 2) (by simp [results, Tryz.results16, go_sem]) rfl ⟨w.heap.size + 1, rfl, ?_, (by (repeat (first | (with_reducible exact Below.refl _ _) | (with_reducible assumption) | (with_reducible refine Below.drew ?_) | (with_reducible refine below_drewN ?_ _) | ((with_reducible refine Below.setCell ?_ ?_ _); rotate_left; focus (first | (simp; done) | omega | (simp; omega))) | ((with_reducible refine Below.alloc ?_ ?_ _); rotate_left; focus (first | exact Nat.le_refl _ | omega | (simp; done) | (simp; omega))))))⟩
  have k0 := Whole.new (w.alloc (.cells #[.int .i64 k, .int .i64 x, .int .i64 y, .int .i64 z, .int .i64 p, .int .i64 q] 46)) 3 #[.int .i64 x, .int .i64 y]
  simpa using k0
theorem iOpW (s : No) (h3 : 3 ≤ s.k) (h9 : s.k ≤ 9) (w : World) : Calls Tryz.prog 16 #[s.val] w (OpW w (opL s)) := by
  by_cases h : s.k = 9
  · rw [opL_pick h]
    exact iOpW9 _ _ _ _ _ _ h w
  · rw [opL_two h3 (by omega)]
    exact iOpW2 _ _ _ _ _ _ ⟨h3, by omega⟩ w
theorem ints_at (O : List Int) {j : Nat} (h : j < O.length) : (O.map (Value.int .i64)).toArray[j]? = some (.int .i64 (O.getD j 0)) := by
  rw [List.getElem?_toArray, List.getElem?_map, List.getElem?_eq_getElem h, List.getD_eq_getElem?_getD, List.getElem?_eq_getElem h]
  rfl
/-- The words of the first j operands behind the name. -/
def wacc (N : Nat → No) (s : No) (j : Nat) : List (List UInt8) := [nameL s.k] ++ ((opL s).take j).flatMap fun z => wd N z.toNat
theorem wacc_zero (N : Nat → No) (s : No) : wacc N s 0 = [nameL s.k] := by simp [wacc]
theorem wacc_succ (N : Nat → No) (s : No) {j : Nat} (h : j < (opL s).length) : wacc N s (j + 1) = wacc N s j ++ wd N ((opL s).getD j 0).toNat := by
  rw [wacc, wacc, List.take_succ_eq_append_getElem h, List.flatMap_append, List.getD_eq_getElem?_getD, List.getElem?_eq_getElem h]
  simp
theorem wacc_all {N : Nat → No} {k : Nat} (h : nodeB (N k) (k : Int) = true) (h3 : 3 ≤ (N k).k) : wacc N (N k) (opL (N k)).length = wd N k := by
  rcases nodeB_parts h with ⟨h1, -⟩ | ⟨h1, -⟩ | ⟨h1, h2, a0, a1, b0, b1⟩ | ⟨h1, a0, a1, b0, b1, c0, c1⟩
  · omega
  · omega
  · rw [wacc, opL_two h1 h2, wd_two h1 h2 (by omega) (by omega)]
    simp
  · rw [wacc, opL_pick h1, wd_pick h1 (by omega) (by omega) (by omega)]
    simp
theorem wacc_len (N : Nat → No) (s : No) : ∀ {i j : Nat}, i ≤ j → (wacc N s i).length ≤ (wacc N s j).length := by
  intro i j h
  rw [wacc, wacc, List.length_append, List.length_append]
  have : (opL s).take j = (opL s).take i ++ ((opL s).take j).drop i := by
    conv => lhs; rw [← List.take_append_drop i ((opL s).take j)]
    rw [List.take_take, Nat.min_eq_left h]
  rw [this, List.flatMap_append, List.length_append]
  omega

set_option maxRecDepth 8000 in
set_option maxHeartbeats 6400000 in
theorem iNodeWords (A : Option Addr) (n c : Nat) (N : Nat → No) (hok : nodesOk N n) (hn : n ≤ 1099511627776) : ∀ k, k < n → (wd N k).length ≤ 24 → ∀ w, RdNo w w.heap.size A n N → LaidW w →
    Calls Tryz.prog 14 #[.slice A n c, .int .i64 (k : Int)] w fun e w' => ∃ (B : Option Addr) (cc : Nat), e = .returned (.slice B (wd N k).length cc) ∧ w'.ownsRow w.heap.size 9 1 (.slice B (wd N k).length cc) (wd N k).length (strs (wd N k)) ∧ Below w.heap.size w w' := by
  intro k
  induction k using Nat.strongRecOn with
  | ind k ih =>
    intro hk hc w hN hT
    obtain ⟨i0, hi, hz0, hz1, hz2⟩ := info_parts str_inf
    have hnb0 := hok k hk
    have hnb := nodeB_parts hnb0
    obtain ⟨b, off, rfl, hbB, g0, g1, g2, g3, g4, g5⟩ := hN.2 k hk
    have hki : (k : Int) < n := by omega
    have IH : ∀ (z : Int), 0 ≤ z → z < k → (wd N z.toNat).length ≤ 24 → ∀ v, RdNo v v.heap.size (some ⟨b, off, none⟩) n N → LaidW v → Calls Tryz.prog 14 #[.slice (some ⟨b, off, none⟩) n c, .int .i64 z] v fun e w' => ∃ (B : Option Addr) (cc : Nat), e = .returned (.slice B (wd N z.toNat).length cc) ∧ w'.ownsRow v.heap.size 9 1 (.slice B (wd N z.toNat).length cc) (wd N z.toNat).length (strs (wd N z.toNat)) ∧ Below v.heap.size v w' := fun z h0 h1 h2 v hv hl => by
      have k0 := ih z.toNat (by omega) (by omega) h2 v hv hl
      rw [show ((z.toNat : Nat) : Int) = z by omega] at k0
      exact k0
    clear ih
    have HNE := Lib.hid (fun i (hi : i < n) => wd_ne hok i hi)
    have HAT := Lib.hid (opL_at hnb0)
    have HALL := Lib.hid (fun h => wacc_all hnb0 h)
    have hwd1 := fun h => wd_const (N := N) (k := k) h
    have hwd2 := fun h => wd_var (N := N) (k := k) h
    obtain ⟨ws, hws⟩ : ∃ ws, ws = wd N k := ⟨_, rfl⟩
    rw [← hws] at hc hwd1 hwd2 HALL ⊢
    obtain ⟨s, hs⟩ : ∃ s, s = N k := ⟨_, rfl⟩
    rw [← hs] at g0 g1 g2 g3 g4 g5 hnb hwd1 hwd2 HAT HALL
    have pN : Whole (w.alloc (.cells #[.int .i64 s.k, .int .i64 s.a, .int .i64 s.b, .int .i64 s.c, .int .i64 s.p, .int .i64 s.q] 46)) w.heap.size 46 #[.int .i64 s.k, .int .i64 s.a, .int .i64 s.b, .int .i64 s.c, .int .i64 s.p, .int .i64 s.q] := Whole.new _ _ _
    have hbx : Below w.heap.size w (w.alloc (.cells #[.int .i64 s.k, .int .i64 s.a, .int .i64 s.b, .int .i64 s.c, .int .i64 s.p, .int .i64 s.q] 46)) := (by (repeat (first | (with_reducible exact Below.refl _ _) | (with_reducible assumption) | (with_reducible refine Below.drew ?_) | (with_reducible refine below_drewN ?_ _) | ((with_reducible refine Below.setCell ?_ ?_ _); rotate_left; focus (first | (simp; done) | omega | (simp; omega))) | ((with_reducible refine Below.alloc ?_ ?_ _); rotate_left; focus (first | exact Nat.le_refl _ | omega | (simp; done) | (simp; omega))))))
    obtain ⟨w1, hw1⟩ : ∃ v, v = (w.alloc (.cells #[.int .i64 s.k, .int .i64 s.a, .int .i64 s.b, .int .i64 s.c, .int .i64 s.p, .int .i64 s.q] 46)) := ⟨_, rfl⟩
    rw [← hw1] at pN hbx
    have rd := (hN.below hbx).more hbx.size
    have hT1 := hT.below hbx
    have hne : ¬ b = w.heap.size := by omega
    have hs1 := hbx.size
    have HNR := Lib.hid hN
    clear hs hN hws hnb0
    go_enter Tryz.func14, Tryz.ntmps14
    go_upto_region 2 with fail
    rw [← hw1]
    clear hw1 hne hbB g0 g1 g2 g3 g4 g5
    by_cases h3 : 3 ≤ s.k
    · have hk9 : s.k ≤ 9 := by omega
      obtain ⟨kk, hkk⟩ : ∃ kk : Nat, s.k = (kk : Int) + 3 := ⟨(s.k - 3).toNat, by omega⟩
      have hkk7 : kk < 7 := by omega
      have t1 : (s.k == 1) = false := by simp; omega
      have t2 : (s.k == 2) = false := by simp; omega
      have c0 : w1.cell? ⟨w.heap.size, 0, none⟩ = some (.int .i64 s.k) := pN.cell 0
      have c1 : w1.cell? ⟨w.heap.size, 1, none⟩ = some (.int .i64 s.a) := pN.cell 1
      have c2 : w1.cell? ⟨w.heap.size, 2, none⟩ = some (.int .i64 s.b) := pN.cell 2
      have c3 : w1.cell? ⟨w.heap.size, 3, none⟩ = some (.int .i64 s.c) := pN.cell 3
      have c4 : w1.cell? ⟨w.heap.size, 4, none⟩ = some (.int .i64 s.p) := pN.cell 4
      have c5 : w1.cell? ⟨w.heap.size, 5, none⟩ = some (.int .i64 s.q) := pN.cell 5
      have zN := pN.lt
      rw [hkk] at c0
      have e3 : IntKind.i64.wrap ((kk : Int) + 3 - 3) = kk := by rw [show (kk : Int) + 3 - 3 = kk by omega]; exact IntWalk.i64_in _ ⟨by omega, by omega⟩
      have HKK := Lib.hid hkk
      have e4 : IntKind.i64.wrap (kk : Int) = kk := IntWalk.i64_in _ ⟨by omega, by omega⟩
      have hk7i : (kk : Int) < 7 := by omega
      clear hkk hwd1 hwd2 hnb h3 hk9
      go_upto_region 7 with fail
      go_cut [6] (fun s6 wx => ∃ g : Nat, s6 = .slice (some ⟨g, 0, none⟩) 1 1 ∧ wx.ownsRow w.heap.size 9 1 (.slice (some ⟨g, 0, none⟩) 1 1) 1 (strs [nameL s.k]) ∧ Below w1.heap.size w1 wx)
      case first =>
        go_region_with (go_at_call 28; refine (iKindWords _).mono ?_; rintro e w2 ⟨g, rfl, hgl, hgz, hgc, hb2⟩; have hbl : Below w1.heap.size w1 w2 := (show Below w1.heap.size w1 _ from (by (repeat (first | (with_reducible exact Below.refl _ _) | (with_reducible assumption) | (with_reducible refine Below.drew ?_) | (with_reducible refine below_drewN ?_ _) | ((with_reducible refine Below.setCell ?_ ?_ _); rotate_left; focus (first | (simp; done) | omega | (simp; omega))) | ((with_reducible refine Below.alloc ?_ ?_ _); rotate_left; focus (first | exact Nat.le_refl _ | omega | (simp; done) | (simp; omega))))))).trans (hb2.mono (by first | exact Nat.le_refl _ | (simp; done) | (simp; omega))); have hs2 := hbl.size; have k0 := (hbl.cell (p := ⟨w.heap.size, 0, none⟩) zN).trans c0; have kc := hgc kk hkk7; have hwg : ¬ w.heap.size = g := (by first | omega | (simp at hgl; omega)); clear hb2 hgl)
        all_goals
          go_wp2_with fail
          go_meet
          exact ⟨_, rfl, by rw [HKK.out]; exact own_one _ _ (by omega) _, by first | exact hbl.alloc hbl.size _ | (exact Below.alloc (by assumption) (by first | omega | (simp; omega)) _)⟩
      case rest =>
        clear c0 c1 c2 c3 c4 c5 zN e3 e4 hk7i
        obtain ⟨g, rfl, own, hbc⟩ := hcut
        have hsc := hbc.size
        have pN2 := pN.below hbc pN.lt
        have rd2 := (rd.below hbc).more hsc
        have hT2 := hT1.below hbc
        have hB := hbx.trans (hbc.mono hs1)
        clear pN rd hT1 hbx hbc
        have d0 : wc.cell? ⟨w.heap.size, 0, none⟩ = some (.int .i64 s.k) := pN2.cell 0
        have d1 : wc.cell? ⟨w.heap.size, 1, none⟩ = some (.int .i64 s.a) := pN2.cell 1
        have d2 : wc.cell? ⟨w.heap.size, 2, none⟩ = some (.int .i64 s.b) := pN2.cell 2
        have d3 : wc.cell? ⟨w.heap.size, 3, none⟩ = some (.int .i64 s.c) := pN2.cell 3
        have d4 : wc.cell? ⟨w.heap.size, 4, none⟩ = some (.int .i64 s.p) := pN2.cell 4
        have d5 : wc.cell? ⟨w.heap.size, 5, none⟩ = some (.int .i64 s.q) := pN2.cell 5
        have zN := pN2.lt
        obtain ⟨O, hO⟩ : ∃ O : List Int, O = opL s := ⟨_, rfl⟩
        have OC := fun (v : World) => iOpW s (by rw [HKK.out]; omega) (by rw [HKK.out]; omega) v
        rw [← hO] at OC HAT HALL
        have HW0 := Lib.hid (wacc_zero N s)
        have HWS := Lib.hid (show ∀ j, j < O.length → wacc N s (j + 1) = wacc N s j ++ wd N (O.getD j 0).toNat by rw [hO]; exact fun j h => wacc_succ N s h)
        have HWL := Lib.hid (fun (i j : Nat) (h : i ≤ j) => wacc_len N s h)
        obtain ⟨ol, hol⟩ : ∃ ol, ol = O.length := ⟨_, rfl⟩
        obtain ⟨OF, hOF⟩ : ∃ OF : Nat → Int, OF = fun j => O.getD j 0 := ⟨_, rfl⟩
        obtain ⟨OA, hOA⟩ : ∃ OA : Array Value, OA = (O.map (Value.int .i64)).toArray := ⟨_, rfl⟩
        have OC2 : ∀ v : World, Calls Tryz.prog 16 #[s.val] v fun e w' => ∃ g : Nat, e = .returned (.slice (some ⟨g, 0, none⟩) ol ol) ∧ Whole w' g 3 OA ∧ Below v.heap.size v w' := by rw [hol, hOA]; exact OC
        have HAT2 := Lib.hid (show ∀ j, j < ol → OA[j]? = some (.int .i64 (OF j)) by rw [hol, hOA, hOF]; exact fun j h => ints_at O h)
        have hol3 : ol ≤ 3 := by rw [hol, hO]; exact opL_len s
        have HA2 := Lib.hid (show ∀ j, j < ol → 0 ≤ OF j ∧ OF j < (k : Int) by rw [hol, hOF]; exact HAT.out)
        have HS2 := Lib.hid (show ∀ j, j < ol → wacc N s (j + 1) = wacc N s j ++ wd N (OF j).toNat by rw [hol, hOF]; exact HWS.out)
        have hal := HALL.out (by rw [HKK.out]; omega)
        rw [← hol] at hal
        have HF := Lib.hid hal
        clear hal HALL HWS HAT OC hO hol hOF hOA
        go_wp2_with fail
        refine (OC2 _).mono ?_
        rintro e w5 ⟨gO, rfl, pO, hb5⟩
        clear OC2 d0 d1 d2 d3 d4 d5 zN pN2
        have own5 := own.kept (grown_of_below hb5 none) (Classical.em _)
        have hB5 := hB.trans (hb5.mono hB.size)
        clear own rd2 hT2 hB hb5
        go_wp2_with fail
        go_loopw [6, 38] (fun v i wr => ∃ (j : Nat) (xs : List (List UInt8)) (B : Option Addr) (cc : Nat), j ≤ ol ∧ i = .int .i64 j ∧ Hid (xs = wacc N s j) ∧ v = .slice B xs.length cc ∧ wr.ownsRow w.heap.size 9 1 (.slice B xs.length cc) xs.length (strs xs) ∧ Whole wr gO 3 OA ∧ Below w.heap.size w wr) (fun _ i _ => ol - (Go.RowKit.intOf i).toNat)
        case atStart => exact ⟨0, [nameL s.k], _, _, Nat.zero_le _, rfl, Lib.hid (by rw [HW0.out]), rfl, own5, pO, hB5⟩
        case round =>
          clear own5 hB5 pO
          obtain ⟨j, xs, B, cc, hj, rfl, hx, rfl, own, pO, hbr⟩ := hrel
          have hsr := hbr.size
          by_cases hlt : j < ol
          · have hlt2 : (j : Int) < ol := by omega
            have go := (pO.cell j).trans (HAT2.out j hlt)
            have zO := pO.lt
            have rd := (HNR.out.below hbr).more hsr
            have hz := HA2.out j hlt
            have hst := HS2.out j hlt
            obtain ⟨z, hzz⟩ : ∃ z, z = OF j := ⟨_, rfl⟩
            rw [← hzz] at go hz hst
            clear hzz
            have hle := HWL.out (j + 1) ol (by omega)
            rw [hst, List.length_append, ← hx.out, HF.out] at hle
            have hw24 : (wd N z.toNat).length ≤ 24 := by omega
            have hx24 : xs.length ≤ 24 := by omega
            have hxz : xs ++ wd N z.toNat = wacc N s (j + 1) := by rw [hst, hx.out]
            have HXZ := Lib.hid hxz
            have hzn := HNE.out z.toNat (by omega)
            have II := IH z hz.1 hz.2 hw24 wr rd (hT.below hbr)
            obtain ⟨zs, hzs⟩ : ∃ zs, zs = wd N z.toNat := ⟨_, rfl⟩
            rw [← hzs] at II hzn hw24 HXZ
            clear hst hle hxz hzs hx hz
            have hzl : 1 ≤ zs.length := by cases zs with
                | nil => exact absurd rfl hzn
                | cons _ _ => simp
            go_wp2_with fail
            refine II.mono ?_
            rintro e w6 ⟨B6, c6, rfl, own6, hb6⟩
            clear II go hlt2 zO rd
            have hs6 := hb6.size
            obtain ⟨g6, rfl, hgl6, hgz6, hnc6, -, hcell6⟩ := own_cells own6 hzl
            have ownX := own.kept (grown_of_below hb6 none) (Classical.em _)
            have pO6 := pO.below hb6 pO.lt
            have hB6 := hbr.trans (hb6.mono hsr)
            have hb6z := hb6
            go_wp2_with (at_builtin; refine wpList_append_own_at _ rfl _ _ 41 rfl w.heap.size 9 i0 (.string ByteArray.empty) 1 16 Tryz.underlying41 hi hz0 hz1 hz2 rfl (by decide) _ _ _ rfl (ownX) ⟨g6, 0, none⟩ zs.length c6 (strs zs) rfl ?c1 ?c2 ?c3 ?c4 ?c5 ?c6 ?_)
            case c1 => simp
            case c2 => exact own_news hcell6
            case c3 => exact strs_one zs
            case c4 => unfold maxLen; omega
            case c5 => omega
            case c6 => first | omega | (simp; omega)
            intro v' w7 hown7 hg7 _ hat
            have hB7 : Below w.heap.size w w7 := hB6.grown hg7 hB6.size (fun q hq => (ownX.lt q hq).1)
            obtain ⟨B7, c7, rfl⟩ := (OwR.of_own hown7).form
            have pO7 := pO6.grown hg7 (fun e => own_apart ownX pO6 (by decide) e.symm)
            clear hcell6 own6 ownX hg7 hat pO6
            go_wp2_with fail
            go_roundw
            case rel => exact ⟨j + 1, xs ++ zs, B7, c7, hlt, by go_num, HXZ, by rw [List.length_append], by rw [List.length_append, show strs (xs ++ zs) = strs xs ++ strs zs from List.map_append]; exact hown7, pO7, hB7⟩
            case measure => (simp [Go.RowKit.intOf]; try omega)
          · obtain rfl : j = ol := by omega
            have hx2 := hx.out
            rw [HF.out] at hx2
            subst hx2
            go_wp2_with fail
            go_ret
            exact ⟨B, cc, rfl, own, hbr⟩
    · by_cases h1 : s.k = 1
      · have hw := hwd1 h1
        clear hwd1 hwd2 IH HAT HALL HNE hnb
        have t1 : (s.k == 1) = true := by simp; omega
        have c0 : w1.cell? ⟨w.heap.size, 0, none⟩ = some (.int .i64 s.k) := pN.cell 0
        have c1 : w1.cell? ⟨w.heap.size, 1, none⟩ = some (.int .i64 s.a) := pN.cell 1
        have c2 : w1.cell? ⟨w.heap.size, 2, none⟩ = some (.int .i64 s.b) := pN.cell 2
        have c3 : w1.cell? ⟨w.heap.size, 3, none⟩ = some (.int .i64 s.c) := pN.cell 3
        have c4 : w1.cell? ⟨w.heap.size, 4, none⟩ = some (.int .i64 s.p) := pN.cell 4
        have c5 : w1.cell? ⟨w.heap.size, 5, none⟩ = some (.int .i64 s.q) := pN.cell 5
        have zN := pN.lt
        have HW := Lib.hid hw
        clear h1 h3 hw
        go_wp2_with fail
        refine (iFormatFrac _ _ _ hT1).mono ?_
        rintro e w2 ⟨rfl, hb2⟩
        go_wp2_with fail
        go_ret
        have hq := hbx.trans (hb2.mono hbx.size)
        refine ⟨some ⟨w2.heap.size, 0, none⟩, 1, by rw [HW.out]; rfl, ?_, hq.alloc hq.size _⟩
        rw [HW.out]
        exact own_one w2 _ hq.size _
      · have h2 : s.k = 2 := by omega
        have ha := hnb
        have hw := hwd2 h2
        have hla : ((itoa s.a).length : Int) ≤ 14 := by have := itoa_len (n := s.a) (by omega) (by omega); omega
        have hcat : ByteArray.mk #[118] ++ ByteArray.mk (itoa s.a).toArray = ByteArray.mk (118 :: itoa s.a).toArray := ByteArray.mk_append_mk [118] (itoa s.a)
        have h7 : -9223372036854775808 ≤ s.a ∧ s.a ≤ 9223372036854775807 := by omega
        clear hwd1 hwd2 IH HAT HALL HNE hnb ha
        have t1 : (s.k == 1) = false := by simp; omega
        have t2 : (s.k == 2) = true := by simp; omega
        have c0 : w1.cell? ⟨w.heap.size, 0, none⟩ = some (.int .i64 s.k) := pN.cell 0
        have c1 : w1.cell? ⟨w.heap.size, 1, none⟩ = some (.int .i64 s.a) := pN.cell 1
        have c2 : w1.cell? ⟨w.heap.size, 2, none⟩ = some (.int .i64 s.b) := pN.cell 2
        have c3 : w1.cell? ⟨w.heap.size, 3, none⟩ = some (.int .i64 s.c) := pN.cell 3
        have c4 : w1.cell? ⟨w.heap.size, 4, none⟩ = some (.int .i64 s.p) := pN.cell 4
        have c5 : w1.cell? ⟨w.heap.size, 5, none⟩ = some (.int .i64 s.q) := pN.cell 5
        have zN := pN.lt
        have HW := Lib.hid hw
        have HC := Lib.hid hcat
        clear h1 h2 h3 hw hcat
        go_wp2_with fail
        refine (iFormatInt s.a h7.1 h7.2 _ hT1).mono ?_
        rintro e w2 ⟨rfl, hb2⟩
        go_wp2_with fail
        go_ret
        have hq := hbx.trans (hb2.mono hbx.size)
        refine ⟨some ⟨w2.heap.size, 0, none⟩, 1, by rw [HW.out]; rfl, ?_, hq.alloc hq.size _⟩
        rw [HW.out]
        have k0 := own_one w2 _ hq.size (118 :: itoa s.a)
        first | exact k0 | (rw [← HC.out] at k0; exact k0)
end Go.Proofs.YtanpmbiblibgfaaGreatDoor
