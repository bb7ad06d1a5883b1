/- The variables that a formula needs, of the program. Conditions: the nodes can be read. -/
import Derived.Test.YtdccdoodmiihbaaFSize
import Derived.Deep.OwnRows
import Derived.Deep.Cut
namespace Go.Proofs.Ytdccdoodmiihbaa
open Go.RowKit

set_option linter.unusedVariables false
/-- Where the node q is needed, its variable and its operands are. -/
def closedP (N : Nat → No) (nd o : Nat → Bool) (q : Nat) : Prop := ((N q).k = 2 → o (N q).a.toNat = true) ∧ ∀ t, t < (opL (N q)).length → nd ((opL (N q)).getD t 0).toNat = true
theorem closedP.mono {N : Nat → No} {nd o nd' o' : Nat → Bool} {q : Nat} (h : closedP N nd o q) (hn : ∀ i, nd i = true → nd' i = true) (ho : ∀ i, o i = true → o' i = true) : closedP N nd' o' q :=
  ⟨fun hk => ho _ (h.1 hk), fun t ht => hn _ (h.2 t ht)⟩
def setB (f : Nat → Bool) (k : Nat) (i : Nat) : Bool := if i = k then true else f i
theorem setB_same (f : Nat → Bool) (k : Nat) : setB f k k = true := by rw [setB, if_pos rfl]
theorem setB_up (f : Nat → Bool) (k i : Nat) (h : f i = true) : setB f k i = true := by
  by_cases e : i = k
  · rw [setB, if_pos e]
  · rw [setB, if_neg e]; exact h
theorem setB_ne (f : Nat → Bool) {k i : Nat} (h : i ≠ k) : setB f k i = f i := by rw [setB, if_neg h]
abbrev rowB (w : World) (g n : Nat) (f : Nat → Bool) : Prop := w.rowIs g 4 n (fun i => .bool (f i))
theorem rowB_set {w : World} {g n : Nat} {f : Nat → Bool} (h : rowB w g n f) (k : Nat) : rowB (w.setCell ⟨g, k, none⟩ (.bool true)) g n (setB f k) :=
  (World.rowIs.set h k (.bool true)).congr fun i hi => by
    show (if i = k then Value.bool true else .bool (f i)) = .bool (setB f k i)
    rw [setB]
    split <;> rfl
theorem rowB_below {w w' : World} {g n : Nat} {f : Nat → Bool} (h : rowB w g n f) (hb : Below w.heap.size w w') : rowB w' g n f := World.rowIs.of_block h (hb.block g (World.rowIs.lt h))
theorem RdI_set {w : World} {A : Option Addr} {n g m : Nat} {z : Nat → Int} {f : Nat → Bool} (h : RdI w w.heap.size A n z) (hr : rowB w g m f) (k : Nat) (v : Value) : RdI (w.setCell ⟨g, k, none⟩ v) (w.setCell ⟨g, k, none⟩ v).heap.size A n z :=
  ⟨h.1, fun i hi => by
    obtain ⟨b, off, e, hlt, hc⟩ := h.2 i hi
    have hne : b ≠ g := by
      intro e2
      subst e2
      obtain ⟨cc, hb, hn, hall⟩ := hr
      simp [World.cell?, hb] at hc
      by_cases hl : off + i < m
      · rw [hall _ hl] at hc
        injection hc with hc
        cases hc
      · rw [Array.getElem?_eq_none (by omega)] at hc
        cases hc
    refine ⟨b, off, e, by simpa [World.setCell] using hlt, ?_⟩
    rw [← hc]
    exact World.cell?_of_block (Deep.blk_setCell_other _ _ _ _ hne)⟩
theorem make_bools (n : Nat) (hn : n ≤ 1000) (w : World) : (Instr.makeSlice 36 (.int .i64 (n : Int)) (.int .i64 (n : Int))).run Try.prog w = .ok (.slice (some ⟨w.heap.size, 0, none⟩) n n) (w.alloc (.cells (madeCells #[Value.bool false] n) 4)) :=
  run_make_row' 36 4 (.bool false) 1 Try.underlying36 (by kernel_rfl) rfl .i64 .i64 n (by omega) (by omega) w

set_option maxRecDepth 8000 in
set_option maxHeartbeats 6400000 in
theorem iVarsOf (w : World) (A : Option Addr) (n c : Nat) (N : Nat → No) (hN : RdNo w w.heap.size A n N) (hn : n ≤ 1099511627776) (t1 : formB n N = true) :
    Calls Try.prog 16 #[.slice A n c] w fun e w' => ∃ (g : Nat) (o nd : Nat → Bool), e = .returned (.slice (some ⟨g, 0, none⟩) 8 8) ∧ g < w'.heap.size ∧ (∀ i, i < 8 → w'.cell? ⟨g, i, none⟩ = some (.bool (o i))) ∧ nd (n - 1) = true ∧ (∀ q, q < n → nd q = true → closedP N nd o q) ∧ Below w.heap.size w w' := by
  have hn1 := hN.1
  have FO := fun (v : World) (hv : RdNo v v.heap.size A n N) => iFormulaOk v A n c N hv hn
  rw [t1] at FO
  have HNB := Lib.hid (formB_at t1)
  have hn30 := formB_len t1
  clear t1
  have hmk8 : ∀ w : World, (Instr.makeSlice 36 (.int .i64 8) (.int .i64 8)).run Try.prog w = .ok (.slice (some ⟨w.heap.size, 0, none⟩) 8 8) (w.alloc (.cells (madeCells #[Value.bool false] 8) 4)) := make_bools 8 (by omega)
  obtain ⟨p0, rfl⟩ : ∃ p, n = p + 1 := ⟨n - 1, by omega⟩
  have hmk : ∀ w : World, (Instr.makeSlice 36 (.int .i64 ((p0 : Int) + 1)) (.int .i64 ((p0 : Int) + 1))).run Try.prog w = .ok (.slice (some ⟨w.heap.size, 0, none⟩) (p0 + 1) (p0 + 1)) (w.alloc (.cells (madeCells #[Value.bool false] (p0 + 1)) 4)) := fun w => by have k := make_bools (p0 + 1) (by omega) w; push_cast at k; exact k
  have e0 : IntKind.i64.wrap ((p0 : Int) + 1 - 1) = p0 := by rw [show (p0 : Int) + 1 - 1 = p0 by omega]; exact IntWalk.i64_in _ ⟨by omega, by omega⟩
  skip
  go_enter Try.func16, Try.ntmps16
  go_wp2_with fail
  refine (FO _ hN).mono ?_
  rintro e w1 ⟨rfl, hb1⟩
  clear FO
  have r1 : rowB (w1.alloc (.cells (madeCells #[Value.bool false] 8) 4)) w1.heap.size 8 (fun _ => false) := World.rowIs_made w1 (.bool false) 8 4
  have r2 : rowB ((w1.alloc (.cells (madeCells #[Value.bool false] 8) 4)).alloc (.cells (madeCells #[Value.bool false] (p0 + 1)) 4)) (w1.heap.size + 1) (p0 + 1) (fun _ => false) := by have k := World.rowIs_made (w1.alloc (.cells (madeCells #[Value.bool false] 8) 4)) (.bool false) (p0 + 1) 4; simpa using k
  replace r1 := r1.alloc (.cells (madeCells #[Value.bool false] (p0 + 1)) 4)
  obtain ⟨w2, hw2⟩ : ∃ v, v = (w1.alloc (.cells (madeCells #[Value.bool false] 8) 4)).alloc (.cells (madeCells #[Value.bool false] (p0 + 1)) 4) := ⟨_, rfl⟩
  have hB2 : Below w.heap.size w w2 := by rw [hw2]; exact (hb1.alloc hb1.size _).alloc (by simp; have := hb1.size; omega) _
  rw [← hw2] at r1 r2
  obtain ⟨bo, hbo⟩ : ∃ b, b = w1.heap.size := ⟨_, rfl⟩
  have hbw : w.heap.size ≤ bo := by rw [hbo]; exact hb1.size
  obtain ⟨bn, hbn⟩ : ∃ b, b = w1.heap.size + 1 := ⟨_, rfl⟩
  have hbb : bo < bn := by omega
  rw [← hbn] at r2
  rw [← hbo] at r1
  go_upto_region 5 with fail
  rw [← hw2]
  rw [← hbn]
  rw [← hbo]
  clear hw2 hbn hbo hb1 hmk hmk8
  have c2 := r2.cell (i := p0) (by omega)
  have f2 := r2.frozen p0
  have hp0 : (p0 : Int) < (p0 : Int) + 1 := by omega
  have zr2 := r2.lt
  obtain ⟨w3, hw3⟩ : ∃ v, v = w2.setCell ⟨bn, p0, none⟩ (.bool true) := ⟨_, rfl⟩
  have r3 : rowB w3 bn (p0 + 1) (setB (fun _ => false) p0) := by rw [hw3]; exact rowB_set r2 p0
  have r4 : rowB w3 bo 8 (fun _ => false) := by rw [hw3]; exact r1.setOther (by show bo ≠ bn; omega) _
  have hB3 : Below w.heap.size w w3 := by rw [hw3]; exact hB2.setCell (by show w.heap.size ≤ bn; omega) _
  go_upto_region 6 with fail
  rw [← hw3]
  clear hw3 r1 r2 c2 f2 zr2 hB2
  go_wp2_with fail
  go_loopw [5] (fun i wr => ∃ (j : Nat) (nd o : Nat → Bool), j ≤ p0 + 1 ∧ i = .int .i64 ((j : Int) - 1) ∧ Hid (nd p0 = true ∧ ∀ q, j ≤ q → q < p0 + 1 → nd q = true → closedP N nd o q) ∧ rowB wr bo 8 o ∧ rowB wr bn (p0 + 1) nd ∧ Below w.heap.size w wr) (fun i _ => (intOf i + 1).toNat)
  case atStart => exact ⟨p0 + 1, _, _, Nat.le_refl _, by push_cast; rw [show (p0 : Int) + 1 - 1 = p0 by omega], Lib.hid ⟨setB_same _ _, fun q h1 h2 => by omega⟩, r4, r3, hB3⟩
  case round =>
    clear r3 r4 hB3
    obtain ⟨j, nd, o, hj, rfl, HC, ro, rn, hbr⟩ := hrel
    have hs1 := hbr.size
    obtain ⟨wo, hwo⟩ : ∃ v, v = wr := ⟨_, rfl⟩
    rw [← hwo] at ro rn hbr hs1 ⊢
    clear hwo
    cases j with
    | zero =>
      have em : (((0 : Nat) : Int) - 1) = -1 := rfl
      rw [em]
      go_wp2_with fail
      go_ret
      exact ⟨bo, o, nd, rfl, ro.lt, fun i hi => ro.cell hi, HC.out.1, fun q hq h => HC.out.2 q (by omega) hq h, hbr⟩
    | succ p =>
      have em : (((p + 1 : Nat) : Int) - 1) = (p : Int) := by omega
      rw [em]
      have hpn : p < p0 + 1 := by omega
      have hp1 : (p : Int) < (p0 : Int) + 1 := by omega
      have hp2 : (0 : Int) ≤ (p : Int) := by omega
      have cn := rn.cell hpn
      have e2 : IntKind.i64.wrap ((p : Int) - 1) = (p : Int) - 1 := IntWalk.i64_in _ ⟨by omega, by omega⟩
      cases hq : nd p
      · rw [hq] at cn
        have HQ := Lib.hid hq
        clear hq em
        go_wp2_with fail
        go_roundw
        case rel => exact ⟨p, nd, o, Nat.le_of_lt hpn, rfl, Lib.hid ⟨HC.out.1, fun q h1 h2 h3 => by rcases Nat.eq_or_lt_of_le h1 with h | h; (subst h; exact absurd h3 (by rw [HQ.out]; simp)); exact HC.out.2 q h h2 h3⟩, ro, rn, hbr⟩
        case measure => (simp [intOf]; try omega)
      · rw [hq] at cn
        clear hq em
        obtain ⟨b0, off0, rfl, hbB0, g0, g1, g2, g3, g4, g5⟩ := (hN.below hbr).2 p hpn
        by_cases k2 : (N p).k = 2
        · have hak := nodeB_parts (HNB.out p hpn)
          obtain ⟨a8, ha8⟩ : ∃ a : Nat, (N p).a = (a : Int) ∧ a < 8 := ⟨(N p).a.toNat, by omega, by omega⟩
          obtain ⟨ha9, ha8⟩ := ha8
          have ha10 : (a8 : Int) < 8 := by omega
          rw [ha9] at g1
          have t2 : ((N p).k == 2) = true := by simp; omega
          have HA9 := Lib.hid ha9
          clear ha9 k2
          have co := ro.cell ha8
          have fo := ro.frozen a8
          have zo := ro.lt
          clear hak
          obtain ⟨wn, hwn⟩ : ∃ v, v = wo.setCell ⟨bo, a8, none⟩ (.bool true) := ⟨_, rfl⟩
          have ro2 : rowB wn bo 8 (setB o a8) := by rw [hwn]; exact rowB_set ro a8
          have rn2 : rowB wn bn (p0 + 1) nd := by rw [hwn]; exact rn.setOther (by show bn ≠ bo; omega) _
          have hb2 : Below w.heap.size w wn := by rw [hwn]; exact hbr.setCell (by show w.heap.size ≤ bo; omega) _
          have HO := Lib.hid (fun i (h : o i = true) => setB_up o a8 i h)
          have HO2 : Hid ((N p).k = 2 → setB o a8 (N p).a.toNat = true) := Lib.hid (fun _ => by rw [HA9.out, Int.toNat_natCast]; exact setB_same _ _)
          obtain ⟨o2, ho2⟩ : ∃ o2, o2 = setB o a8 := ⟨_, rfl⟩
          rw [← ho2] at ro2 HO HO2
          go_upto_region 12 with fail
          rw [← hwn]
          clear hwn ho2 co fo zo g0 g1 g2 g3 g4 g5
          have hsn := hb2.size
          obtain ⟨b, off, hAe, hbB, g0, g1, g2, g3, g4, g5⟩ := (hN.below hb2).2 p hpn
          obtain ⟨rfl, rfl⟩ : b0 = b ∧ off0 = off := by injection hAe with e; injection e with e1 e2; exact ⟨e1, e2⟩
          clear hAe
          obtain ⟨O, hO⟩ : ∃ O : List Int, O = opL (N p) := ⟨_, rfl⟩
          have OC := fun (v : World) => iOperands (N p) v
          rw [← hO] at OC
          have HOA := Lib.hid (show ∀ j, j < O.length → 0 ≤ O.getD j 0 ∧ O.getD j 0 < (p : Int) by rw [hO]; exact opL_at (HNB.out p hpn))
          have HOO := Lib.hid hO
          clear hO
          obtain ⟨ol, hol⟩ : ∃ ol, ol = O.length := ⟨_, rfl⟩
          obtain ⟨OF, hOF⟩ : ∃ OF : Nat → Int, OF = fun j => O.getD j 0 := ⟨_, rfl⟩
          have OC2 : ∀ v : World, Calls Try.prog 33 #[(N p).val] v fun e w' => ∃ (B : Option Addr) (cc : Nat), e = .returned (.slice B ol cc) ∧ RdI w' w'.heap.size B ol OF ∧ Below v.heap.size v w' := by rw [hol, hOF]; exact OC
          have HOA2 := Lib.hid (show ∀ j, j < ol → 0 ≤ OF j ∧ OF j < (p : Int) by rw [hol, hOF]; exact HOA.out)
          have HOL := Lib.hid (show ol ≤ 3 by rw [hol, HOO.out]; exact opL_len _)
          have hol3 := HOL.out
          have HCP := Lib.hid (show ∀ nd2 : Nat → Bool, (∀ s, s < ol → nd2 (OF s).toNat = true) → closedP N nd2 o2 p from fun nd2 h => ⟨HO2.out, fun t ht => by have k := h t (by rw [hol, HOO.out]; exact ht); rw [hOF, HOO.out] at k; exact k⟩)
          clear OC HOA hol hOF HOO
          go_wp2_with fail
          refine (OC2 _).mono ?_
          rintro e w5 ⟨OB, oc, rfl, hOr, hb5⟩
          have rn5 := rowB_below rn2 hb5
          have ro5 := rowB_below ro2 hb5
          have hB5 := hb2.trans (hb5.mono hsn)
          have hs5 := hB5.size
          clear hb5 OC2 g0 g1 g2 g3 g4 g5 rn2 ro2 hb2
          go_wp2_with fail
          go_loopw [51] (fun i wq => ∃ (t : Nat) (nd2 : Nat → Bool), t ≤ ol ∧ i = .int .i64 t ∧ Hid ((∀ q, nd q = true → nd2 q = true) ∧ (∀ q, p ≤ q → nd2 q = nd q) ∧ ∀ s, s < t → nd2 (OF s).toNat = true) ∧ rowB wq bo 8 o2 ∧ rowB wq bn (p0 + 1) nd2 ∧ RdI wq wq.heap.size OB ol OF ∧ Below w.heap.size w wq) (fun i _ => ol - (intOf i).toNat)
          case atStart => exact ⟨0, nd, Nat.zero_le _, rfl, Lib.hid ⟨fun _ h => h, fun _ _ => rfl, fun s hs => absurd hs (Nat.not_lt_zero s)⟩, ro5, rn5, hOr, hB5⟩
          case round =>
            clear ro5 rn5 hOr hB5 hs5
            obtain ⟨t, nd2, ht, rfl, HT, ro6, rn6, hOr, hb6⟩ := hrel
            by_cases htl : t < ol
            · have htl2 : (t : Int) < ol := by omega
              obtain ⟨ob, ooff, rfl, hob, go⟩ := hOr.2 t htl
              obtain ⟨z, hz⟩ := Int.eq_ofNat_of_zero_le (HOA2.out t htl).1
              have hzp : z < p := by have := (HOA2.out t htl).2; omega
              rw [hz] at go
              have hzn : z < p0 + 1 := by omega
              have hzn2 : (z : Int) < (p0 : Int) + 1 := by omega
              have cz := rn6.cell hzn
              have fz := rn6.frozen z
              have zz := rn6.lt
              have HZ := Lib.hid hz
              clear hz
              have R1 : rowB (wr.setCell ⟨bn, z, none⟩ (.bool true)) bo 8 o2 := World.rowIs.setOther ro6 (show bo ≠ bn by omega) _
              have R2 := rowB_set rn6 z
              have R3 := RdI_set hOr rn6 z (.bool true)
              have R4 : Below w.heap.size w (wr.setCell ⟨bn, z, none⟩ (.bool true)) := hb6.setCell (show w.heap.size ≤ bn by omega) _
              have R5 : Hid ((∀ q, nd q = true → setB nd2 z q = true) ∧ (∀ q, p ≤ q → setB nd2 z q = nd q) ∧ ∀ s, s < t + 1 → setB nd2 z (OF s).toNat = true) := Lib.hid ⟨fun q h => setB_up _ _ _ (HT.out.1 q h), fun q h => by rw [setB_ne _ (by omega)]; exact HT.out.2.1 q h, fun s hs => by
                by_cases e : s = t
                · subst e; rw [HZ.out, Int.toNat_natCast]; exact setB_same _ _
                · exact setB_up _ _ _ (HT.out.2.2 s (by omega))⟩
              clear HT HZ
              go_wp2_with fail
              go_roundw
              case rel => exact ⟨t + 1, setB nd2 z, htl, by go_num, R5, R1, R2, R3, R4⟩
              case measure => (simp [intOf]; try omega)
            · obtain rfl : t = ol := by omega
              have R5 : Hid (nd2 p0 = true ∧ ∀ q, p ≤ q → q < p0 + 1 → nd2 q = true → closedP N nd2 o2 q) := Lib.hid ⟨HT.out.1 p0 HC.out.1, fun q h1 h2 h3 => by rcases Nat.eq_or_lt_of_le h1 with h | h; (subst h; exact HCP.out nd2 HT.out.2.2); exact (HC.out.2 q h h2 (by rw [← HT.out.2.1 q h1]; exact h3)).mono HT.out.1 HO.out⟩
              clear HT HC
              go_wp2_with fail
              go_roundw
              case rel => exact ⟨p, nd2, o2, Nat.le_of_lt hpn, rfl, R5, ro6, rn6, hb6⟩
              case measure => (simp [intOf]; try omega)
        · have t2 : ((N p).k == 2) = false := by simp; omega
          have ro2 := ro
          have rn2 := rn
          have hb2 := hbr
          obtain ⟨wn, hwn⟩ : ∃ v, v = wo := ⟨_, rfl⟩
          rw [← hwn] at ro2 rn2 hb2
          have HO := Lib.hid (fun i (h : o i = true) => h)
          have HO2 : Hid ((N p).k = 2 → o (N p).a.toNat = true) := Lib.hid (fun h => absurd h k2)
          obtain ⟨o2, ho2⟩ : ∃ o2, o2 = o := ⟨_, rfl⟩
          rw [← ho2] at ro2
          have HO3 := Lib.hid ho2
          go_upto_region 12 with fail
          rw [← hwn]
          clear hwn ho2 g0 g1 g2 g3 g4 g5
          have hsn := hb2.size
          obtain ⟨b, off, hAe, hbB, g0, g1, g2, g3, g4, g5⟩ := (hN.below hb2).2 p hpn
          obtain ⟨rfl, rfl⟩ : b0 = b ∧ off0 = off := by injection hAe with e; injection e with e1 e2; exact ⟨e1, e2⟩
          clear hAe
          obtain ⟨O, hO⟩ : ∃ O : List Int, O = opL (N p) := ⟨_, rfl⟩
          have OC := fun (v : World) => iOperands (N p) v
          rw [← hO] at OC
          have HOA := Lib.hid (show ∀ j, j < O.length → 0 ≤ O.getD j 0 ∧ O.getD j 0 < (p : Int) by rw [hO]; exact opL_at (HNB.out p hpn))
          have HOO := Lib.hid hO
          clear hO
          obtain ⟨ol, hol⟩ : ∃ ol, ol = O.length := ⟨_, rfl⟩
          obtain ⟨OF, hOF⟩ : ∃ OF : Nat → Int, OF = fun j => O.getD j 0 := ⟨_, rfl⟩
          have OC2 : ∀ v : World, Calls Try.prog 33 #[(N p).val] v fun e w' => ∃ (B : Option Addr) (cc : Nat), e = .returned (.slice B ol cc) ∧ RdI w' w'.heap.size B ol OF ∧ Below v.heap.size v w' := by rw [hol, hOF]; exact OC
          have HOA2 := Lib.hid (show ∀ j, j < ol → 0 ≤ OF j ∧ OF j < (p : Int) by rw [hol, hOF]; exact HOA.out)
          have HOL := Lib.hid (show ol ≤ 3 by rw [hol, HOO.out]; exact opL_len _)
          have hol3 := HOL.out
          have HCP := Lib.hid (show ∀ nd2 : Nat → Bool, (∀ s, s < ol → nd2 (OF s).toNat = true) → closedP N nd2 o2 p from fun nd2 h => ⟨(fun h => by rw [HO3.out]; exact HO2.out h), fun t ht => by have k := h t (by rw [hol, HOO.out]; exact ht); rw [hOF, HOO.out] at k; exact k⟩)
          clear OC HOA hol hOF HOO
          go_wp2_with fail
          refine (OC2 _).mono ?_
          rintro e w5 ⟨OB, oc, rfl, hOr, hb5⟩
          have rn5 := rowB_below rn2 hb5
          have ro5 := rowB_below ro2 hb5
          have hB5 := hb2.trans (hb5.mono hsn)
          have hs5 := hB5.size
          clear hb5 OC2 g0 g1 g2 g3 g4 g5 rn2 ro2 hb2
          go_wp2_with fail
          go_loopw [51] (fun i wq => ∃ (t : Nat) (nd2 : Nat → Bool), t ≤ ol ∧ i = .int .i64 t ∧ Hid ((∀ q, nd q = true → nd2 q = true) ∧ (∀ q, p ≤ q → nd2 q = nd q) ∧ ∀ s, s < t → nd2 (OF s).toNat = true) ∧ rowB wq bo 8 o2 ∧ rowB wq bn (p0 + 1) nd2 ∧ RdI wq wq.heap.size OB ol OF ∧ Below w.heap.size w wq) (fun i _ => ol - (intOf i).toNat)
          case atStart => exact ⟨0, nd, Nat.zero_le _, rfl, Lib.hid ⟨fun _ h => h, fun _ _ => rfl, fun s hs => absurd hs (Nat.not_lt_zero s)⟩, ro5, rn5, hOr, hB5⟩
          case round =>
            clear ro5 rn5 hOr hB5 hs5
            obtain ⟨t, nd2, ht, rfl, HT, ro6, rn6, hOr, hb6⟩ := hrel
            by_cases htl : t < ol
            · have htl2 : (t : Int) < ol := by omega
              obtain ⟨ob, ooff, rfl, hob, go⟩ := hOr.2 t htl
              obtain ⟨z, hz⟩ := Int.eq_ofNat_of_zero_le (HOA2.out t htl).1
              have hzp : z < p := by have := (HOA2.out t htl).2; omega
              rw [hz] at go
              have hzn : z < p0 + 1 := by omega
              have hzn2 : (z : Int) < (p0 : Int) + 1 := by omega
              have cz := rn6.cell hzn
              have fz := rn6.frozen z
              have zz := rn6.lt
              have HZ := Lib.hid hz
              clear hz
              have R1 : rowB (wr.setCell ⟨bn, z, none⟩ (.bool true)) bo 8 o2 := World.rowIs.setOther ro6 (show bo ≠ bn by omega) _
              have R2 := rowB_set rn6 z
              have R3 := RdI_set hOr rn6 z (.bool true)
              have R4 : Below w.heap.size w (wr.setCell ⟨bn, z, none⟩ (.bool true)) := hb6.setCell (show w.heap.size ≤ bn by omega) _
              have R5 : Hid ((∀ q, nd q = true → setB nd2 z q = true) ∧ (∀ q, p ≤ q → setB nd2 z q = nd q) ∧ ∀ s, s < t + 1 → setB nd2 z (OF s).toNat = true) := Lib.hid ⟨fun q h => setB_up _ _ _ (HT.out.1 q h), fun q h => by rw [setB_ne _ (by omega)]; exact HT.out.2.1 q h, fun s hs => by
                by_cases e : s = t
                · subst e; rw [HZ.out, Int.toNat_natCast]; exact setB_same _ _
                · exact setB_up _ _ _ (HT.out.2.2 s (by omega))⟩
              clear HT HZ
              go_wp2_with fail
              go_roundw
              case rel => exact ⟨t + 1, setB nd2 z, htl, by go_num, R5, R1, R2, R3, R4⟩
              case measure => (simp [intOf]; try omega)
            · obtain rfl : t = ol := by omega
              have R5 : Hid (nd2 p0 = true ∧ ∀ q, p ≤ q → q < p0 + 1 → nd2 q = true → closedP N nd2 o2 q) := Lib.hid ⟨HT.out.1 p0 HC.out.1, fun q h1 h2 h3 => by rcases Nat.eq_or_lt_of_le h1 with h | h; (subst h; exact HCP.out nd2 HT.out.2.2); exact (HC.out.2 q h h2 (by rw [← HT.out.2.1 q h1]; exact h3)).mono HT.out.1 (fun i h => by rw [HO3.out]; exact h)⟩
              clear HT HC
              go_wp2_with fail
              go_roundw
              case rel => exact ⟨p, nd2, o2, Nat.le_of_lt hpn, rfl, R5, ro6, rn6, hb6⟩
              case measure => (simp [intOf]; try omega)
end Go.Proofs.Ytdccdoodmiihbaa
