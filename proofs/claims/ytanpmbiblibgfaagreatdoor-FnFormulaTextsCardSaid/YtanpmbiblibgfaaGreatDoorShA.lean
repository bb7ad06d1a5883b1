/- Layings of contracts of the library (written by the kit's own tool for this dump). Conditions: none. -/
import Derived.Test.YtanpmbiblibgfaaGreatDoorGa
import Derived.Test.YtanpmbiblibgfaaGreatDoorRows
import Derived.LaidSub
import Derived.Test.YtanpmbiblibgfaaGreatDoorShI
import Derived.Test.YtanpmbiblibgfaaGreatDoorTxtL
import Derived.BigQuiet
import Derived.Deep.QuietTactic
import Derived.Shelf.Strconv.ErrVarAll
import Derived.Shelf.Strings.Search2
import Derived.Shelf.LaysC
namespace Go.Proofs.YtanpmbiblibgfaaGreatDoor
open Go.Shelf
def laysC172_ren : Go.Shelf.Ren := ⟨fun | 172 => 49 | 244 => 66 | 245 => 67 | 247 => 76 | 279 => 77 | 280 => 78 | 281 => 79 | 282 => 80 | 287 => 86 | 316 => 87 | 171 => 45 | 205 => 88 | 321 => 98 | 322 => 99 | 243 => 63 | 246 => 73 | 283 => 82 | 284 => 83 | 285 => 84 | 286 => 85 | 129 => 94 | 317 => 93 | 318 => 95 | 319 => 96 | 320 => 97 | 337 => 102 | 338 => 103 | n => n, fun | 9 => 9 | 3 => 3 | 75 => 66 | 76 => 67 | 4 => 4 | 5 => 5 | 167 => 125 | 37 => 22 | 0 => 0 | 85 => 126 | 2 => 2 | 168 => 128 | 53 => 133 | 175 => 140 | 46 => 96 | 210 => 144 | 127 => 87 | 145 => 155 | 143 => 153 | 21 => 21 | 171 => 132 | 173 => 136 | 212 => 148 | 51 => 105 | 20 => 20 | 213 => 149 | 232 => 159 | 233 => 160 | 80 => 69 | n => n, fun | 15 => 3 | 16 => 4 | 17 => 5 | 18 => 6 | 19 => 7 | n => n⟩
theorem laysC172 : Go.Proofs.LaysC.n172 Tryz.prog laysC172_ren := {
  mixed := by kernel_rfl
  f129 := Tryz.func94.trans (congrArg some (by kernel_rfl))
  f171 := Tryz.func45.trans (congrArg some (by kernel_rfl))
  f172 := Tryz.func49.trans (congrArg some (by kernel_rfl))
  f205 := Tryz.func88.trans (congrArg some (by kernel_rfl))
  f243 := Tryz.func63.trans (congrArg some (by kernel_rfl))
  f244 := Tryz.func66.trans (congrArg some (by kernel_rfl))
  f245 := Tryz.func67.trans (congrArg some (by kernel_rfl))
  f246 := Tryz.func73.trans (congrArg some (by kernel_rfl))
  f247 := Tryz.func76.trans (congrArg some (by kernel_rfl))
  f279 := Tryz.func77.trans (congrArg some (by kernel_rfl))
  f280 := Tryz.func78.trans (congrArg some (by kernel_rfl))
  f281 := Tryz.func79.trans (congrArg some (by kernel_rfl))
  f282 := Tryz.func80.trans (congrArg some (by kernel_rfl))
  f283 := Tryz.func82.trans (congrArg some (by kernel_rfl))
  f284 := Tryz.func83.trans (congrArg some (by kernel_rfl))
  f285 := Tryz.func84.trans (congrArg some (by kernel_rfl))
  f286 := Tryz.func85.trans (congrArg some (by kernel_rfl))
  f287 := Tryz.func86.trans (congrArg some (by kernel_rfl))
  f316 := Tryz.func87.trans (congrArg some (by kernel_rfl))
  f317 := Tryz.func93.trans (congrArg some (by kernel_rfl))
  f318 := Tryz.func95.trans (congrArg some (by kernel_rfl))
  f319 := Tryz.func96.trans (congrArg some (by kernel_rfl))
  f320 := Tryz.func97.trans (congrArg some (by kernel_rfl))
  f321 := Tryz.func98.trans (congrArg some (by kernel_rfl))
  f322 := Tryz.func99.trans (congrArg some (by kernel_rfl))
  f337 := Tryz.func102.trans (congrArg some (by kernel_rfl))
  f338 := Tryz.func103.trans (congrArg some (by kernel_rfl))
  t0 := Tryz.underlying0
  a0 := Tryz.isAgg0
  z0 := Tryz.sizeOf0
  v0 := Tryz.zeroValue0
  t2 := Tryz.underlying2
  a2 := Tryz.isAgg2
  z2 := Tryz.sizeOf2
  v2 := Tryz.zeroValue2
  t3 := Tryz.underlying3
  a3 := Tryz.isAgg3
  z3 := Tryz.sizeOf3
  v3 := Tryz.zeroValue3
  t4 := Tryz.underlying4
  a4 := Tryz.isAgg4
  z4 := Tryz.sizeOf4
  v4 := Tryz.zeroValue4
  t5 := Tryz.underlying5
  a5 := Tryz.isAgg5
  z5 := Tryz.sizeOf5
  v5 := Tryz.zeroValue5
  t9 := Tryz.underlying9
  a9 := Tryz.isAgg9
  z9 := Tryz.sizeOf9
  v9 := Tryz.zeroValue9
  t20 := Tryz.underlying20
  a20 := Tryz.isAgg20
  z20 := Tryz.sizeOf20
  v20 := Tryz.zeroValue20
  t21 := Tryz.underlying21
  a21 := Tryz.isAgg21
  z21 := Tryz.sizeOf21
  v21 := Tryz.zeroValue21
  t37 := Tryz.underlying22
  a37 := Tryz.isAgg22
  z37 := Tryz.sizeOf22
  v37 := Tryz.zeroValue22
  t46 := Tryz.underlying96
  a46 := Tryz.isAgg96
  z46 := Tryz.sizeOf96
  v46 := Tryz.zeroValue96
  t51 := Tryz.underlying105
  a51 := Tryz.isAgg105
  z51 := Tryz.sizeOf105
  v51 := Tryz.zeroValue105
  t53 := Tryz.underlying133
  a53 := Tryz.isAgg133
  z53 := Tryz.sizeOf133
  v53 := Tryz.zeroValue133
  t75 := Tryz.underlying66
  a75 := Tryz.isAgg66
  z75 := Tryz.sizeOf66
  v75 := Tryz.zeroValue66
  t76 := Tryz.underlying67
  a76 := Tryz.isAgg67
  z76 := Tryz.sizeOf67
  v76 := Tryz.zeroValue67
  t85 := Tryz.underlying126
  a85 := Tryz.isAgg126
  z85 := Tryz.sizeOf126
  v85 := Tryz.zeroValue126
  t127 := Tryz.underlying87
  a127 := Tryz.isAgg87
  z127 := Tryz.sizeOf87
  v127 := Tryz.zeroValue87
  t143 := Tryz.underlying153
  a143 := Tryz.isAgg153
  z143 := Tryz.sizeOf153
  v143 := Tryz.zeroValue153
  t145 := Tryz.underlying155
  a145 := Tryz.isAgg155
  z145 := Tryz.sizeOf155
  v145 := Tryz.zeroValue155
  t167 := Tryz.underlying125
  a167 := Tryz.isAgg125
  z167 := Tryz.sizeOf125
  v167 := Tryz.zeroValue125
  t168 := Tryz.underlying128
  a168 := Tryz.isAgg128
  z168 := Tryz.sizeOf128
  v168 := Tryz.zeroValue128
  t171 := Tryz.underlying132
  a171 := Tryz.isAgg132
  z171 := Tryz.sizeOf132
  v171 := Tryz.zeroValue132
  t173 := Tryz.underlying136
  a173 := Tryz.isAgg136
  z173 := Tryz.sizeOf136
  v173 := Tryz.zeroValue136
  t175 := Tryz.underlying140
  a175 := Tryz.isAgg140
  z175 := Tryz.sizeOf140
  v175 := Tryz.zeroValue140
  t210 := Tryz.underlying144
  a210 := Tryz.isAgg144
  z210 := Tryz.sizeOf144
  v210 := Tryz.zeroValue144
  t212 := Tryz.underlying148
  a212 := Tryz.isAgg148
  z212 := Tryz.sizeOf148
  v212 := Tryz.zeroValue148
  t213 := Tryz.underlying149
  a213 := Tryz.isAgg149
  z213 := Tryz.sizeOf149
  t232 := Tryz.underlying159
  a232 := Tryz.isAgg159
  z232 := Tryz.sizeOf159
  v232 := Tryz.zeroValue159
  t233 := Tryz.underlying160
  a233 := Tryz.isAgg160
  z233 := Tryz.sizeOf160
  v233 := Tryz.zeroValue160
  g15 := by kernel_rfl
  g16 := by kernel_rfl
  g17 := by kernel_rfl
  g18 := by kernel_rfl
  g19 := by kernel_rfl
  t80 := Tryz.underlying69
  a80 := Tryz.isAgg69
  z80 := Tryz.sizeOf69
  v80 := Tryz.zeroValue69
  i0 := by kernel_rfl
  i2 := by kernel_rfl
  i3 := by kernel_rfl
  i4 := by kernel_rfl
  i5 := by kernel_rfl
  i9 := by kernel_rfl
  i20 := by kernel_rfl
  i21 := by kernel_rfl
  i37 := by kernel_rfl
  i46 := by kernel_rfl
  i51 := by kernel_rfl
  i53 := by kernel_rfl
  i75 := by kernel_rfl
  i76 := by kernel_rfl
  i80 := by kernel_rfl
  i85 := by kernel_rfl
  i127 := by kernel_rfl
  i143 := by kernel_rfl
  i145 := by kernel_rfl
  i167 := by kernel_rfl
  i168 := by kernel_rfl
  i171 := by kernel_rfl
  i173 := by kernel_rfl
  i175 := by kernel_rfl
  i210 := by kernel_rfl
  i212 := by kernel_rfl
  i232 := by kernel_rfl
  i233 := by kernel_rfl
  m15 := by kernel_rfl
  m16 := by kernel_rfl
  m17 := by kernel_rfl
  m18 := by kernel_rfl
  m19 := by kernel_rfl
  c0 := by kernel_rfl
  c2 := by kernel_rfl
  c3 := by kernel_rfl
  c4 := by kernel_rfl
  c5 := by kernel_rfl
  c9 := by kernel_rfl
  c20 := by kernel_rfl
  c21 := by kernel_rfl
  c37 := by kernel_rfl
  c46 := by kernel_rfl
  c51 := by kernel_rfl
  c53 := by kernel_rfl
  c75 := by kernel_rfl
  c76 := by kernel_rfl
  c80 := by kernel_rfl
  c85 := by kernel_rfl
  c127 := by kernel_rfl
  c143 := by kernel_rfl
  c145 := by kernel_rfl
  c167 := by kernel_rfl
  c168 := by kernel_rfl
  c171 := by kernel_rfl
  c173 := by kernel_rfl
  c175 := by kernel_rfl
  c210 := by kernel_rfl
  c212 := by kernel_rfl
  c213 := by kernel_rfl
  c232 := by kernel_rfl
  c233 := by kernel_rfl }
def lays219_ren : Go.Shelf.Ren := ⟨fun | 219 => 81 | 217 => 89 | 225 => 90 | 224 => 91 | 267 => 92 | 266 => 100 | 314 => 101 | n => n, fun | 9 => 9 | 3 => 3 | 4 => 4 | 5 => 5 | 46 => 96 | 146 => 156 | 51 => 105 | n => n, fun | 1 => 2 | n => n⟩
theorem lays219 : Go.Proofs.Lays.n219 Tryz.prog lays219_ren := {
  mixed := by kernel_rfl
  f217 := Tryz.func89.trans (congrArg some (by kernel_rfl))
  f219 := Tryz.func81.trans (congrArg some (by kernel_rfl))
  f224 := Tryz.func91.trans (congrArg some (by kernel_rfl))
  f225 := Tryz.func90.trans (congrArg some (by kernel_rfl))
  f266 := Tryz.func100.trans (congrArg some (by kernel_rfl))
  f267 := Tryz.func92.trans (congrArg some (by kernel_rfl))
  f314 := Tryz.func101.trans (congrArg some (by kernel_rfl))
  t3 := Tryz.underlying3
  a3 := Tryz.isAgg3
  z3 := Tryz.sizeOf3
  v3 := Tryz.zeroValue3
  t4 := Tryz.underlying4
  a4 := Tryz.isAgg4
  z4 := Tryz.sizeOf4
  v4 := Tryz.zeroValue4
  t5 := Tryz.underlying5
  a5 := Tryz.isAgg5
  z5 := Tryz.sizeOf5
  v5 := Tryz.zeroValue5
  t9 := Tryz.underlying9
  a9 := Tryz.isAgg9
  z9 := Tryz.sizeOf9
  v9 := Tryz.zeroValue9
  t46 := Tryz.underlying96
  a46 := Tryz.isAgg96
  z46 := Tryz.sizeOf96
  v46 := Tryz.zeroValue96
  t51 := Tryz.underlying105
  a51 := Tryz.isAgg105
  z51 := Tryz.sizeOf105
  v51 := Tryz.zeroValue105
  t146 := Tryz.underlying156
  a146 := Tryz.isAgg156
  z146 := Tryz.sizeOf156
  v146 := Tryz.zeroValue156
  g1 := by kernel_rfl }
open Go.RowKit Go.Lib
set_option linter.unusedVariables false
theorem var_below {P : Program} {w w' : World} {name : String} {cs : Array Value} (h : w.var? P name = some cs) (hb : Below w.heap.size w w') : w'.var? P name = some cs := by
  unfold World.var? at *
  cases hg : P.globalNamed name with
  | none => simp [hg] at h
  | some g =>
    simp only [hg, Option.bind_some] at h ⊢
    have hlt : g < w.heap.size := by
      rcases Nat.lt_or_ge g w.heap.size with h' | h'
      · exact h'
      · rw [Array.getElem?_eq_none h'] at h; simp at h
    rw [hb.block g hlt]
    exact h
/-- The table and the two sentinels lie as the library lays them. -/
def LaidE (w : World) : Prop := LaidW w ∧ (∃ tp p, w.var? Tryz.prog "strconv.ErrSyntax" = some #[.iface tp p]) ∧ ∃ tp p, w.var? Tryz.prog "strconv.ErrRange" = some #[.iface tp p]
theorem LaidE.below {w w' : World} (h : LaidE w) (hb : Below w.heap.size w w') : LaidE w' := by
  obtain ⟨h1, ⟨tp, p, h2⟩, tq, q, h3⟩ := h
  exact ⟨h1.below hb, ⟨tp, p, var_below h2 hb⟩, tq, q, var_below h3 hb⟩
theorem below_bytes (w : World) (e : TypeId) (s : ByteArray) : Below w.heap.size w (Lib.bytesWorld w e s) := Lib.bytesWorld_below w e s
theorem atoiSat_bounds (l : List UInt8) : -9223372036854775808 ≤ atoiSat l ∧ atoiSat l ≤ 9223372036854775807 := by
  rw [atoiSat]
  split <;> omega
/-- What strconv.Atoi leaves. -/
def AtoiE (l : List UInt8) (v : Int) (er : Value) : Prop := (atoiAll l = .ok v ∧ er = .nilIface) ∨ ((∀ x, atoiAll l ≠ .ok x) ∧ ∃ t p, er = .iface t p)
theorem iAtoi (s : ByteArray) (hs : s.size ≤ 281474976710656) (w : World) (hE : LaidE w) :
    Calls Tryz.prog 49 #[.string s] w fun e w' => ∃ (v : Int) (er : Value), e = .returned (.tuple #[.int .i64 v, er]) ∧ AtoiE s.data.toList v er ∧ (-9223372036854775808 ≤ v ∧ v ≤ 9223372036854775807) ∧ Below w.heap.size w w' := by
  obtain ⟨-, ⟨tp, p, h2⟩, tq, q, h3⟩ := hE
  cases h : atoiAll s.data.toList
  case ok v =>
    refine (Any.strconv_Atoi_ok laysC172 s (by omega) v h w).mono ?_
    rintro e w' ⟨rfl, hw⟩
    refine ⟨v, .nilIface, rfl, .inl ⟨h, rfl⟩, Lib.atoiAll_bounds h, ?_⟩
    rcases hw with rfl | ⟨t, rfl⟩
    · exact Below.refl _ _
    · exact below_bytes _ _ _
  case range =>
    refine (Any.strconv_Atoi_range_var laysC172 s hs h tq q w h3).mono ?_
    rintro e w' ⟨N, rfl, -, -, hb⟩
    exact ⟨_, _, rfl, .inr ⟨fun x e => (by rw [h] at e; cases e), _, _, rfl⟩, atoiSat_bounds _, hb⟩
  refine (Any.strconv_Atoi_syntax_var laysC172 s hs h tp p w h2).mono ?_
  rintro e w' ⟨N, rfl, -, -, hb⟩
  exact ⟨0, _, rfl, .inr ⟨fun x e => (by rw [h] at e; cases e), _, _, rfl⟩, by omega, hb⟩
theorem baMk (s : ByteArray) : s = ⟨s.data.toList.toArray⟩ := by cases s; simp
set_option maxHeartbeats 1600000 in
theorem iCut0 (s : ByteArray) (hs : s.size ≤ 9223372036854775806) (w : World) :
    Calls Tryz.prog 68 #[.string s, .string ⟨#[47]⟩] w fun e w' => e = .returned (.tuple #[.string ⟨(cut s.data.toList [47]).1.toArray⟩, .string ⟨(cut s.data.toList [47]).2.1.toArray⟩, .bool (cut s.data.toList [47]).2.2]) ∧ Below w.heap.size w w' := by
  have hlen : s.data.toList.length = s.size := Array.length_toList
  have IX := fun (v : World) => Any.stringslite_Index_one lays219 s 47 v
  obtain ⟨i, hi⟩ : ∃ i, i = indexByte s.data.toList 47 := ⟨_, rfl⟩
  have hge := indexByte_ge s.data.toList 47
  have hle := index_le s.data.toList [47]
  have hrm := index_room s.data.toList [47]
  rw [index_one, ← hi] at hle hrm
  rw [← hi] at IX hge
  by_cases h0 : 0 ≤ i
  · have hc : cut s.data.toList [47] = (s.data.toList.take i.toNat, s.data.toList.drop (i.toNat + 1), true) := by rw [cut, index_one, ← hi, if_pos h0]; rfl
    obtain ⟨k, hk⟩ := Int.eq_ofNat_of_zero_le h0
    have hk1 : k + 1 ≤ s.size := by have := hrm h0; simp at this; omega
    have e1 : (s.extract 0 k) = ⟨(s.data.toList.take k).toArray⟩ := by have h := ByteArray.extract_mk s.data.toList 0 k; rw [← baMk s] at h; rw [h]; simp
    have e2 : (s.extract (k + 1) s.size) = ⟨(s.data.toList.drop (k + 1)).toArray⟩ := by have h := ByteArray.extract_mk s.data.toList (k + 1) s.size; rw [← baMk s] at h; rw [h, List.take_of_length_le (by rw [List.length_drop]; omega)]
    rw [hc]
    rw [hk] at IX
    have hkk : (k : Int) ≤ s.size := by omega
    have hk2 : (k : Int) + 1 ≤ s.size := by omega
    have w1 : IntKind.i64.wrap ((k : Int) + 1) = (k : Int) + 1 := IntWalk.i64_in _ ⟨by omega, by omega⟩
    have E1 := Lib.hid e1
    have E2 := Lib.hid e2
    have HK := Lib.hid hk
    clear hi hge hle hrm hc e1 e2 hk h0 hlen hs hk1
    go_enter Tryz.func68, Tryz.ntmps68
    go_wp2_with (go_at_call 81; refine (IX _).mono ?_; rintro e w' ⟨rfl, rfl⟩)
    go_quiet (fail)
    go_wp2_with fail
    refine bodyPost_ret (v := .tuple #[.string (s.extract 0 k), .string (s.extract (k + 1) s.size), .bool true]) (by simp [results, Tryz.results68, go_sem]) rfl ⟨by rw [HK.out, E1.out, E2.out]; rfl, (by (repeat (first | (with_reducible exact Below.refl _ _) | (with_reducible assumption) | (with_reducible refine Below.drew ?_) | (with_reducible refine below_drewN ?_ _))))⟩
  · have hc : cut s.data.toList [47] = (s.data.toList, [], false) := by rw [cut, index_one, ← hi, if_neg h0]
    have hi1 : i = -1 := by omega
    subst hi1
    rw [hc, ← baMk s]
    clear hi hge hle hrm hc h0
    go_enter Tryz.func68, Tryz.ntmps68
    go_wp2_with (go_at_call 81; refine (IX _).mono ?_; rintro e w' ⟨rfl, rfl⟩)
    refine bodyPost_ret (v := .tuple #[.string s, .string ⟨#[]⟩, .bool false]) (by simp [results, Tryz.results68, go_sem]) rfl ⟨rfl, (by (repeat (first | (with_reducible exact Below.refl _ _) | (with_reducible assumption) | (with_reducible refine Below.drew ?_) | (with_reducible refine below_drewN ?_ _))))⟩
set_option maxHeartbeats 400000 in
theorem iCut (s : ByteArray) (hs : s.size ≤ 9223372036854775806) (w : World) :
    Calls Tryz.prog 50 #[.string s, .string ⟨#[47]⟩] w fun e w' => e = .returned (.tuple #[.string ⟨(cut s.data.toList [47]).1.toArray⟩, .string ⟨(cut s.data.toList [47]).2.1.toArray⟩, .bool (cut s.data.toList [47]).2.2]) ∧ Below w.heap.size w w' := by
  have C0 := fun (v : World) => iCut0 s hs v
  obtain ⟨c, hc⟩ : ∃ c, c = cut s.data.toList [47] := ⟨_, rfl⟩
  rw [← hc] at C0 ⊢
  clear hc
  obtain ⟨c1, c2, c3⟩ := c
  dsimp only at C0 ⊢
  go_enter Tryz.func50, Tryz.ntmps50
  go_wp2_with fail
  refine (C0 _).mono ?_
  rintro e w1 ⟨rfl, hb1⟩
  go_wp2_with fail
  refine bodyPost_ret (v := .tuple #[.string ⟨c1.toArray⟩, .string ⟨c2.toArray⟩, .bool c3]) (by simp [results, Tryz.results50, go_sem]) rfl ⟨rfl, (by (repeat (first | (with_reducible exact Below.refl _ _) | (with_reducible assumption) | (with_reducible refine Below.drew ?_) | (with_reducible refine below_drewN ?_ _))))⟩
end Go.Proofs.YtanpmbiblibgfaaGreatDoor
