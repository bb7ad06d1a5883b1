/- Layings of contracts of the library (written by the kit's own tool for this dump). Conditions: none. -/
import Derived.Test.YtanpmbiblibgfaaGreatDoorGa
import Derived.Test.YtanpmbiblibgfaaGreatDoorRows
import Derived.LaidSub
import Derived.Test.YtanpmbiblibgfaaGreatDoorShA
import Derived.Shelf.Strings.SplitShaped
import Derived.Shelf.LaysM
namespace Go.Proofs.YtanpmbiblibgfaaGreatDoor
open Go.Shelf
def laysM157_ren : Go.Shelf.Ren := ⟨fun | 157 => 31 | 229 => 46 | 199 => 47 | 261 => 64 | 311 => 74 | 312 => 75 | n => n, fun | 9 => 9 | 31 => 41 | 3 => 3 | 5 => 5 | 4 => 4 | 119 => 89 | 0 => 0 | 40 => 91 | 152 => 102 | 21 => 21 | 154 => 104 | 51 => 105 | 141 => 107 | 196 => 117 | 193 => 114 | 198 => 120 | 49 => 118 | 194 => 115 | 201 => 123 | 226 => 138 | 46 => 96 | 227 => 139 | n => n, fun | 0 => 0 | 6 => 1 | n => n⟩
theorem laysM157 : Go.Proofs.LaysM.n157 Tryz.prog laysM157_ren := {
  mixed := by kernel_rfl
  f157 := Tryz.func31.trans (congrArg some (by kernel_rfl))
  f199 := Tryz.func47.trans (congrArg some (by kernel_rfl))
  f229 := Tryz.func46.trans (congrArg some (by kernel_rfl))
  f261 := Tryz.func64.trans (congrArg some (by kernel_rfl))
  f311 := Tryz.func74.trans (congrArg some (by kernel_rfl))
  f312 := Tryz.func75.trans (congrArg some (by kernel_rfl))
  t0 := Tryz.underlying0
  a0 := Tryz.isAgg0
  z0 := Tryz.sizeOf0
  v0 := Tryz.zeroValue0
  t3 := Tryz.underlying3
  a3 := Tryz.isAgg3
  z3 := Tryz.sizeOf3
  v3 := Tryz.zeroValue3
  t4 := Tryz.underlying4
  a4 := Tryz.isAgg4
  z4 := Tryz.sizeOf4
  v4 := Tryz.zeroValue4
  t5 := Tryz.underlying5
  a5 := Tryz.isAgg5
  z5 := Tryz.sizeOf5
  v5 := Tryz.zeroValue5
  t9 := Tryz.underlying9
  a9 := Tryz.isAgg9
  z9 := Tryz.sizeOf9
  v9 := Tryz.zeroValue9
  t21 := Tryz.underlying21
  a21 := Tryz.isAgg21
  z21 := Tryz.sizeOf21
  v21 := Tryz.zeroValue21
  t31 := Tryz.underlying41
  a31 := Tryz.isAgg41
  z31 := Tryz.sizeOf41
  v31 := Tryz.zeroValue41
  t40 := Tryz.underlying91
  a40 := Tryz.isAgg91
  z40 := Tryz.sizeOf91
  v40 := Tryz.zeroValue91
  t46 := Tryz.underlying96
  a46 := Tryz.isAgg96
  z46 := Tryz.sizeOf96
  v46 := Tryz.zeroValue96
  t49 := Tryz.underlying118
  a49 := Tryz.isAgg118
  z49 := Tryz.sizeOf118
  v49 := Tryz.zeroValue118
  t51 := Tryz.underlying105
  a51 := Tryz.isAgg105
  z51 := Tryz.sizeOf105
  v51 := Tryz.zeroValue105
  t119 := Tryz.underlying89
  a119 := Tryz.isAgg89
  z119 := Tryz.sizeOf89
  t141 := Tryz.underlying107
  a141 := Tryz.isAgg107
  z141 := Tryz.sizeOf107
  v141 := Tryz.zeroValue107
  t152 := Tryz.underlying102
  a152 := Tryz.isAgg102
  z152 := Tryz.sizeOf102
  v152 := Tryz.zeroValue102
  t154 := Tryz.underlying104
  a154 := Tryz.isAgg104
  z154 := Tryz.sizeOf104
  v154 := Tryz.zeroValue104
  t193 := Tryz.underlying114
  a193 := Tryz.isAgg114
  z193 := Tryz.sizeOf114
  v193 := Tryz.zeroValue114
  t194 := Tryz.underlying115
  a194 := Tryz.isAgg115
  z194 := Tryz.sizeOf115
  v194 := Tryz.zeroValue115
  t196 := Tryz.underlying117
  a196 := Tryz.isAgg117
  z196 := Tryz.sizeOf117
  v196 := Tryz.zeroValue117
  t198 := Tryz.underlying120
  a198 := Tryz.isAgg120
  z198 := Tryz.sizeOf120
  v198 := Tryz.zeroValue120
  t201 := Tryz.underlying123
  a201 := Tryz.isAgg123
  z201 := Tryz.sizeOf123
  v201 := Tryz.zeroValue123
  t226 := Tryz.underlying138
  a226 := Tryz.isAgg138
  z226 := Tryz.sizeOf138
  v226 := Tryz.zeroValue138
  t227 := Tryz.underlying139
  a227 := Tryz.isAgg139
  z227 := Tryz.sizeOf139
  v227 := Tryz.zeroValue139
  g0 := by kernel_rfl
  g6 := by kernel_rfl
  i0 := by kernel_rfl
  i3 := by kernel_rfl
  i4 := by kernel_rfl
  i5 := by kernel_rfl
  i9 := by kernel_rfl
  i21 := by kernel_rfl
  i31 := by kernel_rfl
  i40 := by kernel_rfl
  i46 := by kernel_rfl
  i49 := by kernel_rfl
  i51 := by kernel_rfl
  i141 := by kernel_rfl
  i152 := by kernel_rfl
  i154 := by kernel_rfl
  i193 := by kernel_rfl
  i194 := by kernel_rfl
  i196 := by kernel_rfl
  i198 := by kernel_rfl
  i201 := by kernel_rfl
  i226 := by kernel_rfl
  i227 := by kernel_rfl
  m0 := by kernel_rfl
  m6 := by kernel_rfl }
open Go.RowKit
/-- What the readers of formulas want: the tables and the sentinels lie as the library lays them. -/
def LaidP (w : World) : Prop := LaidE w ∧ Lib.TabIs Tryz.prog w "strings.asciiSpace" .u8 Lib.asciiSpaceTab
theorem LaidP.below {w w' : World} (h : LaidP w) (hb : Below w.heap.size w w') : LaidP w' := ⟨h.1.below hb, tabIs_below h.2 hb⟩
theorem iFields (s : ByteArray) (w : World) (hs : s.size < 4294967281) (ha : ∀ (j : Nat) b, s.data.toList[j]? = some b → b.toNat < 128) (hT : LaidP w) :
    Calls Tryz.prog 31 #[.string s] w fun e w' => e = .returned (.slice (some ⟨w.heap.size, 0, none⟩) (Lib.fields s.data.toList).length (Lib.fields s.data.toList).length) ∧ w' = w.alloc (.cells ((Lib.fields s.data.toList).map fun l => Value.string ⟨l.toArray⟩).toArray 9) :=
  Any.strings_Fields_laid laysM157 s w hs ha hT.2
end Go.Proofs.YtanpmbiblibgfaaGreatDoor
