/- Texts of this claim, one behind the other: Lays. -/
import Derived.Ground.SlbvProg
import Derived.Shelf.Strings.SlTrimAscii
import Derived.Shelf.Bytes.SlTrim
import Derived.Test.YteblbggmchcijaaDoorProg
section
/-
  DERIVED: THE SHELF's CONTRACTS AT THIS DUMP, IN PLAIN WORDS (tools/lay-plain.mjs out of 'YteblbggmchcijaaDoorLays.lean', which tools/lay-shelf.mjs wrote): THE SAME DECLARATIONS UNDER THE SAME NAMES: 'import', 'namespace', 'open', 'def', 'theorem' AND NOTHING ELSE: no command of the shelf's: FOR A HAND-IN. Each laying: the table of numbers ('.._ren') and one theorem, a field a fact of the dump's own or the kernel's comparison; each contract: ONE APPLICATION.
-/
namespace Go.Proofs
open Go.Shelf
def Tryd.lays8_ren : Go.Shelf.Ren := ⟨fun | 8 => 28 | 9 => 40 | 11 => 41 | 12 => 42 | 14 => 43 | 16 => 50 | 17 => 51 | 18 => 52 | 20 => 62 | n => n, fun | 22 => 22 | 9 => 9 | 3 => 3 | 4 => 4 | 5 => 5 | 28 => 64 | 27 => 63 | 0 => 0 | 31 => 67 | 33 => 70 | 21 => 21 | 36 => 85 | 37 => 49 | 40 => 88 | 39 => 87 | n => n, fun | 0 => 2 | 1 => 3 | n => n⟩
theorem Tryd.lays8 : Go.Proofs.SlLaysV.n8 Tryd.prog Tryd.lays8_ren := {
  mixed := by kernel_rfl
  f8 := Tryd.func28.trans (congrArg some (by kernel_rfl))
  f9 := Tryd.func40.trans (congrArg some (by kernel_rfl))
  f11 := Tryd.func41.trans (congrArg some (by kernel_rfl))
  f12 := Tryd.func42.trans (congrArg some (by kernel_rfl))
  f14 := Tryd.func43.trans (congrArg some (by kernel_rfl))
  f16 := Tryd.func50.trans (congrArg some (by kernel_rfl))
  f17 := Tryd.func51.trans (congrArg some (by kernel_rfl))
  f18 := Tryd.func52.trans (congrArg some (by kernel_rfl))
  f20 := Tryd.func62.trans (congrArg some (by kernel_rfl))
  t0 := Tryd.underlying0
  a0 := Tryd.isAgg0
  z0 := Tryd.sizeOf0
  v0 := Tryd.zeroValue0
  t3 := Tryd.underlying3
  a3 := Tryd.isAgg3
  z3 := Tryd.sizeOf3
  v3 := Tryd.zeroValue3
  t4 := Tryd.underlying4
  a4 := Tryd.isAgg4
  z4 := Tryd.sizeOf4
  v4 := Tryd.zeroValue4
  t5 := Tryd.underlying5
  a5 := Tryd.isAgg5
  z5 := Tryd.sizeOf5
  v5 := Tryd.zeroValue5
  t9 := Tryd.underlying9
  a9 := Tryd.isAgg9
  z9 := Tryd.sizeOf9
  v9 := Tryd.zeroValue9
  t21 := Tryd.underlying21
  a21 := Tryd.isAgg21
  z21 := Tryd.sizeOf21
  v21 := Tryd.zeroValue21
  t22 := Tryd.underlying22
  a22 := Tryd.isAgg22
  z22 := Tryd.sizeOf22
  v22 := Tryd.zeroValue22
  t27 := Tryd.underlying63
  a27 := Tryd.isAgg63
  z27 := Tryd.sizeOf63
  t28 := Tryd.underlying64
  a28 := Tryd.isAgg64
  z28 := Tryd.sizeOf64
  v28 := Tryd.zeroValue64
  t31 := Tryd.underlying67
  a31 := Tryd.isAgg67
  z31 := Tryd.sizeOf67
  v31 := Tryd.zeroValue67
  t33 := Tryd.underlying70
  a33 := Tryd.isAgg70
  z33 := Tryd.sizeOf70
  v33 := Tryd.zeroValue70
  t36 := Tryd.underlying85
  a36 := Tryd.isAgg85
  z36 := Tryd.sizeOf85
  t37 := Tryd.underlying49
  a37 := Tryd.isAgg49
  z37 := Tryd.sizeOf49
  v37 := Tryd.zeroValue49
  t39 := Tryd.underlying87
  a39 := Tryd.isAgg87
  z39 := Tryd.sizeOf87
  v39 := Tryd.zeroValue87
  t40 := Tryd.underlying88
  a40 := Tryd.isAgg88
  z40 := Tryd.sizeOf88
  v40 := Tryd.zeroValue88 }
def Tryd.lays6_ren : Go.Shelf.Ren := ⟨fun | 6 => 29 | 10 => 44 | 9 => 40 | 11 => 41 | 13 => 45 | 12 => 42 | 15 => 46 | 14 => 43 | 16 => 50 | 19 => 53 | 18 => 52 | 17 => 51 | 21 => 63 | 20 => 62 | n => n, fun | 22 => 22 | 9 => 9 | 3 => 3 | 4 => 4 | 5 => 5 | 28 => 64 | 27 => 63 | 0 => 0 | 31 => 67 | 21 => 21 | 33 => 70 | 36 => 85 | 37 => 49 | 40 => 88 | 39 => 87 | n => n, fun | 0 => 2 | 1 => 3 | n => n⟩
theorem Tryd.lays6 : Go.Proofs.SlLaysV.n6 Tryd.prog Tryd.lays6_ren := {
  mixed := by kernel_rfl
  f6 := Tryd.func29.trans (congrArg some (by kernel_rfl))
  f9 := Tryd.func40.trans (congrArg some (by kernel_rfl))
  f10 := Tryd.func44.trans (congrArg some (by kernel_rfl))
  f11 := Tryd.func41.trans (congrArg some (by kernel_rfl))
  f12 := Tryd.func42.trans (congrArg some (by kernel_rfl))
  f13 := Tryd.func45.trans (congrArg some (by kernel_rfl))
  f14 := Tryd.func43.trans (congrArg some (by kernel_rfl))
  f15 := Tryd.func46.trans (congrArg some (by kernel_rfl))
  f16 := Tryd.func50.trans (congrArg some (by kernel_rfl))
  f17 := Tryd.func51.trans (congrArg some (by kernel_rfl))
  f18 := Tryd.func52.trans (congrArg some (by kernel_rfl))
  f19 := Tryd.func53.trans (congrArg some (by kernel_rfl))
  f20 := Tryd.func62.trans (congrArg some (by kernel_rfl))
  f21 := Tryd.func63.trans (congrArg some (by kernel_rfl))
  t0 := Tryd.underlying0
  a0 := Tryd.isAgg0
  z0 := Tryd.sizeOf0
  v0 := Tryd.zeroValue0
  t3 := Tryd.underlying3
  a3 := Tryd.isAgg3
  z3 := Tryd.sizeOf3
  v3 := Tryd.zeroValue3
  t4 := Tryd.underlying4
  a4 := Tryd.isAgg4
  z4 := Tryd.sizeOf4
  v4 := Tryd.zeroValue4
  t5 := Tryd.underlying5
  a5 := Tryd.isAgg5
  z5 := Tryd.sizeOf5
  v5 := Tryd.zeroValue5
  t9 := Tryd.underlying9
  a9 := Tryd.isAgg9
  z9 := Tryd.sizeOf9
  v9 := Tryd.zeroValue9
  t21 := Tryd.underlying21
  a21 := Tryd.isAgg21
  z21 := Tryd.sizeOf21
  v21 := Tryd.zeroValue21
  t22 := Tryd.underlying22
  a22 := Tryd.isAgg22
  z22 := Tryd.sizeOf22
  v22 := Tryd.zeroValue22
  t27 := Tryd.underlying63
  a27 := Tryd.isAgg63
  z27 := Tryd.sizeOf63
  t28 := Tryd.underlying64
  a28 := Tryd.isAgg64
  z28 := Tryd.sizeOf64
  v28 := Tryd.zeroValue64
  t31 := Tryd.underlying67
  a31 := Tryd.isAgg67
  z31 := Tryd.sizeOf67
  v31 := Tryd.zeroValue67
  t33 := Tryd.underlying70
  a33 := Tryd.isAgg70
  z33 := Tryd.sizeOf70
  v33 := Tryd.zeroValue70
  t36 := Tryd.underlying85
  a36 := Tryd.isAgg85
  z36 := Tryd.sizeOf85
  t37 := Tryd.underlying49
  a37 := Tryd.isAgg49
  z37 := Tryd.sizeOf49
  v37 := Tryd.zeroValue49
  t39 := Tryd.underlying87
  a39 := Tryd.isAgg87
  z39 := Tryd.sizeOf87
  v39 := Tryd.zeroValue87
  t40 := Tryd.underlying88
  a40 := Tryd.isAgg88
  z40 := Tryd.sizeOf88
  v40 := Tryd.zeroValue88 }
end Go.Proofs
end
