/-
  Contracts and plain laws that the walk leans on, part 7. No condition.
-/
import Derived.Test.YtcnkmhfcgkbhbaaGreatZCl6
import Derived.Test.YtcnkmhfcgkbhbaaGreatProg
import Derived.Test.YtcnkmhfcgkbhbaaGreatChecked
import Derived.Shelf.SlSortCmp.Whole1
import Derived.Shelf.SlSortCmp.WholeK
import Derived.Shelf.SlSortCmp.NoneTotal
import Derived.Shelf.SlicesG.Cmp
import Derived.Shelf.Sort.Plain
import Derived.Shelf.Slices.CompactI
import Derived.Ground.SlsfProg
import Derived.Ground.SlgcProg
import Derived.Ground.NamesProg
import Derived.Ground.Names2Prog
namespace Go.Proofs
open Go.Shelf
def Tryz.sortEdges_ren : Go.Shelf.Ren := ⟨fun | 6 => 26 | 15 => 40 | 14 => 39 | 28 => 63 | 29 => 64 | 20 => 55 | 21 => 56 | 22 => 57 | 23 => 58 | 24 => 59 | 25 => 60 | 26 => 61 | 27 => 62 | 46 => 83 | 47 => 84 | 48 => 85 | 49 => 86 | 50 => 87 | 57 => 104 | n => n, fun | 22 => 23 | 24 => 30 | 25 => 48 | 3 => 3 | 39 => 68 | 0 => 0 | 53 => 90 | 55 => 92 | 4 => 4 | 46 => 84 | 45 => 83 | 50 => 44 | 5 => 5 | 9 => 9 | 66 => 106 | 70 => 110 | 76 => 125 | 77 => 126 | n => n, fun | n => n⟩
theorem Tryz.sortEdges : Go.Proofs.SlLaysF0.n6 Tryz.prog Tryz.sortEdges_ren := {
  mixed := by kernel_rfl
  f6 := ⟨Tryz.f26.name, by decide, Tryz.func26.trans (congrArg some (by kernel_rfl))⟩
  f14 := ⟨Tryz.f39.name, by decide, Tryz.func39.trans (congrArg some (by kernel_rfl))⟩
  f15 := Tryz.func40.trans (congrArg some (by kernel_rfl))
  f20 := ⟨Tryz.f55.name, by decide, Tryz.func55.trans (congrArg some (by kernel_rfl))⟩
  f21 := ⟨Tryz.f56.name, by decide, Tryz.func56.trans (congrArg some (by kernel_rfl))⟩
  f22 := ⟨Tryz.f57.name, by decide, Tryz.func57.trans (congrArg some (by kernel_rfl))⟩
  f23 := ⟨Tryz.f58.name, by decide, Tryz.func58.trans (congrArg some (by kernel_rfl))⟩
  f24 := ⟨Tryz.f59.name, by decide, Tryz.func59.trans (congrArg some (by kernel_rfl))⟩
  f25 := ⟨Tryz.f60.name, by decide, Tryz.func60.trans (congrArg some (by kernel_rfl))⟩
  f26 := ⟨Tryz.f61.name, by decide, Tryz.func61.trans (congrArg some (by kernel_rfl))⟩
  f27 := ⟨Tryz.f62.name, by decide, Tryz.func62.trans (congrArg some (by kernel_rfl))⟩
  f28 := Tryz.func63.trans (congrArg some (by kernel_rfl))
  f29 := Tryz.func64.trans (congrArg some (by kernel_rfl))
  f46 := ⟨Tryz.f83.name, by decide, Tryz.func83.trans (congrArg some (by kernel_rfl))⟩
  f47 := Tryz.func84.trans (congrArg some (by kernel_rfl))
  f48 := Tryz.func85.trans (congrArg some (by kernel_rfl))
  f49 := ⟨Tryz.f86.name, by decide, Tryz.func86.trans (congrArg some (by kernel_rfl))⟩
  f50 := ⟨Tryz.f87.name, by decide, Tryz.func87.trans (congrArg some (by kernel_rfl))⟩
  f57 := ⟨Tryz.f104.name, by decide, Tryz.func104.trans (congrArg some (by kernel_rfl))⟩
  t0 := Tryz.underlying0
  a0 := Tryz.isAgg0
  z0 := Tryz.sizeOf0
  v0 := Tryz.zeroValue0
  t3 := Tryz.underlying3
  a3 := Tryz.isAgg3
  z3 := Tryz.sizeOf3
  v3 := Tryz.zeroValue3
  t4 := Tryz.underlying4
  a4 := Tryz.isAgg4
  z4 := Tryz.sizeOf4
  v4 := Tryz.zeroValue4
  t5 := Tryz.underlying5
  a5 := Tryz.isAgg5
  z5 := Tryz.sizeOf5
  v5 := Tryz.zeroValue5
  t9 := Tryz.underlying9
  a9 := Tryz.isAgg9
  z9 := Tryz.sizeOf9
  v9 := Tryz.zeroValue9
  t22 := Tryz.underlying23
  a22 := Tryz.isAgg23
  z22 := Tryz.sizeOf23
  v22 := Tryz.zeroValue23
  t25 := Tryz.underlying48
  a25 := Tryz.isAgg48
  z25 := Tryz.sizeOf48
  v25 := Tryz.zeroValue48
  t39 := Tryz.underlying68
  a39 := Tryz.isAgg68
  z39 := Tryz.sizeOf68
  v39 := Tryz.zeroValue68
  t45 := Tryz.underlying83
  a45 := Tryz.isAgg83
  z45 := Tryz.sizeOf83
  v45 := Tryz.zeroValue83
  t46 := Tryz.underlying84
  a46 := Tryz.isAgg84
  z46 := Tryz.sizeOf84
  v46 := Tryz.zeroValue84
  t50 := Tryz.underlying44
  a50 := Tryz.isAgg44
  z50 := Tryz.sizeOf44
  v50 := Tryz.zeroValue44
  t53 := Tryz.underlying90
  a53 := Tryz.isAgg90
  z53 := Tryz.sizeOf90
  v53 := Tryz.zeroValue90
  t55 := Tryz.underlying92
  a55 := Tryz.isAgg92
  z55 := Tryz.sizeOf92
  v55 := Tryz.zeroValue92
  t66 := Tryz.underlying106
  a66 := Tryz.isAgg106
  z66 := Tryz.sizeOf106
  v66 := Tryz.zeroValue106
  t70 := Tryz.underlying110
  a70 := Tryz.isAgg110
  z70 := Tryz.sizeOf110
  v70 := Tryz.zeroValue110
  t76 := Tryz.underlying125
  a76 := Tryz.isAgg125
  z76 := Tryz.sizeOf125
  v76 := Tryz.zeroValue125
  t77 := Tryz.underlying126
  a77 := Tryz.isAgg126
  z77 := Tryz.sizeOf126
  v77 := Tryz.zeroValue126 }
def Tryz.cmpInts_ren : Go.Shelf.Ren := ⟨fun | 5 => 42 | 7 => 65 | n => n, fun | 22 => 3 | 3 => 3 | 4 => 4 | n => n, fun | n => n⟩
theorem Tryz.cmpInts : Go.Proofs.SlLaysC2.n5 Tryz.prog Tryz.cmpInts_ren := {
  mixed := by kernel_rfl
  f5 := ⟨Tryz.f42.name, by decide, Tryz.func42.trans (congrArg some (by kernel_rfl))⟩
  f7 := ⟨Tryz.f65.name, by decide, Tryz.func65.trans (congrArg some (by kernel_rfl))⟩
  t3 := Tryz.underlying3
  a3 := Tryz.isAgg3
  z3 := Tryz.sizeOf3
  v3 := Tryz.zeroValue3
  t4 := Tryz.underlying4
  a4 := Tryz.isAgg4
  z4 := Tryz.sizeOf4
  v4 := Tryz.zeroValue4
  t22 := Tryz.underlying3
  a22 := Tryz.isAgg3
  z22 := Tryz.sizeOf3
  v22 := Tryz.zeroValue3 }
def Tryz.sortPlain_ren : Go.Shelf.Ren := ⟨fun | 189 => 30 | 125 => 40 | 257 => 43 | 128 => 63 | 129 => 64 | 294 => 66 | 295 => 67 | 296 => 68 | 297 => 69 | 298 => 70 | 299 => 71 | 216 => 72 | 300 => 73 | 301 => 74 | 328 => 88 | 329 => 84 | 330 => 85 | 331 => 89 | 332 => 90 | 215 => 65 | 343 => 105 | n => n, fun | 28 => 25 | 3 => 3 | 46 => 68 | 0 => 0 | 51 => 90 | 53 => 92 | 4 => 4 | 183 => 84 | 182 => 83 | 131 => 44 | 5 => 5 | 9 => 9 | 218 => 106 | 222 => 110 | 228 => 125 | 229 => 126 | n => n, fun | n => n⟩
theorem Tryz.sortPlain : Go.Proofs.Lays.n189 Tryz.prog Tryz.sortPlain_ren := {
  mixed := by kernel_rfl
  f125 := Tryz.func40.trans (congrArg some (by kernel_rfl))
  f128 := Tryz.func63.trans (congrArg some (by kernel_rfl))
  f129 := Tryz.func64.trans (congrArg some (by kernel_rfl))
  f189 := Tryz.func30.trans (congrArg some (by kernel_rfl))
  f215 := Tryz.func65.trans (congrArg some (by kernel_rfl))
  f216 := Tryz.func72.trans (congrArg some (by kernel_rfl))
  f257 := Tryz.func43.trans (congrArg some (by kernel_rfl))
  f294 := Tryz.func66.trans (congrArg some (by kernel_rfl))
  f295 := Tryz.func67.trans (congrArg some (by kernel_rfl))
  f296 := Tryz.func68.trans (congrArg some (by kernel_rfl))
  f297 := Tryz.func69.trans (congrArg some (by kernel_rfl))
  f298 := Tryz.func70.trans (congrArg some (by kernel_rfl))
  f299 := Tryz.func71.trans (congrArg some (by kernel_rfl))
  f300 := Tryz.func73.trans (congrArg some (by kernel_rfl))
  f301 := Tryz.func74.trans (congrArg some (by kernel_rfl))
  f328 := Tryz.func88.trans (congrArg some (by kernel_rfl))
  f329 := Tryz.func84.trans (congrArg some (by kernel_rfl))
  f330 := Tryz.func85.trans (congrArg some (by kernel_rfl))
  f331 := Tryz.func89.trans (congrArg some (by kernel_rfl))
  f332 := Tryz.func90.trans (congrArg some (by kernel_rfl))
  f343 := Tryz.func105.trans (congrArg some (by kernel_rfl))
  t0 := Tryz.underlying0
  a0 := Tryz.isAgg0
  z0 := Tryz.sizeOf0
  v0 := Tryz.zeroValue0
  t3 := Tryz.underlying3
  a3 := Tryz.isAgg3
  z3 := Tryz.sizeOf3
  v3 := Tryz.zeroValue3
  t4 := Tryz.underlying4
  a4 := Tryz.isAgg4
  z4 := Tryz.sizeOf4
  v4 := Tryz.zeroValue4
  t5 := Tryz.underlying5
  a5 := Tryz.isAgg5
  z5 := Tryz.sizeOf5
  v5 := Tryz.zeroValue5
  t9 := Tryz.underlying9
  a9 := Tryz.isAgg9
  z9 := Tryz.sizeOf9
  v9 := Tryz.zeroValue9
  t28 := Tryz.underlying25
  a28 := Tryz.isAgg25
  z28 := Tryz.sizeOf25
  v28 := Tryz.zeroValue25
  t46 := Tryz.underlying68
  a46 := Tryz.isAgg68
  z46 := Tryz.sizeOf68
  v46 := Tryz.zeroValue68
  t51 := Tryz.underlying90
  a51 := Tryz.isAgg90
  z51 := Tryz.sizeOf90
  v51 := Tryz.zeroValue90
  t53 := Tryz.underlying92
  a53 := Tryz.isAgg92
  z53 := Tryz.sizeOf92
  v53 := Tryz.zeroValue92
  t131 := Tryz.underlying44
  a131 := Tryz.isAgg44
  z131 := Tryz.sizeOf44
  v131 := Tryz.zeroValue44
  t182 := Tryz.underlying83
  a182 := Tryz.isAgg83
  z182 := Tryz.sizeOf83
  v182 := Tryz.zeroValue83
  t183 := Tryz.underlying84
  a183 := Tryz.isAgg84
  z183 := Tryz.sizeOf84
  v183 := Tryz.zeroValue84
  t218 := Tryz.underlying106
  a218 := Tryz.isAgg106
  z218 := Tryz.sizeOf106
  v218 := Tryz.zeroValue106
  t222 := Tryz.underlying110
  a222 := Tryz.isAgg110
  z222 := Tryz.sizeOf110
  v222 := Tryz.zeroValue110
  t228 := Tryz.underlying125
  a228 := Tryz.isAgg125
  z228 := Tryz.sizeOf125
  v228 := Tryz.zeroValue125
  t229 := Tryz.underlying126
  a229 := Tryz.isAgg126
  z229 := Tryz.sizeOf126
  v229 := Tryz.zeroValue126 }
def Tryz.sortInts_ren : Go.Shelf.Ren := ⟨fun | 6 => 52 | 15 => 40 | 14 => 82 | 28 => 63 | 29 => 64 | 20 => 96 | 21 => 97 | 22 => 98 | 23 => 99 | 24 => 100 | 25 => 101 | 26 => 102 | 27 => 103 | 46 => 107 | 47 => 84 | 48 => 85 | 49 => 108 | 50 => 109 | 57 => 110 | n => n, fun | 22 => 25 | 24 => 3 | 25 => 70 | 3 => 3 | 39 => 68 | 0 => 0 | 53 => 90 | 55 => 92 | 4 => 4 | 46 => 84 | 45 => 83 | 50 => 44 | 5 => 5 | 9 => 9 | 66 => 106 | 70 => 110 | 76 => 125 | 77 => 126 | n => n, fun | n => n⟩
theorem Tryz.sortInts : Go.Proofs.SlLaysF.n6 Tryz.prog Tryz.sortInts_ren := {
  mixed := by kernel_rfl
  f6 := ⟨Tryz.f52.name, by decide, Tryz.func52.trans (congrArg some (by kernel_rfl))⟩
  f14 := ⟨Tryz.f82.name, by decide, Tryz.func82.trans (congrArg some (by kernel_rfl))⟩
  f15 := Tryz.func40.trans (congrArg some (by kernel_rfl))
  f20 := ⟨Tryz.f96.name, by decide, Tryz.func96.trans (congrArg some (by kernel_rfl))⟩
  f21 := ⟨Tryz.f97.name, by decide, Tryz.func97.trans (congrArg some (by kernel_rfl))⟩
  f22 := ⟨Tryz.f98.name, by decide, Tryz.func98.trans (congrArg some (by kernel_rfl))⟩
  f23 := ⟨Tryz.f99.name, by decide, Tryz.func99.trans (congrArg some (by kernel_rfl))⟩
  f24 := ⟨Tryz.f100.name, by decide, Tryz.func100.trans (congrArg some (by kernel_rfl))⟩
  f25 := ⟨Tryz.f101.name, by decide, Tryz.func101.trans (congrArg some (by kernel_rfl))⟩
  f26 := ⟨Tryz.f102.name, by decide, Tryz.func102.trans (congrArg some (by kernel_rfl))⟩
  f27 := ⟨Tryz.f103.name, by decide, Tryz.func103.trans (congrArg some (by kernel_rfl))⟩
  f28 := Tryz.func63.trans (congrArg some (by kernel_rfl))
  f29 := Tryz.func64.trans (congrArg some (by kernel_rfl))
  f46 := ⟨Tryz.f107.name, by decide, Tryz.func107.trans (congrArg some (by kernel_rfl))⟩
  f47 := Tryz.func84.trans (congrArg some (by kernel_rfl))
  f48 := Tryz.func85.trans (congrArg some (by kernel_rfl))
  f49 := ⟨Tryz.f108.name, by decide, Tryz.func108.trans (congrArg some (by kernel_rfl))⟩
  f50 := ⟨Tryz.f109.name, by decide, Tryz.func109.trans (congrArg some (by kernel_rfl))⟩
  f57 := ⟨Tryz.f110.name, by decide, Tryz.func110.trans (congrArg some (by kernel_rfl))⟩
  t0 := Tryz.underlying0
  a0 := Tryz.isAgg0
  z0 := Tryz.sizeOf0
  v0 := Tryz.zeroValue0
  t3 := Tryz.underlying3
  a3 := Tryz.isAgg3
  z3 := Tryz.sizeOf3
  v3 := Tryz.zeroValue3
  t4 := Tryz.underlying4
  a4 := Tryz.isAgg4
  z4 := Tryz.sizeOf4
  v4 := Tryz.zeroValue4
  t5 := Tryz.underlying5
  a5 := Tryz.isAgg5
  z5 := Tryz.sizeOf5
  v5 := Tryz.zeroValue5
  t9 := Tryz.underlying9
  a9 := Tryz.isAgg9
  z9 := Tryz.sizeOf9
  v9 := Tryz.zeroValue9
  t22 := Tryz.underlying25
  a22 := Tryz.isAgg25
  z22 := Tryz.sizeOf25
  v22 := Tryz.zeroValue25
  a24 := Tryz.isAgg3
  z24 := Tryz.sizeOf3
  t25 := Tryz.underlying70
  a25 := Tryz.isAgg70
  z25 := Tryz.sizeOf70
  v25 := Tryz.zeroValue70
  t39 := Tryz.underlying68
  a39 := Tryz.isAgg68
  z39 := Tryz.sizeOf68
  v39 := Tryz.zeroValue68
  t45 := Tryz.underlying83
  a45 := Tryz.isAgg83
  z45 := Tryz.sizeOf83
  v45 := Tryz.zeroValue83
  t46 := Tryz.underlying84
  a46 := Tryz.isAgg84
  z46 := Tryz.sizeOf84
  v46 := Tryz.zeroValue84
  t50 := Tryz.underlying44
  a50 := Tryz.isAgg44
  z50 := Tryz.sizeOf44
  v50 := Tryz.zeroValue44
  t53 := Tryz.underlying90
  a53 := Tryz.isAgg90
  z53 := Tryz.sizeOf90
  v53 := Tryz.zeroValue90
  t55 := Tryz.underlying92
  a55 := Tryz.isAgg92
  z55 := Tryz.sizeOf92
  v55 := Tryz.zeroValue92
  t66 := Tryz.underlying106
  a66 := Tryz.isAgg106
  z66 := Tryz.sizeOf106
  v66 := Tryz.zeroValue106
  t70 := Tryz.underlying110
  a70 := Tryz.isAgg110
  z70 := Tryz.sizeOf110
  v70 := Tryz.zeroValue110
  t76 := Tryz.underlying125
  a76 := Tryz.isAgg125
  z76 := Tryz.sizeOf125
  v76 := Tryz.zeroValue125
  t77 := Tryz.underlying126
  a77 := Tryz.isAgg126
  z77 := Tryz.sizeOf126
  v77 := Tryz.zeroValue126 }
def Tryz.sortIntsZ_ren : Go.Shelf.Ren := ⟨fun | 6 => 52 | 15 => 40 | 14 => 82 | 28 => 63 | 29 => 64 | 20 => 96 | 21 => 97 | 22 => 98 | 23 => 99 | 24 => 100 | 25 => 101 | 26 => 102 | 27 => 103 | 46 => 107 | 47 => 84 | 48 => 85 | 49 => 108 | 50 => 109 | 57 => 110 | n => n, fun | 22 => 25 | 24 => 3 | 25 => 70 | 3 => 3 | 39 => 68 | 0 => 0 | 53 => 90 | 55 => 92 | 4 => 4 | 46 => 84 | 45 => 83 | 50 => 44 | 5 => 5 | 9 => 9 | 66 => 106 | 70 => 110 | 76 => 125 | 77 => 126 | n => n, fun | n => n⟩
theorem Tryz.sortIntsZ : Go.Proofs.SlLaysF0.n6 Tryz.prog Tryz.sortIntsZ_ren := {
  mixed := by kernel_rfl
  f6 := ⟨Tryz.f52.name, by decide, Tryz.func52.trans (congrArg some (by kernel_rfl))⟩
  f14 := ⟨Tryz.f82.name, by decide, Tryz.func82.trans (congrArg some (by kernel_rfl))⟩
  f15 := Tryz.func40.trans (congrArg some (by kernel_rfl))
  f20 := ⟨Tryz.f96.name, by decide, Tryz.func96.trans (congrArg some (by kernel_rfl))⟩
  f21 := ⟨Tryz.f97.name, by decide, Tryz.func97.trans (congrArg some (by kernel_rfl))⟩
  f22 := ⟨Tryz.f98.name, by decide, Tryz.func98.trans (congrArg some (by kernel_rfl))⟩
  f23 := ⟨Tryz.f99.name, by decide, Tryz.func99.trans (congrArg some (by kernel_rfl))⟩
  f24 := ⟨Tryz.f100.name, by decide, Tryz.func100.trans (congrArg some (by kernel_rfl))⟩
  f25 := ⟨Tryz.f101.name, by decide, Tryz.func101.trans (congrArg some (by kernel_rfl))⟩
  f26 := ⟨Tryz.f102.name, by decide, Tryz.func102.trans (congrArg some (by kernel_rfl))⟩
  f27 := ⟨Tryz.f103.name, by decide, Tryz.func103.trans (congrArg some (by kernel_rfl))⟩
  f28 := Tryz.func63.trans (congrArg some (by kernel_rfl))
  f29 := Tryz.func64.trans (congrArg some (by kernel_rfl))
  f46 := ⟨Tryz.f107.name, by decide, Tryz.func107.trans (congrArg some (by kernel_rfl))⟩
  f47 := Tryz.func84.trans (congrArg some (by kernel_rfl))
  f48 := Tryz.func85.trans (congrArg some (by kernel_rfl))
  f49 := ⟨Tryz.f108.name, by decide, Tryz.func108.trans (congrArg some (by kernel_rfl))⟩
  f50 := ⟨Tryz.f109.name, by decide, Tryz.func109.trans (congrArg some (by kernel_rfl))⟩
  f57 := ⟨Tryz.f110.name, by decide, Tryz.func110.trans (congrArg some (by kernel_rfl))⟩
  t0 := Tryz.underlying0
  a0 := Tryz.isAgg0
  z0 := Tryz.sizeOf0
  v0 := Tryz.zeroValue0
  t3 := Tryz.underlying3
  a3 := Tryz.isAgg3
  z3 := Tryz.sizeOf3
  v3 := Tryz.zeroValue3
  t4 := Tryz.underlying4
  a4 := Tryz.isAgg4
  z4 := Tryz.sizeOf4
  v4 := Tryz.zeroValue4
  t5 := Tryz.underlying5
  a5 := Tryz.isAgg5
  z5 := Tryz.sizeOf5
  v5 := Tryz.zeroValue5
  t9 := Tryz.underlying9
  a9 := Tryz.isAgg9
  z9 := Tryz.sizeOf9
  v9 := Tryz.zeroValue9
  t22 := Tryz.underlying25
  a22 := Tryz.isAgg25
  z22 := Tryz.sizeOf25
  v22 := Tryz.zeroValue25
  t25 := Tryz.underlying70
  a25 := Tryz.isAgg70
  z25 := Tryz.sizeOf70
  v25 := Tryz.zeroValue70
  t39 := Tryz.underlying68
  a39 := Tryz.isAgg68
  z39 := Tryz.sizeOf68
  v39 := Tryz.zeroValue68
  t45 := Tryz.underlying83
  a45 := Tryz.isAgg83
  z45 := Tryz.sizeOf83
  v45 := Tryz.zeroValue83
  t46 := Tryz.underlying84
  a46 := Tryz.isAgg84
  z46 := Tryz.sizeOf84
  v46 := Tryz.zeroValue84
  t50 := Tryz.underlying44
  a50 := Tryz.isAgg44
  z50 := Tryz.sizeOf44
  v50 := Tryz.zeroValue44
  t53 := Tryz.underlying90
  a53 := Tryz.isAgg90
  z53 := Tryz.sizeOf90
  v53 := Tryz.zeroValue90
  t55 := Tryz.underlying92
  a55 := Tryz.isAgg92
  z55 := Tryz.sizeOf92
  v55 := Tryz.zeroValue92
  t66 := Tryz.underlying106
  a66 := Tryz.isAgg106
  z66 := Tryz.sizeOf106
  v66 := Tryz.zeroValue106
  t70 := Tryz.underlying110
  a70 := Tryz.isAgg110
  z70 := Tryz.sizeOf110
  v70 := Tryz.zeroValue110
  t76 := Tryz.underlying125
  a76 := Tryz.isAgg125
  z76 := Tryz.sizeOf125
  v76 := Tryz.zeroValue125
  t77 := Tryz.underlying126
  a77 := Tryz.isAgg126
  z77 := Tryz.sizeOf126
  v77 := Tryz.zeroValue126 }
def Tryz.compactInts_ren : Go.Shelf.Ren := ⟨fun | 20 => 53 | n => n, fun | 22 => 25 | 3 => 3 | 4 => 4 | 0 => 0 | n => n, fun | n => n⟩
theorem Tryz.compactInts : Go.Proofs.Lays2.n20 Tryz.prog Tryz.compactInts_ren := {
  mixed := by kernel_rfl
  f20 := Tryz.func53.trans (congrArg some (by kernel_rfl))
  t0 := Tryz.underlying0
  a0 := Tryz.isAgg0
  z0 := Tryz.sizeOf0
  v0 := Tryz.zeroValue0
  t3 := Tryz.underlying3
  a3 := Tryz.isAgg3
  z3 := Tryz.sizeOf3
  v3 := Tryz.zeroValue3
  t4 := Tryz.underlying4
  a4 := Tryz.isAgg4
  z4 := Tryz.sizeOf4
  v4 := Tryz.zeroValue4
  t22 := Tryz.underlying25
  a22 := Tryz.isAgg25
  z22 := Tryz.sizeOf25
  v22 := Tryz.zeroValue25
  i3 := by kernel_rfl }
end Go.Proofs
namespace Go.Proofs.YtcnkmhfcgkbhbaaGreat
open Go.RowKit Go.Shelf Go.Sort
theorem compareI_any (x y : Int) (w : World) : Calls Tryz.prog 42 #[.int .i64 x, .int .i64 y] w fun e w' => e = .returned (.int .i64 (Lib.compareInt x y)) ∧ w' = w := AnyG.cmp_Compare_int Tryz.cmpInts x y w
theorem eg_cmp : ∀ args w, (callFunc 42 args).run Tryz.prog w = .ok (.enter 42 args) w := enters_of Tryz.func42 (by kernel_rfl) rfl
theorem sortInts_any (a : Option Addr) (n c : Nat) (xs : List Int) (w : World) (rs : List Res) (hS : Sep w (vec 3 1 (.slice a n c) n (xs.map (Value.int .i64)) :: rs)) (hl : xs.length = n) (hn : n ≤ 1000000) :
    Calls Tryz.prog 52 #[.slice a n c, .func (.func 42) #[] #[]] w fun e w' => e = .returned (.tuple #[]) ∧ ∃ ys : List Int, ys.Perm xs ∧ ys.Pairwise (· ≤ ·) ∧ Sep w' (vec 3 1 (.slice a n c) n (ys.map (Value.int .i64)) :: rs) := by
  rcases Nat.eq_zero_or_pos n with h0 | h0
  · subst h0
    have hx := List.eq_nil_of_length_eq_zero hl
    subst hx
    refine (AnyF.slices_SortFunc_none Tryz.sortIntsZ a c _ w).mono ?_
    rintro e w' ⟨rfl, rfl⟩
    exact ⟨rfl, [], List.Perm.refl _, List.Pairwise.nil, hS⟩
  · obtain ⟨g, rfl⟩ : ∃ g, a = some ⟨g, 0, none⟩ := by
      rcases hS.gvec.2 with ⟨_, h1⟩ | ⟨g, cap, cur, hv, _⟩
      · omega
      · injection hv with e1 _ _
        exact ⟨g, e1⟩
    obtain ⟨hH, hg⟩ := hS.vec_holds1 (Value.int .i64) xs hl
    have hcmp : CmpLays1 Tryz.prog 42 #[] (Value.int .i64) Lib.compareInt g 0 xs.toArray.size w := fun m os dk _ x y => (compareI_any x y _).mono fun e w' h => ⟨h.1, 0, #[], by rw [h.2, grow_empty]; rfl⟩
    have hcon := Any.slices_SortFunc Tryz.sortInts (Value.int .i64) (fun _ => rfl) Lib.compareInt swo_int 42 #[] g 0 c xs.toArray w eg_cmp hcmp hH hg (by simp; omega)
    rw [show xs.toArray.size = n by simp [hl]] at hcon
    refine Calls.mono (show Calls Tryz.prog 52 _ w _ from hcon) ?_
    rintro e w' ⟨rfl, d', m, os, hp, hs, rfl⟩
    rw [show n = xs.toArray.size by simp [hl]] at hp hs
    obtain ⟨hsz, hperm⟩ := perm_list hp
    have hsrt := sorted_list hsz hs
    refine ⟨rfl, d'.toList, by simpa using hperm, hsrt.imp (fun {a b} h => by rw [lt_int] at h; simpa using h), ?_⟩
    have := hS.vec_row (Value.int .i64) m d' os (by rw [hsz]; simp [hl])
    exact this
end Go.Proofs.YtcnkmhfcgkbhbaaGreat
namespace Go.Proofs.YtcnkmhfcgkbhbaaGreat
open Go.RowKit
theorem compactInts_any (a : Option Addr) (n c : Nat) (xs : List Int) (w : World) (rs : List Res) (hS : Sep w (vec 3 1 (.slice a n c) n (xs.map (Value.int .i64)) :: rs)) (hl : xs.length = n) (hn : n ≤ 1000000) :
    Calls Tryz.prog 53 #[.slice a n c] w fun e w' => e = .returned (.slice a (Lib.compact xs).length c) ∧ Sep w' (vec 3 1 (.slice a (Lib.compact xs).length c) (Lib.compact xs).length ((Lib.compact xs).map (Value.int .i64)) :: rs) := by
  rcases Nat.eq_zero_or_pos n with h0 | h0
  · subst h0
    have hx := List.eq_nil_of_length_eq_zero hl
    subst hx
    refine (Any.slices_Compact_int_empty Tryz.compactInts a c w).mono ?_
    rintro e w' ⟨rfl, rfl⟩
    exact ⟨rfl, hS⟩
  · obtain ⟨g, rfl⟩ : ∃ g, a = some ⟨g, 0, none⟩ := by
      rcases hS.gvec.2 with ⟨_, h1⟩ | ⟨g, cap, cur, hv, _⟩
      · omega
      · injection hv with e1 _ _
        exact ⟨g, e1⟩
    obtain ⟨hH, hg⟩ := hS.vec_holds1 (Value.int .i64) xs hl
    obtain ⟨_, _, hnc, hcm, _⟩ := hS.vec_blk
    have hcl : (Lib.compact xs).length ≤ xs.length := by
      unfold Lib.compact Lib.compactUpTo
      rw [List.length_map]
      exact Nat.le_trans (List.length_filter_le _ _) (by simp)
    have hcon := Any.slices_Compact_int Tryz.compactInts g 0 c xs w hH (by omega) (by omega)
    subst hl
    refine Calls.mono (show Calls Tryz.prog 53 _ w _ from hcon) ?_
    rintro e w' ⟨rfl, q, rfl⟩
    refine ⟨rfl, ?_⟩
    have h2 := hS.vec_row (Value.int .i64) q (Lib.compact xs ++ List.replicate (xs.length - (Lib.compact xs).length) 0).toArray #[] (by simp; omega)
    rw [Go.Sort.grow_empty] at h2
    have h3 := h2.vec_shrink hcl
    have e : ((Lib.compact xs ++ List.replicate (xs.length - (Lib.compact xs).length) 0).toArray.toList.map (Value.int .i64)).take ((Lib.compact xs).length * 1) = (Lib.compact xs).map (Value.int .i64) := by
      rw [Nat.mul_one, List.toList_toArray, List.map_append, List.take_left' (by simp)]
    rw [e] at h3
    exact h3
theorem info_intE : (Tryz.prog.info? 3).map (fun i => (i.zero, i.size, i.bytes)) = some (some (.int .i64 0), 1, 8) := by kernel_rfl
/-- Who stands in the way of q, in the order of the queue; sorted, each once. -/
def blkL (l : List Rq) (q : Rq) : List Int := (l.filter fun o => blocksB o q).map (·.txn)
theorem blkL_snoc (l : List Rq) (q : Rq) (k : Nat) (h : k < l.length) : blkL (l.take (k + 1)) q = blkL (l.take k) q ++ (if blocksB (l.getD k default) q then [(l.getD k default).txn] else []) := by
  unfold blkL
  rw [take_snocQ l k h, List.filter_append, List.map_append]
  congr 1
  generalize l.getD k default = o
  cases hb : blocksB o q <;> simp [hb]
theorem blkL_len (l : List Rq) (q : Rq) : (blkL l q).length ≤ l.length := by
  unfold blkL
  rw [List.length_map]
  exact List.length_filter_le _ _
def nrm (xs : List Int) : List Int := Lib.compact (xs.mergeSort fun a b => decide (a ≤ b))
def blkV (l : List Rq) (id : Int) : List Int := if plc l id < 0 then [] else if 0 < (l.getD (plc l id).toNat default).since then nrm (blkL l (l.getD (plc l id).toNat default)) else []
theorem sorted_eq {xs ys : List Int} (hp : ys.Perm xs) (hs : ys.Pairwise (· ≤ ·)) : ys = xs.mergeSort fun a b => decide (a ≤ b) := by
  refine List.Perm.eq_of_pairwise (le := (· ≤ ·)) (fun a b _ _ h1 h2 => Int.le_antisymm h1 h2) hs ?_ (hp.trans (List.mergeSort_perm xs _).symm)
  have := List.pairwise_mergeSort (le := fun a b : Int => decide (a ≤ b)) (fun a b c h1 h2 => by simp at *; omega) (fun a b => by simp; omega) xs
  exact this.imp (fun {a b} h => by simpa using h)
set_option maxHeartbeats 1000000 in
theorem blockers_none (t r n : Int) (v : Value) (l : List Rq) (id0 : Int) (w : World) (hv : RQ w v l) (hl : l.length ≤ 1000) (hi : plc l id0 = -1) :
    Calls Tryz.prog 37 #[hval t r v n, .int .i64 id0] w fun e w' => e = .returned (.slice none 0 0) ∧ Below w.heap.size w w' := by
  have h0 := Lib.hid (fun b0 => (Sep.start w).alloc b0 61)
  have HF := Lib.hid (fun W hb => find_none t r n v l id0 W (hv.below hb) hl hi)
  obtain ⟨a, c, rfl, _⟩ := hv
  unfold hval Rq.val at *
  go_enter Tryz.func37, Tryz.ntmps37
  go_wp2_with fail
  refine (HF.out _ (h0.out _).tail.gold).mono ?_
  rintro e w1 ⟨rfl, b1⟩
  have hB := Lib.hid (((h0.out _).below b1).alloc #[.int .i64 0, .int .i64 0, .int .i64 0, .int .i64 0, .int .i64 0] 64)
  clear b1
  go_wp2_with fail
  go_ret
  exact ⟨rfl, hB.out.tail.tail.gold⟩
set_option maxHeartbeats 1000000 in
theorem blockers_calm (t r n : Int) (v : Value) (l : List Rq) (id0 : Int) (w : World) (hv : RQ w v l) (hl : l.length ≤ 1000) (i : Nat) (hi : plc l id0 = i) (hil : i < l.length) (hs : decide (0 < (l.getD i default).since) = false) :
    Calls Tryz.prog 37 #[hval t r v n, .int .i64 id0] w fun e w' => e = .returned (.slice none 0 0) ∧ Below w.heap.size w w' := by
  have h0 := Lib.hid (fun b0 => (Sep.start w).alloc b0 61)
  have HF := Lib.hid (fun W hb => find_some t r n v l id0 W (hv.below hb) hl i hi hil)
  have HW := Lib.hid (fun W => waits_any (l.getD i default) W)
  rw [hs] at HW
  obtain ⟨a, c, rfl, _⟩ := hv
  clear hs
  generalize l.getD i default = q at *
  obtain ⟨id, txn, mode, want, since⟩ := q
  unfold hval Rq.val at *
  simp only at HF HW
  go_enter Tryz.func37, Tryz.ntmps37
  go_wp2_with fail
  refine (HF.out _ (h0.out _).tail.gold).mono ?_
  rintro e w1 ⟨rfl, b1⟩
  have hB := Lib.hid (((h0.out _).below b1).alloc #[.int .i64 id, .int .i64 txn, .int .i64 mode, .int .i64 want, .int .i64 since] 64)
  obtain ⟨_, p0, p1, p2, p3, p4, _⟩ := hB.out.b5
  clear b1
  go_wp2_with fail
  refine (HW.out _).mono ?_
  rintro e w2 ⟨rfl, b2⟩
  replace hB := Lib.hid (hB.out.below b2)
  clear b2 p0 p1 p2 p3 p4
  go_wp2_with fail
  go_ret
  exact ⟨rfl, hB.out.tail.tail.gold⟩
set_option maxHeartbeats 2000000 in
set_option maxRecDepth 100000 in
theorem blockers_some (t r n : Int) (v : Value) (l : List Rq) (id0 : Int) (w : World) (hv : RQ w v l) (hl : l.length ≤ 1000) (i : Nat) (hi : plc l id0 = i) (hil : i < l.length) (hs : decide (0 < (l.getD i default).since) = true) :
    Calls Tryz.prog 37 #[hval t r v n, .int .i64 id0] w fun e w' => ∃ a c, e = .returned (.slice a (nrm (blkL l (l.getD i default))).length c) ∧ Sep w' [vec 3 1 (.slice a (nrm (blkL l (l.getD i default))).length c) (nrm (blkL l (l.getD i default))).length ((nrm (blkL l (l.getD i default))).map (Value.int .i64)), old w] := by
  have h0 := Lib.hid (fun b0 => (Sep.start w).alloc b0 61)
  have HF := Lib.hid (fun W hb => find_some t r n v l id0 W (hv.below hb) hl i hi hil)
  have HW := Lib.hid (fun W => waits_any (l.getD i default) W)
  rw [hs] at HW
  obtain ⟨a, c, rfl, hlc, _, hr⟩ := hv
  replace hr := Lib.hid hr
  clear hs hi hil
  generalize l.getD i default = q at *
  have hlen := Lib.hid (fun k => blkL_len (l.take k) q)
  have HBl := Lib.hid (fun o W => blocks_any o q W)
  have HSo := Lib.hid (fun a n c xs w rs h1 h2 h3 => sortInts_any a n c xs w rs h1 h2 h3)
  have HCo := Lib.hid (fun a n c xs w rs h1 h2 h3 => compactInts_any a n c xs w rs h1 h2 h3)
  have eg := eg_cmp
  obtain ⟨i0, hi, hz0, hz1, hz2⟩ := info_parts info_intE
  obtain ⟨R, hR⟩ : ∃ R, nrm (blkL l q) = R := ⟨_, rfl⟩
  rw [hR]
  replace hR := Lib.hid hR
  have hsn := Lib.hid (fun k h => blkL_snoc l q k h)
  obtain ⟨q', hq'⟩ : ∃ q', q = q' := ⟨_, rfl⟩
  rw [hq'] at HF HW HBl
  replace hq' := Lib.hid hq'
  obtain ⟨id, txn, mode, want, since⟩ := q'
  unfold hval Rq.val at *
  simp only at HF HW HBl
  generalize hm : l.length = m at *
  replace hm := Lib.hid hm
  go_enter Tryz.func37, Tryz.ntmps37
  go_wp2_with fail
  refine (HF.out _ (h0.out _).tail.gold).mono ?_
  rintro e w1 ⟨rfl, b1⟩
  have hB := Lib.hid (((h0.out _).below b1).alloc #[.int .i64 id, .int .i64 txn, .int .i64 mode, .int .i64 want, .int .i64 since] 64)
  obtain ⟨_, p0, p1, p2, p3, p4, _⟩ := hB.out.b5
  clear b1 HF h0
  go_wp2_with fail
  refine (HW.out _).mono ?_
  rintro e w2 ⟨rfl, b2⟩
  replace hB := Lib.hid (hB.out.below b2)
  clear b2 HW p0 p1 p2 p3 p4
  generalize w1.heap.size = RB at *
  obtain ⟨_, d0, d1, d2, d3, _⟩ := hB.out.to1.b4
  have hS := Lib.hid (hB.out.vec_nil 3 1)
  clear hB
  go_wp2_with fail
  go_loopw [7, 26] (fun s x wr => ∃ (k : Nat) (sv : Value), k ≤ m ∧ x = .int .i64 k ∧ sv = s ∧ Hid (Sep wr [vec 3 1 sv (blkL (l.take k) q).length ((blkL (l.take k) q).map (Value.int .i64)), blk RB 64 #[.int .i64 id, .int .i64 txn, .int .i64 mode, .int .i64 want, .int .i64 since], blk w.heap.size 61 #[.int .i64 t, .int .i64 r, .slice a m c, .int .i64 n], old w])) (fun _ x _ => m - (intOf x).toNat)
  case atStart => exact ⟨0, _, Nat.zero_le _, rfl, rfl, hS⟩
  case round =>
    clear hS d0 d1 d2 d3
    obtain ⟨k, sv, hk, rfl, rfl, hS⟩ := hrel
    obtain ⟨sa, sc, rfl⟩ := own_slice hS.out.gvec
    have hkl := hlen.out k
    by_cases hlt : k < m
    · obtain ⟨b, off, rfl, hbl, hz⟩ := hr.out (by have := hm.out; omega)
      obtain ⟨z0, z1, z2, z3, z4⟩ := hz k (by have := hm.out; omega)
      have kk : ∀ o, wr.cell? ⟨b, o, none⟩ = w.cell? ⟨b, o, none⟩ := fun o => hS.out.to3.gold.cell (p := ⟨b, o, none⟩) hbl
      rw [← kk] at z0 z1 z2 z3 z4
      have E := Lib.hid (hsn.out k hlt)
      have hkl2 : (blkL (l.take k) q).length ≤ k := Nat.le_trans hkl (by rw [List.length_take]; omega)
      have HB2 := Lib.hid (fun W => HBl.out (l.getD k default) W)
      have hS2 := hS.out.alloc (l.getD k default).cells.toArray 64
      rw [hq'.out] at E
      generalize hbv : blocksB (l.getD k default) ⟨id, txn, mode, want, since⟩ = bv at *
      replace hbv := Lib.hid hbv
      generalize l.getD k default = o at *
      obtain ⟨oid, otxn, omode, owant, osince⟩ := o
      simp only [Rq.cells] at hS2
      simp only at z0 z1 z2 z3 z4 E HB2
      rw [← hq'.out] at E
      replace hS2 := Lib.hid (show Sep _ [blk wr.heap.size 64 #[.int .i64 oid, .int .i64 otxn, .int .i64 omode, .int .i64 owant, .int .i64 osince], _, _, _, _] from hS2)
      obtain ⟨_, p0, p1, p2, p3, p4, _⟩ := hS2.out.b5
      obtain ⟨_, r0, r1, r2, r3, r4, _⟩ := hS2.out.to2.b5
      have i1 : (0 : Int) ≤ (k : Int) := by omega
      have i2 : (k : Int) < (m : Int) := by omega
      clear kk hz hkl
      go_wp2_with fail
      refine (HB2.out _).mono ?_
      rintro e w3 ⟨rfl, b3⟩
      replace hS2 := Lib.hid (hS2.out.below b3)
      generalize wr.heap.size = OB at *
      clear b3 HB2 p0 p1 p2 p3 p4 r0 r1 r2 r3 r4 z0 z1 z2 z3 z4 hS
      obtain ⟨_, p0, p1, p2, p3, p4, _⟩ := hS2.out.b5
      cases bv with
      | true =>
        rw [if_pos rfl] at E
        go_wp2_with (at_builtin; refine wpList_append_sep (hS2.out.to1.allocG _) rfl _ _ 25 rfl i0 (.int .i64 0) 8 Tryz.underlying25 hi hz0 hz1 hz2 rfl (by decide) rfl 1 [.int .i64 otxn] (SrcA.one _ _ _ _) ?c2 ?c3 ?c4 ?_)
        case c2 => simp [Value.oneCell']
        case c3 => simp only [maxLen]; omega
        case c4 => omega
        intro aa ca w5 hS5
        have hS6 : Hid (Sep w5 [vec 3 1 (.slice aa ((blkL (l.take k) q).length + 1) ca) (blkL (l.take (k + 1)) q).length ((blkL (l.take (k + 1)) q).map (Value.int .i64)), _, _, _]) := Lib.hid (by rw [E.out]; simpa using hS5.drop1)
        clear hS2 E hS5 p0 p1 p2 p3 p4
        go_wp2_with fail
        go_roundw
        case rel => exact ⟨k + 1, _, by omega, by go_num, rfl, hS6⟩
        case measure => simp [intOf]; omega
      | false =>
        rw [if_neg (by decide), List.append_nil] at E
        have hS6 : Hid (Sep w3 [vec 3 1 (.slice sa (blkL (l.take k) q).length sc) (blkL (l.take (k + 1)) q).length ((blkL (l.take (k + 1)) q).map (Value.int .i64)), _, _, _]) := Lib.hid (by rw [E.out]; exact hS2.out.tail)
        clear hS2 E p0 p1 p2 p3 p4
        go_wp2_with fail
        go_roundw
        case rel => exact ⟨k + 1, _, by omega, by go_num, rfl, hS6⟩
        case measure => simp [intOf]; omega
    · obtain rfl : k = m := by omega
      have e1 : l.take k = l := List.take_of_length_le (by rw [hm.out]; omega)
      rw [e1] at hS hkl ⊢
      clear hsn hlen hr HBl
      obtain ⟨xs, hxs⟩ : ∃ xs, blkL l q = xs := ⟨_, rfl⟩
      rw [hxs] at hS hkl ⊢
      have hR2 := hR.out
      rw [hxs] at hR2
      clear hR hxs e1
      have HS2 := Lib.hid (HSo.out sa xs.length sc xs wr _ hS.out rfl (by have := hm.out; omega))
      clear HSo
      go_wp2_with fail
      refine HS2.out.mono ?_
      rintro e w3 ⟨rfl, ys, hp, hso, hS3⟩
      have e2 := sorted_eq hp hso
      have HC2 := Lib.hid (HCo.out sa xs.length sc ys w3 _ hS3 hp.length_eq (by have := hm.out; omega))
      have e3 : Lib.compact ys = R := by rw [e2]; exact hR2
      rw [e3] at HC2
      clear HCo HS2 hS3 hS e2 e3 hR2 hp hso
      go_wp2_with fail
      refine HC2.out.mono ?_
      rintro e w4 ⟨rfl, hS4⟩
      replace hS4 := Lib.hid hS4
      clear HC2
      go_wp2_with fail
      go_ret
      exact ⟨_, _, rfl, hS4.out.drop1.drop1⟩
end Go.Proofs.YtcnkmhfcgkbhbaaGreat
