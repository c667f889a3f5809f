/-
  DERIVED: THE SHELF's CONTRACTS AT THIS DUMP, IN PLAIN WORDS (tools/lay-plain.mjs out of 'TrydShelf.lean', which tools/lay-shelf.mjs wrote): THE SAME DECLARATIONS UNDER THE SAME NAMES: 'import', 'namespace', 'open', 'def', 'theorem' AND NOTHING ELSE: no command of the shelf's: FOR A HAND-IN. Each laying: the table of numbers ('.._ren') and one theorem, a field a fact of the dump's own or the kernel's comparison; each contract: ONE APPLICATION.
-/
import Derived.Shelf.Small.Bits
import Derived.Shelf.Small.Wraps
import Derived.Shelf.Strconv.Itoa0
import Derived.Shelf.Sort.Plain
import Derived.Shelf.Bits.Mul64
import Derived.Ground.Names2Prog
import Derived.Shelf.Slices.CompactI
import Derived.Shelf.Slices.Cells
import Derived.Shelf.Slices.In.SortNone
import Derived.Test.YtgdoojlfbebaaaaDoorProg
set_option linter.unusedSimpArgs false
set_option linter.unusedVariables false
section
namespace Go.Proofs
open Go.Shelf
def Tryd.lays189_ren : Go.Shelf.Ren := ⟨fun | 189 => 106 | 125 => 109 | 257 => 108 | 128 => 118 | 129 => 119 | 294 => 110 | 295 => 111 | 296 => 112 | 297 => 113 | 298 => 114 | 299 => 115 | 216 => 92 | 300 => 116 | 301 => 117 | 328 => 120 | 329 => 121 | 330 => 122 | 331 => 123 | 332 => 124 | 215 => 105 | 343 => 125 | n => n, fun | 28 => 22 | 3 => 3 | 46 => 125 | 0 => 0 | 51 => 42 | 53 => 149 | 4 => 4 | 183 => 160 | 182 => 159 | 131 => 164 | 5 => 5 | 9 => 9 | 218 => 168 | 222 => 172 | 228 => 174 | 229 => 175 | n => n, fun | n => n⟩
theorem Tryd.lays189 : Go.Proofs.Lays.n189 Tryd.prog Tryd.lays189_ren := {
 mixed := by kernel_rfl
 f125 := Tryd.func109.trans (congrArg some (by kernel_rfl))
 f128 := Tryd.func118.trans (congrArg some (by kernel_rfl))
 f129 := Tryd.func119.trans (congrArg some (by kernel_rfl))
 f189 := Tryd.func106.trans (congrArg some (by kernel_rfl))
 f215 := Tryd.func105.trans (congrArg some (by kernel_rfl))
 f216 := Tryd.func92.trans (congrArg some (by kernel_rfl))
 f257 := Tryd.func108.trans (congrArg some (by kernel_rfl))
 f294 := Tryd.func110.trans (congrArg some (by kernel_rfl))
 f295 := Tryd.func111.trans (congrArg some (by kernel_rfl))
 f296 := Tryd.func112.trans (congrArg some (by kernel_rfl))
 f297 := Tryd.func113.trans (congrArg some (by kernel_rfl))
 f298 := Tryd.func114.trans (congrArg some (by kernel_rfl))
 f299 := Tryd.func115.trans (congrArg some (by kernel_rfl))
 f300 := Tryd.func116.trans (congrArg some (by kernel_rfl))
 f301 := Tryd.func117.trans (congrArg some (by kernel_rfl))
 f328 := Tryd.func120.trans (congrArg some (by kernel_rfl))
 f329 := Tryd.func121.trans (congrArg some (by kernel_rfl))
 f330 := Tryd.func122.trans (congrArg some (by kernel_rfl))
 f331 := Tryd.func123.trans (congrArg some (by kernel_rfl))
 f332 := Tryd.func124.trans (congrArg some (by kernel_rfl))
 f343 := Tryd.func125.trans (congrArg some (by kernel_rfl))
 t0 := Tryd.underlying0
 a0 := Tryd.isAgg0
 z0 := Tryd.sizeOf0
 v0 := Tryd.zeroValue0
 t3 := Tryd.underlying3
 a3 := Tryd.isAgg3
 z3 := Tryd.sizeOf3
 v3 := Tryd.zeroValue3
 t4 := Tryd.underlying4
 a4 := Tryd.isAgg4
 z4 := Tryd.sizeOf4
 v4 := Tryd.zeroValue4
 t5 := Tryd.underlying5
 a5 := Tryd.isAgg5
 z5 := Tryd.sizeOf5
 v5 := Tryd.zeroValue5
 t9 := Tryd.underlying9
 a9 := Tryd.isAgg9
 z9 := Tryd.sizeOf9
 v9 := Tryd.zeroValue9
 t28 := Tryd.underlying22
 a28 := Tryd.isAgg22
 z28 := Tryd.sizeOf22
 v28 := Tryd.zeroValue22
 t46 := Tryd.underlying125
 a46 := Tryd.isAgg125
 z46 := Tryd.sizeOf125
 v46 := Tryd.zeroValue125
 t51 := Tryd.underlying42
 a51 := Tryd.isAgg42
 z51 := Tryd.sizeOf42
 v51 := Tryd.zeroValue42
 t53 := Tryd.underlying149
 a53 := Tryd.isAgg149
 z53 := Tryd.sizeOf149
 v53 := Tryd.zeroValue149
 t131 := Tryd.underlying164
 a131 := Tryd.isAgg164
 z131 := Tryd.sizeOf164
 v131 := Tryd.zeroValue164
 t182 := Tryd.underlying159
 a182 := Tryd.isAgg159
 z182 := Tryd.sizeOf159
 v182 := Tryd.zeroValue159
 t183 := Tryd.underlying160
 a183 := Tryd.isAgg160
 z183 := Tryd.sizeOf160
 v183 := Tryd.zeroValue160
 t218 := Tryd.underlying168
 a218 := Tryd.isAgg168
 z218 := Tryd.sizeOf168
 v218 := Tryd.zeroValue168
 t222 := Tryd.underlying172
 a222 := Tryd.isAgg172
 z222 := Tryd.sizeOf172
 v222 := Tryd.zeroValue172
 t228 := Tryd.underlying174
 a228 := Tryd.isAgg174
 z228 := Tryd.sizeOf174
 v228 := Tryd.zeroValue174
 t229 := Tryd.underlying175
 a229 := Tryd.isAgg175
 z229 := Tryd.sizeOf175
 v229 := Tryd.zeroValue175 }
open Go.Sort Go.RowKit in
theorem Tryd.slices_Sort_int (blk off cap : Nat) (zs : List Int) (w : World) (hH : Holds (Value.int .i64) w blk off zs.toArray) (hblk : blk < w.heap.size) (hsz : zs.length < 4611686018427387904) :
 Calls Tryd.prog 106 #[.slice (some ⟨blk, off, none⟩) zs.length cap] w fun e w' =>
  e = .returned (.tuple #[]) ∧ ∃ n os, w' = grow (putRow (Value.int .i64) (Sort.ahead w n) blk off (zs.mergeSort fun x y => decide (x ≤ y)).toArray) os := Any.slices_Sort_int Tryd.lays189 blk off cap zs w hH hblk hsz
def Tryd.lays212_ren : Go.Shelf.Ren := ⟨fun | 212 => 79 | 263 => 99 | 264 => 100 | n => n, fun | 46 => 125 | 51 => 42 | 146 => 147 | 53 => 149 | 148 => 150 | n => n, fun | n => n⟩
theorem Tryd.lays212 : Go.Proofs.Lays.n212 Tryd.prog Tryd.lays212_ren := {
 mixed := by kernel_rfl
 f212 := Tryd.func79.trans (congrArg some (by kernel_rfl))
 f263 := Tryd.func99.trans (congrArg some (by kernel_rfl))
 f264 := Tryd.func100.trans (congrArg some (by kernel_rfl))
 t46 := Tryd.underlying125
 a46 := Tryd.isAgg125
 z46 := Tryd.sizeOf125
 v46 := Tryd.zeroValue125
 t51 := Tryd.underlying42
 a51 := Tryd.isAgg42
 z51 := Tryd.sizeOf42
 v51 := Tryd.zeroValue42
 t53 := Tryd.underlying149
 a53 := Tryd.isAgg149
 z53 := Tryd.sizeOf149
 v53 := Tryd.zeroValue149
 t146 := Tryd.underlying147
 a146 := Tryd.isAgg147
 z146 := Tryd.sizeOf147
 v146 := Tryd.zeroValue147
 t148 := Tryd.underlying150
 a148 := Tryd.isAgg150
 z148 := Tryd.sizeOf150
 v148 := Tryd.zeroValue150 }
open Go.RowKit Go.Lib in
theorem Tryd.bits_Mul (x y : Nat) (hx : x < 18446744073709551616) (hy : y < 18446744073709551616) (w : World) :
 Calls Tryd.prog 79 #[.int .u64 x, .int .u64 y] w fun e w' => e = .returned (.tuple #[.int .u64 ((x * y / 18446744073709551616 : Nat) : Int), .int .u64 ((x * y % 18446744073709551616 : Nat) : Int)]) ∧ w' = w := Any.bits_Mul Tryd.lays212 x y hx hy w
def Tryd.laysNm220_ren : Go.Shelf.Ren := ⟨fun | 20 => 95 | n => n, fun | 22 => 22 | 3 => 3 | 4 => 4 | 0 => 0 | n => n, fun | n => n⟩
theorem Tryd.laysNm220 : Go.Proofs.Lays2.n20 Tryd.prog Tryd.laysNm220_ren := {
 mixed := by kernel_rfl
 f20 := Tryd.func95.trans (congrArg some (by kernel_rfl))
 t0 := Tryd.underlying0
 a0 := Tryd.isAgg0
 z0 := Tryd.sizeOf0
 v0 := Tryd.zeroValue0
 t3 := Tryd.underlying3
 a3 := Tryd.isAgg3
 z3 := Tryd.sizeOf3
 v3 := Tryd.zeroValue3
 t4 := Tryd.underlying4
 a4 := Tryd.isAgg4
 z4 := Tryd.sizeOf4
 v4 := Tryd.zeroValue4
 t22 := Tryd.underlying22
 a22 := Tryd.isAgg22
 z22 := Tryd.sizeOf22
 v22 := Tryd.zeroValue22
 i3 := by kernel_rfl }
open Go.RowKit Go.Lib Go.Sort in
theorem Tryd.slices_Compact_int (blk off cap : Nat) (zs : List Int) (w : World) (hH : Holds (Value.int .i64) w blk off zs.toArray) (hsz : zs.length ≤ 9223372036854775807) (hcap : zs.length ≤ cap) :
 Calls Tryd.prog 95 #[.slice (some ⟨blk, off, none⟩) zs.length cap] w fun e w' => e = .returned (.slice (some ⟨blk, off, none⟩) (Lib.compact zs).length cap) ∧ ∃ q, w' = putRow (Value.int .i64) (Sort.ahead w q) blk off (Lib.compact zs ++ List.replicate (zs.length - (Lib.compact zs).length) 0).toArray := Any.slices_Compact_int Tryd.laysNm220 blk off cap zs w hH hsz hcap
end Go.Proofs
end
