/-
  DERIVED: THE SHELF's CONTRACTS AT THIS DUMP, IN PLAIN WORDS (tools/lay-plain.mjs out of 'TryzShelf.lean', which tools/lay-shelf.mjs wrote): THE SAME DECLARATIONS UNDER THE SAME NAMES: 'import', 'namespace', 'open', 'def', 'theorem' AND NOTHING ELSE: no command of the shelf's: FOR A HAND-IN. Each laying: the table of numbers ('.._ren') and one theorem, a field a fact of the dump's own or the kernel's comparison; each contract: ONE APPLICATION.
-/
import Derived.Shelf.Small.Bits
import Derived.Shelf.Small.Wraps
import Derived.Shelf.Strconv.Itoa0
import Derived.Shelf.Sort.Plain
import Derived.Shelf.Bits.Mul64
import Derived.Shelf.Slices.Turned
import Derived.Ground.Names2Prog
import Derived.Shelf.Slices.Clone
import Derived.Shelf.Slices.CompactI
import Derived.Shelf.Slices.SearchI
import Derived.Shelf.Slices.Cells
import Derived.Shelf.Slices.In.SortNone
import Derived.Ground.SlgnProg
import Derived.Shelf.SlicesE.Clone
import Derived.Test.YtoelekmbmghicaaGreatDoorProg
set_option linter.unusedSimpArgs false
set_option linter.unusedVariables false
section
namespace Go.Proofs
open Go.Shelf
def Tryz.lays189_ren : Go.Shelf.Ren := ⟨fun | 189 => 130 | 125 => 136 | 257 => 135 | 128 => 145 | 129 => 146 | 294 => 137 | 295 => 138 | 296 => 139 | 297 => 140 | 298 => 141 | 299 => 142 | 216 => 113 | 300 => 143 | 301 => 144 | 328 => 147 | 329 => 148 | 330 => 149 | 331 => 150 | 332 => 151 | 215 => 128 | 343 => 152 | n => n, fun | 28 => 22 | 3 => 3 | 46 => 148 | 0 => 0 | 51 => 28 | 53 => 132 | 4 => 4 | 183 => 191 | 182 => 190 | 131 => 80 | 5 => 5 | 9 => 9 | 218 => 198 | 222 => 202 | 228 => 204 | 229 => 205 | n => n, fun | n => n⟩
theorem Tryz.lays189 : Go.Proofs.Lays.n189 Tryz.prog Tryz.lays189_ren := {
 mixed := by kernel_rfl
 f125 := Tryz.func136.trans (congrArg some (by kernel_rfl))
 f128 := Tryz.func145.trans (congrArg some (by kernel_rfl))
 f129 := Tryz.func146.trans (congrArg some (by kernel_rfl))
 f189 := Tryz.func130.trans (congrArg some (by kernel_rfl))
 f215 := Tryz.func128.trans (congrArg some (by kernel_rfl))
 f216 := Tryz.func113.trans (congrArg some (by kernel_rfl))
 f257 := Tryz.func135.trans (congrArg some (by kernel_rfl))
 f294 := Tryz.func137.trans (congrArg some (by kernel_rfl))
 f295 := Tryz.func138.trans (congrArg some (by kernel_rfl))
 f296 := Tryz.func139.trans (congrArg some (by kernel_rfl))
 f297 := Tryz.func140.trans (congrArg some (by kernel_rfl))
 f298 := Tryz.func141.trans (congrArg some (by kernel_rfl))
 f299 := Tryz.func142.trans (congrArg some (by kernel_rfl))
 f300 := Tryz.func143.trans (congrArg some (by kernel_rfl))
 f301 := Tryz.func144.trans (congrArg some (by kernel_rfl))
 f328 := Tryz.func147.trans (congrArg some (by kernel_rfl))
 f329 := Tryz.func148.trans (congrArg some (by kernel_rfl))
 f330 := Tryz.func149.trans (congrArg some (by kernel_rfl))
 f331 := Tryz.func150.trans (congrArg some (by kernel_rfl))
 f332 := Tryz.func151.trans (congrArg some (by kernel_rfl))
 f343 := Tryz.func152.trans (congrArg some (by kernel_rfl))
 t0 := Tryz.underlying0
 a0 := Tryz.isAgg0
 z0 := Tryz.sizeOf0
 v0 := Tryz.zeroValue0
 t3 := Tryz.underlying3
 a3 := Tryz.isAgg3
 z3 := Tryz.sizeOf3
 v3 := Tryz.zeroValue3
 t4 := Tryz.underlying4
 a4 := Tryz.isAgg4
 z4 := Tryz.sizeOf4
 v4 := Tryz.zeroValue4
 t5 := Tryz.underlying5
 a5 := Tryz.isAgg5
 z5 := Tryz.sizeOf5
 v5 := Tryz.zeroValue5
 t9 := Tryz.underlying9
 a9 := Tryz.isAgg9
 z9 := Tryz.sizeOf9
 v9 := Tryz.zeroValue9
 t28 := Tryz.underlying22
 a28 := Tryz.isAgg22
 z28 := Tryz.sizeOf22
 v28 := Tryz.zeroValue22
 t46 := Tryz.underlying148
 a46 := Tryz.isAgg148
 z46 := Tryz.sizeOf148
 v46 := Tryz.zeroValue148
 t51 := Tryz.underlying28
 a51 := Tryz.isAgg28
 z51 := Tryz.sizeOf28
 v51 := Tryz.zeroValue28
 t53 := Tryz.underlying132
 a53 := Tryz.isAgg132
 z53 := Tryz.sizeOf132
 v53 := Tryz.zeroValue132
 t131 := Tryz.underlying80
 a131 := Tryz.isAgg80
 z131 := Tryz.sizeOf80
 v131 := Tryz.zeroValue80
 t182 := Tryz.underlying190
 a182 := Tryz.isAgg190
 z182 := Tryz.sizeOf190
 v182 := Tryz.zeroValue190
 t183 := Tryz.underlying191
 a183 := Tryz.isAgg191
 z183 := Tryz.sizeOf191
 v183 := Tryz.zeroValue191
 t218 := Tryz.underlying198
 a218 := Tryz.isAgg198
 z218 := Tryz.sizeOf198
 v218 := Tryz.zeroValue198
 t222 := Tryz.underlying202
 a222 := Tryz.isAgg202
 z222 := Tryz.sizeOf202
 v222 := Tryz.zeroValue202
 t228 := Tryz.underlying204
 a228 := Tryz.isAgg204
 z228 := Tryz.sizeOf204
 v228 := Tryz.zeroValue204
 t229 := Tryz.underlying205
 a229 := Tryz.isAgg205
 z229 := Tryz.sizeOf205
 v229 := Tryz.zeroValue205 }
open Go.Sort Go.RowKit in
theorem Tryz.slices_Sort_int (blk off cap : Nat) (zs : List Int) (w : World) (hH : Holds (Value.int .i64) w blk off zs.toArray) (hblk : blk < w.heap.size) (hsz : zs.length < 4611686018427387904) :
 Calls Tryz.prog 130 #[.slice (some ⟨blk, off, none⟩) zs.length cap] w fun e w' =>
  e = .returned (.tuple #[]) ∧ ∃ n os, w' = grow (putRow (Value.int .i64) (Sort.ahead w n) blk off (zs.mergeSort fun x y => decide (x ≤ y)).toArray) os := Any.slices_Sort_int Tryz.lays189 blk off cap zs w hH hblk hsz
def Tryz.lays212_ren : Go.Shelf.Ren := ⟨fun | 212 => 92 | 263 => 120 | 264 => 121 | n => n, fun | 46 => 148 | 51 => 28 | 146 => 173 | 53 => 132 | 148 => 175 | n => n, fun | n => n⟩
theorem Tryz.lays212 : Go.Proofs.Lays.n212 Tryz.prog Tryz.lays212_ren := {
 mixed := by kernel_rfl
 f212 := Tryz.func92.trans (congrArg some (by kernel_rfl))
 f263 := Tryz.func120.trans (congrArg some (by kernel_rfl))
 f264 := Tryz.func121.trans (congrArg some (by kernel_rfl))
 t46 := Tryz.underlying148
 a46 := Tryz.isAgg148
 z46 := Tryz.sizeOf148
 v46 := Tryz.zeroValue148
 t51 := Tryz.underlying28
 a51 := Tryz.isAgg28
 z51 := Tryz.sizeOf28
 v51 := Tryz.zeroValue28
 t53 := Tryz.underlying132
 a53 := Tryz.isAgg132
 z53 := Tryz.sizeOf132
 v53 := Tryz.zeroValue132
 t146 := Tryz.underlying173
 a146 := Tryz.isAgg173
 z146 := Tryz.sizeOf173
 v146 := Tryz.zeroValue173
 t148 := Tryz.underlying175
 a148 := Tryz.isAgg175
 z148 := Tryz.sizeOf175
 v148 := Tryz.zeroValue175 }
open Go.RowKit Go.Lib in
theorem Tryz.bits_Mul (x y : Nat) (hx : x < 18446744073709551616) (hy : y < 18446744073709551616) (w : World) :
 Calls Tryz.prog 92 #[.int .u64 x, .int .u64 y] w fun e w' => e = .returned (.tuple #[.int .u64 ((x * y / 18446744073709551616 : Nat) : Int), .int .u64 ((x * y % 18446744073709551616 : Nat) : Int)]) ∧ w' = w := Any.bits_Mul Tryz.lays212 x y hx hy w
def Tryz.laysNm220_ren : Go.Shelf.Ren := ⟨fun | 20 => 116 | n => n, fun | 22 => 22 | 3 => 3 | 4 => 4 | 0 => 0 | n => n, fun | n => n⟩
theorem Tryz.laysNm220 : Go.Proofs.Lays2.n20 Tryz.prog Tryz.laysNm220_ren := {
 mixed := by kernel_rfl
 f20 := Tryz.func116.trans (congrArg some (by kernel_rfl))
 t0 := Tryz.underlying0
 a0 := Tryz.isAgg0
 z0 := Tryz.sizeOf0
 v0 := Tryz.zeroValue0
 t3 := Tryz.underlying3
 a3 := Tryz.isAgg3
 z3 := Tryz.sizeOf3
 v3 := Tryz.zeroValue3
 t4 := Tryz.underlying4
 a4 := Tryz.isAgg4
 z4 := Tryz.sizeOf4
 v4 := Tryz.zeroValue4
 t22 := Tryz.underlying22
 a22 := Tryz.isAgg22
 z22 := Tryz.sizeOf22
 v22 := Tryz.zeroValue22
 i3 := by kernel_rfl }
open Go.RowKit Go.Lib Go.Sort in
theorem Tryz.slices_Compact_int (blk off cap : Nat) (zs : List Int) (w : World) (hH : Holds (Value.int .i64) w blk off zs.toArray) (hsz : zs.length ≤ 9223372036854775807) (hcap : zs.length ≤ cap) :
 Calls Tryz.prog 116 #[.slice (some ⟨blk, off, none⟩) zs.length cap] w fun e w' => e = .returned (.slice (some ⟨blk, off, none⟩) (Lib.compact zs).length cap) ∧ ∃ q, w' = putRow (Value.int .i64) (Sort.ahead w q) blk off (Lib.compact zs ++ List.replicate (zs.length - (Lib.compact zs).length) 0).toArray := Any.slices_Compact_int Tryz.laysNm220 blk off cap zs w hH hsz hcap
end Go.Proofs
end
