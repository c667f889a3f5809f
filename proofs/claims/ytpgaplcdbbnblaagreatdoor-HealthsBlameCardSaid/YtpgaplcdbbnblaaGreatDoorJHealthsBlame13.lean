/-
  DERIVED: THE SHELF's CONTRACTS AT THIS DUMP, IN PLAIN WORDS (tools/lay-plain.mjs out of 'TryzShelf.lean', which tools/lay-shelf.mjs wrote): THE SAME DECLARATIONS UNDER THE SAME NAMES: 'import', 'namespace', 'open', 'def', 'theorem' AND NOTHING ELSE: no command of the shelf's: FOR A HAND-IN. Each laying: the table of numbers ('.._ren') and one theorem, a field a fact of the dump's own or the kernel's comparison; each contract: ONE APPLICATION.
-/
import Derived.Shelf.Small.Wraps
import Derived.Shelf.Sort.Plain
import Derived.Shelf.Bits.Mul64
import Derived.Ground.Names2Prog
import Derived.Shelf.Slices.CompactI
import Derived.Shelf.Slices.Cells
import Derived.Shelf.Slices.In.SortNone
import Derived.Test.YtpgaplcdbbnblaaGreatDoorProg
set_option linter.unusedSimpArgs false
set_option linter.unusedVariables false
section
namespace Go.Proofs
open Go.Shelf
def Tryz.lays189_ren : Go.Shelf.Ren := ⟨fun | 189 => 241 | 125 => 222 | 257 => 267 | 128 => 257 | 129 => 258 | 294 => 279 | 295 => 280 | 296 => 281 | 297 => 282 | 298 => 283 | 299 => 284 | 216 => 193 | 300 => 285 | 301 => 286 | 328 => 291 | 329 => 271 | 330 => 272 | 331 => 292 | 332 => 293 | 215 => 240 | 343 => 295 | n => n, fun | 28 => 22 | 3 => 3 | 46 => 248 | 0 => 0 | 51 => 54 | 53 => 321 | 4 => 4 | 183 => 369 | 182 => 368 | 131 => 183 | 5 => 5 | 9 => 9 | 218 => 394 | 222 => 398 | 228 => 408 | 229 => 360 | n => n, fun | n => n⟩
theorem Tryz.lays189 : Go.Proofs.Lays.n189 Tryz.prog Tryz.lays189_ren := {
 mixed := by kernel_rfl
 f125 := Tryz.func222.trans (congrArg some (by kernel_rfl))
 f128 := Tryz.func257.trans (congrArg some (by kernel_rfl))
 f129 := Tryz.func258.trans (congrArg some (by kernel_rfl))
 f189 := Tryz.func241.trans (congrArg some (by kernel_rfl))
 f215 := Tryz.func240.trans (congrArg some (by kernel_rfl))
 f216 := Tryz.func193.trans (congrArg some (by kernel_rfl))
 f257 := Tryz.func267.trans (congrArg some (by kernel_rfl))
 f294 := Tryz.func279.trans (congrArg some (by kernel_rfl))
 f295 := Tryz.func280.trans (congrArg some (by kernel_rfl))
 f296 := Tryz.func281.trans (congrArg some (by kernel_rfl))
 f297 := Tryz.func282.trans (congrArg some (by kernel_rfl))
 f298 := Tryz.func283.trans (congrArg some (by kernel_rfl))
 f299 := Tryz.func284.trans (congrArg some (by kernel_rfl))
 f300 := Tryz.func285.trans (congrArg some (by kernel_rfl))
 f301 := Tryz.func286.trans (congrArg some (by kernel_rfl))
 f328 := Tryz.func291.trans (congrArg some (by kernel_rfl))
 f329 := Tryz.func271.trans (congrArg some (by kernel_rfl))
 f330 := Tryz.func272.trans (congrArg some (by kernel_rfl))
 f331 := Tryz.func292.trans (congrArg some (by kernel_rfl))
 f332 := Tryz.func293.trans (congrArg some (by kernel_rfl))
 f343 := Tryz.func295.trans (congrArg some (by kernel_rfl))
 t0 := Tryz.underlying0
 a0 := Tryz.isAgg0
 z0 := Tryz.sizeOf0
 v0 := Tryz.zeroValue0
 t3 := Tryz.underlying3
 a3 := Tryz.isAgg3
 z3 := Tryz.sizeOf3
 v3 := Tryz.zeroValue3
 t4 := Tryz.underlying4
 a4 := Tryz.isAgg4
 z4 := Tryz.sizeOf4
 v4 := Tryz.zeroValue4
 t5 := Tryz.underlying5
 a5 := Tryz.isAgg5
 z5 := Tryz.sizeOf5
 v5 := Tryz.zeroValue5
 t9 := Tryz.underlying9
 a9 := Tryz.isAgg9
 z9 := Tryz.sizeOf9
 v9 := Tryz.zeroValue9
 t28 := Tryz.underlying22
 a28 := Tryz.isAgg22
 z28 := Tryz.sizeOf22
 v28 := Tryz.zeroValue22
 t46 := Tryz.underlying248
 a46 := Tryz.isAgg248
 z46 := Tryz.sizeOf248
 v46 := Tryz.zeroValue248
 t51 := Tryz.underlying54
 a51 := Tryz.isAgg54
 z51 := Tryz.sizeOf54
 v51 := Tryz.zeroValue54
 t53 := Tryz.underlying321
 a53 := Tryz.isAgg321
 z53 := Tryz.sizeOf321
 v53 := Tryz.zeroValue321
 t131 := Tryz.underlying183
 a131 := Tryz.isAgg183
 z131 := Tryz.sizeOf183
 v131 := Tryz.zeroValue183
 t182 := Tryz.underlying368
 a182 := Tryz.isAgg368
 z182 := Tryz.sizeOf368
 v182 := Tryz.zeroValue368
 t183 := Tryz.underlying369
 a183 := Tryz.isAgg369
 z183 := Tryz.sizeOf369
 v183 := Tryz.zeroValue369
 t218 := Tryz.underlying394
 a218 := Tryz.isAgg394
 z218 := Tryz.sizeOf394
 v218 := Tryz.zeroValue394
 t222 := Tryz.underlying398
 a222 := Tryz.isAgg398
 z222 := Tryz.sizeOf398
 v222 := Tryz.zeroValue398
 t228 := Tryz.underlying408
 a228 := Tryz.isAgg408
 z228 := Tryz.sizeOf408
 v228 := Tryz.zeroValue408
 t229 := Tryz.underlying360
 a229 := Tryz.isAgg360
 z229 := Tryz.sizeOf360
 v229 := Tryz.zeroValue360 }
open Go.Sort Go.RowKit in
theorem Tryz.slices_Sort_int (blk off cap : Nat) (zs : List Int) (w : World) (hH : Holds (Value.int .i64) w blk off zs.toArray) (hblk : blk < w.heap.size) (hsz : zs.length < 4611686018427387904) :
 Calls Tryz.prog 241 #[.slice (some ⟨blk, off, none⟩) zs.length cap] w fun e w' =>
  e = .returned (.tuple #[]) ∧ ∃ n os, w' = grow (putRow (Value.int .i64) (Sort.ahead w n) blk off (zs.mergeSort fun x y => decide (x ≤ y)).toArray) os := Any.slices_Sort_int Tryz.lays189 blk off cap zs w hH hblk hsz
def Tryz.lays212_ren : Go.Shelf.Ren := ⟨fun | 212 => 141 | 263 => 200 | 264 => 201 | n => n, fun | 46 => 248 | 51 => 54 | 146 => 319 | 53 => 321 | 148 => 322 | n => n, fun | n => n⟩
theorem Tryz.lays212 : Go.Proofs.Lays.n212 Tryz.prog Tryz.lays212_ren := {
 mixed := by kernel_rfl
 f212 := Tryz.func141.trans (congrArg some (by kernel_rfl))
 f263 := Tryz.func200.trans (congrArg some (by kernel_rfl))
 f264 := Tryz.func201.trans (congrArg some (by kernel_rfl))
 t46 := Tryz.underlying248
 a46 := Tryz.isAgg248
 z46 := Tryz.sizeOf248
 v46 := Tryz.zeroValue248
 t51 := Tryz.underlying54
 a51 := Tryz.isAgg54
 z51 := Tryz.sizeOf54
 v51 := Tryz.zeroValue54
 t53 := Tryz.underlying321
 a53 := Tryz.isAgg321
 z53 := Tryz.sizeOf321
 v53 := Tryz.zeroValue321
 t146 := Tryz.underlying319
 a146 := Tryz.isAgg319
 z146 := Tryz.sizeOf319
 v146 := Tryz.zeroValue319
 t148 := Tryz.underlying322
 a148 := Tryz.isAgg322
 z148 := Tryz.sizeOf322
 v148 := Tryz.zeroValue322 }
open Go.RowKit Go.Lib in
theorem Tryz.bits_Mul (x y : Nat) (hx : x < 18446744073709551616) (hy : y < 18446744073709551616) (w : World) :
 Calls Tryz.prog 141 #[.int .u64 x, .int .u64 y] w fun e w' => e = .returned (.tuple #[.int .u64 ((x * y / 18446744073709551616 : Nat) : Int), .int .u64 ((x * y % 18446744073709551616 : Nat) : Int)]) ∧ w' = w := Any.bits_Mul Tryz.lays212 x y hx hy w
def Tryz.laysNm220_ren : Go.Shelf.Ren := ⟨fun | 20 => 196 | n => n, fun | 22 => 22 | 3 => 3 | 4 => 4 | 0 => 0 | n => n, fun | n => n⟩
theorem Tryz.laysNm220 : Go.Proofs.Lays2.n20 Tryz.prog Tryz.laysNm220_ren := {
 mixed := by kernel_rfl
 f20 := Tryz.func196.trans (congrArg some (by kernel_rfl))
 t0 := Tryz.underlying0
 a0 := Tryz.isAgg0
 z0 := Tryz.sizeOf0
 v0 := Tryz.zeroValue0
 t3 := Tryz.underlying3
 a3 := Tryz.isAgg3
 z3 := Tryz.sizeOf3
 v3 := Tryz.zeroValue3
 t4 := Tryz.underlying4
 a4 := Tryz.isAgg4
 z4 := Tryz.sizeOf4
 v4 := Tryz.zeroValue4
 t22 := Tryz.underlying22
 a22 := Tryz.isAgg22
 z22 := Tryz.sizeOf22
 v22 := Tryz.zeroValue22
 i3 := by kernel_rfl }
open Go.RowKit Go.Lib Go.Sort in
theorem Tryz.slices_Compact_int (blk off cap : Nat) (zs : List Int) (w : World) (hH : Holds (Value.int .i64) w blk off zs.toArray) (hsz : zs.length ≤ 9223372036854775807) (hcap : zs.length ≤ cap) :
 Calls Tryz.prog 196 #[.slice (some ⟨blk, off, none⟩) zs.length cap] w fun e w' => e = .returned (.slice (some ⟨blk, off, none⟩) (Lib.compact zs).length cap) ∧ ∃ q, w' = putRow (Value.int .i64) (Sort.ahead w q) blk off (Lib.compact zs ++ List.replicate (zs.length - (Lib.compact zs).length) 0).toArray := Any.slices_Compact_int Tryz.laysNm220 blk off cap zs w hH hsz hcap
end Go.Proofs
end
