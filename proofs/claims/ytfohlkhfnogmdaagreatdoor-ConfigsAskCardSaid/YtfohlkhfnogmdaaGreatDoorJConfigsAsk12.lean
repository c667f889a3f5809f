/-
  DERIVED: THE SHELF's CONTRACTS AT THIS DUMP, IN PLAIN WORDS (tools/lay-plain.mjs out of 'TryzShelf.lean', which tools/lay-shelf.mjs wrote): THE SAME DECLARATIONS UNDER THE SAME NAMES: 'import', 'namespace', 'open', 'def', 'theorem' AND NOTHING ELSE: no command of the shelf's: FOR A HAND-IN. Each laying: the table of numbers ('.._ren') and one theorem, a field a fact of the dump's own or the kernel's comparison; each contract: ONE APPLICATION.
-/
import Derived.Shelf.Small.Bits
import Derived.Shelf.Small.Wraps
import Derived.Shelf.Strconv.Itoa0
import Derived.Shelf.Sort.Plain
import Derived.Shelf.Bits.Mul64
import Derived.Ground.Names2Prog
import Derived.Shelf.Slices.Clone
import Derived.Shelf.Slices.CompactI
import Derived.Shelf.Slices.SearchI
import Derived.Shelf.Slices.Cells
import Derived.Shelf.Slices.In.SortNone
import Derived.Ground.SlgnProg
import Derived.Shelf.SlicesE.Clone
import Derived.Test.YtfohlkhfnogmdaaGreatDoorProg
set_option linter.unusedSimpArgs false
set_option linter.unusedVariables false
section
namespace Go.Proofs
open Go.Shelf
def Tryz.lays189_ren : Go.Shelf.Ren := ⟨fun | 189 => 166 | 125 => 172 | 257 => 177 | 128 => 188 | 129 => 189 | 294 => 191 | 295 => 192 | 296 => 193 | 297 => 194 | 298 => 195 | 299 => 196 | 216 => 145 | 300 => 197 | 301 => 198 | 328 => 204 | 329 => 200 | 330 => 201 | 331 => 205 | 332 => 206 | 215 => 164 | 343 => 208 | n => n, fun | 28 => 22 | 3 => 3 | 46 => 162 | 0 => 0 | 51 => 49 | 53 => 178 | 4 => 4 | 183 => 249 | 182 => 248 | 131 => 253 | 5 => 5 | 9 => 9 | 218 => 263 | 222 => 267 | 228 => 271 | 229 => 234 | n => n, fun | n => n⟩
theorem Tryz.lays189 : Go.Proofs.Lays.n189 Tryz.prog Tryz.lays189_ren := {
 mixed := by kernel_rfl
 f125 := Tryz.func172.trans (congrArg some (by kernel_rfl))
 f128 := Tryz.func188.trans (congrArg some (by kernel_rfl))
 f129 := Tryz.func189.trans (congrArg some (by kernel_rfl))
 f189 := Tryz.func166.trans (congrArg some (by kernel_rfl))
 f215 := Tryz.func164.trans (congrArg some (by kernel_rfl))
 f216 := Tryz.func145.trans (congrArg some (by kernel_rfl))
 f257 := Tryz.func177.trans (congrArg some (by kernel_rfl))
 f294 := Tryz.func191.trans (congrArg some (by kernel_rfl))
 f295 := Tryz.func192.trans (congrArg some (by kernel_rfl))
 f296 := Tryz.func193.trans (congrArg some (by kernel_rfl))
 f297 := Tryz.func194.trans (congrArg some (by kernel_rfl))
 f298 := Tryz.func195.trans (congrArg some (by kernel_rfl))
 f299 := Tryz.func196.trans (congrArg some (by kernel_rfl))
 f300 := Tryz.func197.trans (congrArg some (by kernel_rfl))
 f301 := Tryz.func198.trans (congrArg some (by kernel_rfl))
 f328 := Tryz.func204.trans (congrArg some (by kernel_rfl))
 f329 := Tryz.func200.trans (congrArg some (by kernel_rfl))
 f330 := Tryz.func201.trans (congrArg some (by kernel_rfl))
 f331 := Tryz.func205.trans (congrArg some (by kernel_rfl))
 f332 := Tryz.func206.trans (congrArg some (by kernel_rfl))
 f343 := Tryz.func208.trans (congrArg some (by kernel_rfl))
 t0 := Tryz.underlying0
 a0 := Tryz.isAgg0
 z0 := Tryz.sizeOf0
 v0 := Tryz.zeroValue0
 t3 := Tryz.underlying3
 a3 := Tryz.isAgg3
 z3 := Tryz.sizeOf3
 v3 := Tryz.zeroValue3
 t4 := Tryz.underlying4
 a4 := Tryz.isAgg4
 z4 := Tryz.sizeOf4
 v4 := Tryz.zeroValue4
 t5 := Tryz.underlying5
 a5 := Tryz.isAgg5
 z5 := Tryz.sizeOf5
 v5 := Tryz.zeroValue5
 t9 := Tryz.underlying9
 a9 := Tryz.isAgg9
 z9 := Tryz.sizeOf9
 v9 := Tryz.zeroValue9
 t28 := Tryz.underlying22
 a28 := Tryz.isAgg22
 z28 := Tryz.sizeOf22
 v28 := Tryz.zeroValue22
 t46 := Tryz.underlying162
 a46 := Tryz.isAgg162
 z46 := Tryz.sizeOf162
 v46 := Tryz.zeroValue162
 t51 := Tryz.underlying49
 a51 := Tryz.isAgg49
 z51 := Tryz.sizeOf49
 v51 := Tryz.zeroValue49
 t53 := Tryz.underlying178
 a53 := Tryz.isAgg178
 z53 := Tryz.sizeOf178
 v53 := Tryz.zeroValue178
 t131 := Tryz.underlying253
 a131 := Tryz.isAgg253
 z131 := Tryz.sizeOf253
 v131 := Tryz.zeroValue253
 t182 := Tryz.underlying248
 a182 := Tryz.isAgg248
 z182 := Tryz.sizeOf248
 v182 := Tryz.zeroValue248
 t183 := Tryz.underlying249
 a183 := Tryz.isAgg249
 z183 := Tryz.sizeOf249
 v183 := Tryz.zeroValue249
 t218 := Tryz.underlying263
 a218 := Tryz.isAgg263
 z218 := Tryz.sizeOf263
 v218 := Tryz.zeroValue263
 t222 := Tryz.underlying267
 a222 := Tryz.isAgg267
 z222 := Tryz.sizeOf267
 v222 := Tryz.zeroValue267
 t228 := Tryz.underlying271
 a228 := Tryz.isAgg271
 z228 := Tryz.sizeOf271
 v228 := Tryz.zeroValue271
 t229 := Tryz.underlying234
 a229 := Tryz.isAgg234
 z229 := Tryz.sizeOf234
 v229 := Tryz.zeroValue234 }
open Go.Sort Go.RowKit in
theorem Tryz.slices_Sort_int (blk off cap : Nat) (zs : List Int) (w : World) (hH : Holds (Value.int .i64) w blk off zs.toArray) (hblk : blk < w.heap.size) (hsz : zs.length < 4611686018427387904) :
 Calls Tryz.prog 166 #[.slice (some ⟨blk, off, none⟩) zs.length cap] w fun e w' =>
  e = .returned (.tuple #[]) ∧ ∃ n os, w' = grow (putRow (Value.int .i64) (Sort.ahead w n) blk off (zs.mergeSort fun x y => decide (x ≤ y)).toArray) os := Any.slices_Sort_int Tryz.lays189 blk off cap zs w hH hblk hsz
def Tryz.lays212_ren : Go.Shelf.Ren := ⟨fun | 212 => 102 | 263 => 152 | 264 => 153 | n => n, fun | 46 => 162 | 51 => 49 | 146 => 211 | 53 => 178 | 148 => 213 | n => n, fun | n => n⟩
theorem Tryz.lays212 : Go.Proofs.Lays.n212 Tryz.prog Tryz.lays212_ren := {
 mixed := by kernel_rfl
 f212 := Tryz.func102.trans (congrArg some (by kernel_rfl))
 f263 := Tryz.func152.trans (congrArg some (by kernel_rfl))
 f264 := Tryz.func153.trans (congrArg some (by kernel_rfl))
 t46 := Tryz.underlying162
 a46 := Tryz.isAgg162
 z46 := Tryz.sizeOf162
 v46 := Tryz.zeroValue162
 t51 := Tryz.underlying49
 a51 := Tryz.isAgg49
 z51 := Tryz.sizeOf49
 v51 := Tryz.zeroValue49
 t53 := Tryz.underlying178
 a53 := Tryz.isAgg178
 z53 := Tryz.sizeOf178
 v53 := Tryz.zeroValue178
 t146 := Tryz.underlying211
 a146 := Tryz.isAgg211
 z146 := Tryz.sizeOf211
 v146 := Tryz.zeroValue211
 t148 := Tryz.underlying213
 a148 := Tryz.isAgg213
 z148 := Tryz.sizeOf213
 v148 := Tryz.zeroValue213 }
open Go.RowKit Go.Lib in
theorem Tryz.bits_Mul (x y : Nat) (hx : x < 18446744073709551616) (hy : y < 18446744073709551616) (w : World) :
 Calls Tryz.prog 102 #[.int .u64 x, .int .u64 y] w fun e w' => e = .returned (.tuple #[.int .u64 ((x * y / 18446744073709551616 : Nat) : Int), .int .u64 ((x * y % 18446744073709551616 : Nat) : Int)]) ∧ w' = w := Any.bits_Mul Tryz.lays212 x y hx hy w
def Tryz.laysNm220_ren : Go.Shelf.Ren := ⟨fun | 20 => 148 | n => n, fun | 22 => 22 | 3 => 3 | 4 => 4 | 0 => 0 | n => n, fun | n => n⟩
theorem Tryz.laysNm220 : Go.Proofs.Lays2.n20 Tryz.prog Tryz.laysNm220_ren := {
 mixed := by kernel_rfl
 f20 := Tryz.func148.trans (congrArg some (by kernel_rfl))
 t0 := Tryz.underlying0
 a0 := Tryz.isAgg0
 z0 := Tryz.sizeOf0
 v0 := Tryz.zeroValue0
 t3 := Tryz.underlying3
 a3 := Tryz.isAgg3
 z3 := Tryz.sizeOf3
 v3 := Tryz.zeroValue3
 t4 := Tryz.underlying4
 a4 := Tryz.isAgg4
 z4 := Tryz.sizeOf4
 v4 := Tryz.zeroValue4
 t22 := Tryz.underlying22
 a22 := Tryz.isAgg22
 z22 := Tryz.sizeOf22
 v22 := Tryz.zeroValue22
 i3 := by kernel_rfl }
open Go.RowKit Go.Lib Go.Sort in
theorem Tryz.slices_Compact_int (blk off cap : Nat) (zs : List Int) (w : World) (hH : Holds (Value.int .i64) w blk off zs.toArray) (hsz : zs.length ≤ 9223372036854775807) (hcap : zs.length ≤ cap) :
 Calls Tryz.prog 148 #[.slice (some ⟨blk, off, none⟩) zs.length cap] w fun e w' => e = .returned (.slice (some ⟨blk, off, none⟩) (Lib.compact zs).length cap) ∧ ∃ q, w' = putRow (Value.int .i64) (Sort.ahead w q) blk off (Lib.compact zs ++ List.replicate (zs.length - (Lib.compact zs).length) 0).toArray := Any.slices_Compact_int Tryz.laysNm220 blk off cap zs w hH hsz hcap
end Go.Proofs
end
