/-
 DERIVED: THE SHELF's CONTRACTS AT THIS DUMP, IN PLAIN WORDS (tools/lay-plain.mjs out of 'TryzShelf.lean', which tools/lay-shelf.mjs wrote): THE SAME DECLARATIONS UNDER THE SAME NAMES: 'import', 'namespace', 'open', 'def', 'theorem' AND NOTHING ELSE: no command of the shelf's: FOR A HAND-IN. Each laying: the table of numbers ('.._ren') and one theorem, a field a fact of the dump's own or the kernel's comparison; each contract: ONE APPLICATION.
-/
import Derived.Shelf.Small.Bits
import Derived.Shelf.Small.Wraps
import Derived.Shelf.Strconv.Itoa0
import Derived.Shelf.Sort.Plain
import Derived.Shelf.Strings.Fields
import Derived.Shelf.LaysM
import Derived.Shelf.Strings.SplitShaped
import Derived.Shelf.Unicode.Latin
import Derived.Shelf.Unicode.Is16White
import Derived.Shelf.Unicode.IsSpaceAny
import Derived.Shelf.Unicode.Is16Any
import Derived.Shelf.Unicode.Is32Any
import Derived.Shelf.Unicode.ExclAny
import Derived.Ground.Names2Prog
import Derived.Shelf.Slices.Clone
import Derived.Shelf.Slices.CompactI
import Derived.Shelf.Slices.SearchI
import Derived.Shelf.Slices.Cells
import Derived.Shelf.Slices.In.SortNone
import Derived.Ground.SlgnProg
import Derived.Shelf.SlicesE.Clone
import Derived.Test.YtilggmmkmegefaaGreatDoorProg
namespace Go.Proofs
open Go.Shelf
def Tryz.lays189_ren : Go.Shelf.Ren := ⟨fun | 189 => 90 | 125 => 97 | 257 => 96 | 128 => 112 | 129 => 113 | 294 => 103 | 295 => 104 | 296 => 105 | 297 => 106 | 298 => 107 | 299 => 108 | 216 => 109 | 300 => 110 | 301 => 111 | 328 => 116 | 329 => 117 | 330 => 118 | 331 => 119 | 332 => 120 | 215 => 121 | 343 => 122 | n => n, fun | 28 => 26 | 3 => 3 | 46 => 44 | 0 => 0 | 51 => 42 | 53 => 87 | 4 => 4 | 183 => 163 | 182 => 162 | 131 => 105 | 5 => 5 | 9 => 9 | 218 => 182 | 222 => 186 | 228 => 190 | 229 => 124 | n => n, fun | n => n⟩
theorem Tryz.lays189 : Go.Proofs.Lays.n189 Tryz.prog Tryz.lays189_ren := {
 mixed := by kernel_rfl
 f125 := Tryz.func97.trans (congrArg some (by kernel_rfl))
 f128 := Tryz.func112.trans (congrArg some (by kernel_rfl))
 f129 := Tryz.func113.trans (congrArg some (by kernel_rfl))
 f189 := Tryz.func90.trans (congrArg some (by kernel_rfl))
 f215 := Tryz.func121.trans (congrArg some (by kernel_rfl))
 f216 := Tryz.func109.trans (congrArg some (by kernel_rfl))
 f257 := Tryz.func96.trans (congrArg some (by kernel_rfl))
 f294 := Tryz.func103.trans (congrArg some (by kernel_rfl))
 f295 := Tryz.func104.trans (congrArg some (by kernel_rfl))
 f296 := Tryz.func105.trans (congrArg some (by kernel_rfl))
 f297 := Tryz.func106.trans (congrArg some (by kernel_rfl))
 f298 := Tryz.func107.trans (congrArg some (by kernel_rfl))
 f299 := Tryz.func108.trans (congrArg some (by kernel_rfl))
 f300 := Tryz.func110.trans (congrArg some (by kernel_rfl))
 f301 := Tryz.func111.trans (congrArg some (by kernel_rfl))
 f328 := Tryz.func116.trans (congrArg some (by kernel_rfl))
 f329 := Tryz.func117.trans (congrArg some (by kernel_rfl))
 f330 := Tryz.func118.trans (congrArg some (by kernel_rfl))
 f331 := Tryz.func119.trans (congrArg some (by kernel_rfl))
 f332 := Tryz.func120.trans (congrArg some (by kernel_rfl))
 f343 := Tryz.func122.trans (congrArg some (by kernel_rfl))
 t0 := Tryz.underlying0
 a0 := Tryz.isAgg0
 z0 := Tryz.sizeOf0
 v0 := Tryz.zeroValue0
 t3 := Tryz.underlying3
 a3 := Tryz.isAgg3
 z3 := Tryz.sizeOf3
 v3 := Tryz.zeroValue3
 t4 := Tryz.underlying4
 a4 := Tryz.isAgg4
 z4 := Tryz.sizeOf4
 v4 := Tryz.zeroValue4
 t5 := Tryz.underlying5
 a5 := Tryz.isAgg5
 z5 := Tryz.sizeOf5
 v5 := Tryz.zeroValue5
 t9 := Tryz.underlying9
 a9 := Tryz.isAgg9
 z9 := Tryz.sizeOf9
 v9 := Tryz.zeroValue9
 t28 := Tryz.underlying26
 a28 := Tryz.isAgg26
 z28 := Tryz.sizeOf26
 v28 := Tryz.zeroValue26
 t46 := Tryz.underlying44
 a46 := Tryz.isAgg44
 z46 := Tryz.sizeOf44
 v46 := Tryz.zeroValue44
 t51 := Tryz.underlying42
 a51 := Tryz.isAgg42
 z51 := Tryz.sizeOf42
 v51 := Tryz.zeroValue42
 t53 := Tryz.underlying87
 a53 := Tryz.isAgg87
 z53 := Tryz.sizeOf87
 v53 := Tryz.zeroValue87
 t131 := Tryz.underlying105
 a131 := Tryz.isAgg105
 z131 := Tryz.sizeOf105
 v131 := Tryz.zeroValue105
 t182 := Tryz.underlying162
 a182 := Tryz.isAgg162
 z182 := Tryz.sizeOf162
 v182 := Tryz.zeroValue162
 t183 := Tryz.underlying163
 a183 := Tryz.isAgg163
 z183 := Tryz.sizeOf163
 v183 := Tryz.zeroValue163
 t218 := Tryz.underlying182
 a218 := Tryz.isAgg182
 z218 := Tryz.sizeOf182
 v218 := Tryz.zeroValue182
 t222 := Tryz.underlying186
 a222 := Tryz.isAgg186
 z222 := Tryz.sizeOf186
 v222 := Tryz.zeroValue186
 t228 := Tryz.underlying190
 a228 := Tryz.isAgg190
 z228 := Tryz.sizeOf190
 v228 := Tryz.zeroValue190
 t229 := Tryz.underlying124
 a229 := Tryz.isAgg124
 z229 := Tryz.sizeOf124
 v229 := Tryz.zeroValue124 }
open Go.Sort Go.RowKit in
theorem Tryz.slices_Sort_int (blk off cap : Nat) (zs : List Int) (w : World) (hH : Holds (Value.int .i64) w blk off zs.toArray) (hblk : blk < w.heap.size) (hsz : zs.length < 4611686018427387904) :
  Calls Tryz.prog 90 #[.slice (some ⟨blk, off, none⟩) zs.length cap] w fun e w' =>
   e = .returned (.tuple #[]) ∧ ∃ n os, w' = grow (putRow (Value.int .i64) (Sort.ahead w n) blk off (zs.mergeSort fun x y => decide (x ≤ y)).toArray) os := Any.slices_Sort_int Tryz.lays189 blk off cap zs w hH hblk hsz
def Tryz.laysNm220_ren : Go.Shelf.Ren := ⟨fun | 20 => 91 | n => n, fun | 22 => 26 | 3 => 3 | 4 => 4 | 0 => 0 | n => n, fun | n => n⟩
theorem Tryz.laysNm220 : Go.Proofs.Lays2.n20 Tryz.prog Tryz.laysNm220_ren := {
 mixed := by kernel_rfl
 f20 := Tryz.func91.trans (congrArg some (by kernel_rfl))
 t0 := Tryz.underlying0
 a0 := Tryz.isAgg0
 z0 := Tryz.sizeOf0
 v0 := Tryz.zeroValue0
 t3 := Tryz.underlying3
 a3 := Tryz.isAgg3
 z3 := Tryz.sizeOf3
 v3 := Tryz.zeroValue3
 t4 := Tryz.underlying4
 a4 := Tryz.isAgg4
 z4 := Tryz.sizeOf4
 v4 := Tryz.zeroValue4
 t22 := Tryz.underlying26
 a22 := Tryz.isAgg26
 z22 := Tryz.sizeOf26
 v22 := Tryz.zeroValue26
 i3 := by kernel_rfl }
open Go.RowKit Go.Lib Go.Sort in
theorem Tryz.slices_Compact_int (blk off cap : Nat) (zs : List Int) (w : World) (hH : Holds (Value.int .i64) w blk off zs.toArray) (hsz : zs.length ≤ 9223372036854775807) (hcap : zs.length ≤ cap) :
  Calls Tryz.prog 91 #[.slice (some ⟨blk, off, none⟩) zs.length cap] w fun e w' => e = .returned (.slice (some ⟨blk, off, none⟩) (Lib.compact zs).length cap) ∧ ∃ q, w' = putRow (Value.int .i64) (Sort.ahead w q) blk off (Lib.compact zs ++ List.replicate (zs.length - (Lib.compact zs).length) 0).toArray := Any.slices_Compact_int Tryz.laysNm220 blk off cap zs w hH hsz hcap
open Go.RowKit Go.Lib Go.Sort in
theorem Tryz.slices_Compact_int_empty (a : Option Addr) (cap : Nat) (w : World) :
  Calls Tryz.prog 91 #[.slice a 0 cap] w fun e w' => e = .returned (.slice a 0 cap) ∧ w' = w := Any.slices_Compact_int_empty Tryz.laysNm220 a cap w
open Go.RowKit Go.Sort in
theorem Tryz.slices_Sort_int_none (p : Option Addr) (cap : Nat) (w : World) :
  Calls Tryz.prog 90 #[.slice p 0 cap] w fun e w' => e = .returned (.tuple #[]) ∧ w' = w := Any.slices_Sort_int_none Tryz.lays189 p cap w
end Go.Proofs
