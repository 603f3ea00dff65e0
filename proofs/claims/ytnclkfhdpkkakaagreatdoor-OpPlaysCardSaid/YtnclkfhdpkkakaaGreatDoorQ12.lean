/-
  The library's contracts that this seat leans on, laid at its translation: plain declarations, printed by the kit's lay-plain tool. No condition.
-/
import Derived.Shelf.Strings.Builder1
import Derived.Shelf.Strings.Builder2
import Derived.Shelf.Strings.OnBuilder
import Derived.Shelf.Small.Wraps
import Derived.Shelf.Strings.BuilderF
import Derived.Shelf.Strings.BuilderK
import Derived.Shelf.Utf8.RuneCount
import Derived.Shelf.Strings.Builder2Cap
import Derived.Shelf.Strconv.Itoa0
import Derived.Shelf.Strconv.Itoa1
import Derived.Shelf.LaysM
import Derived.Shelf.Strconv.Itoa2
import Derived.Shelf.Strings.Search1
import Derived.Shelf.Strings.Search2
import Derived.Shelf.Strings.Search3
import Derived.Shelf.Strings.Count
import Derived.Shelf.Strings.Shaped
import Derived.Shelf.Sort.Plain
import Derived.Shelf.Strings.Prefix
import Derived.Shelf.Strings.Split
import Derived.Shelf.Bits.Mul64
import Derived.Shelf.Strings.Repeat
import Derived.Shelf.Unicode.DecodeSlow
import Derived.Shelf.Strings.BuilderCap
import Derived.Shelf.Slices.Equal
import Derived.Shelf.Slices.In.SortNone
import Derived.Shelf.Slices.Empties2
import Derived.Ground.SlgnProg
import Derived.Shelf.SlicesE.Equal
import Derived.Test.YtnclkfhdpkkakaaGreatDoorProg
namespace Go.Proofs
open Go.Shelf
def Tryz.lays190_ren : Go.Shelf.Ren := ⟨fun | 190 => 49 | 125 => 74 | 258 => 73 | 128 => 105 | 129 => 106 | 302 => 96 | 303 => 97 | 304 => 98 | 305 => 99 | 306 => 100 | 307 => 101 | 308 => 102 | 309 => 103 | 310 => 104 | 333 => 123 | 329 => 124 | 330 => 125 | 334 => 126 | 335 => 127 | 336 => 128 | 344 => 140 | n => n, fun | 31 => 40 | 9 => 9 | 3 => 3 | 46 => 129 | 0 => 0 | 51 => 27 | 53 => 37 | 4 => 4 | 183 => 139 | 182 => 138 | 131 => 143 | 5 => 5 | 218 => 167 | 222 => 170 | 228 => 180 | 229 => 147 | n => n, fun | n => n⟩
theorem Tryz.lays190 : Go.Proofs.Lays.n190 Tryz.prog Tryz.lays190_ren := {
 mixed := by kernel_rfl
 f125 := Tryz.func74.trans (congrArg some (by kernel_rfl))
 f128 := Tryz.func105.trans (congrArg some (by kernel_rfl))
 f129 := Tryz.func106.trans (congrArg some (by kernel_rfl))
 f190 := Tryz.func49.trans (congrArg some (by kernel_rfl))
 f258 := Tryz.func73.trans (congrArg some (by kernel_rfl))
 f302 := Tryz.func96.trans (congrArg some (by kernel_rfl))
 f303 := Tryz.func97.trans (congrArg some (by kernel_rfl))
 f304 := Tryz.func98.trans (congrArg some (by kernel_rfl))
 f305 := Tryz.func99.trans (congrArg some (by kernel_rfl))
 f306 := Tryz.func100.trans (congrArg some (by kernel_rfl))
 f307 := Tryz.func101.trans (congrArg some (by kernel_rfl))
 f308 := Tryz.func102.trans (congrArg some (by kernel_rfl))
 f309 := Tryz.func103.trans (congrArg some (by kernel_rfl))
 f310 := Tryz.func104.trans (congrArg some (by kernel_rfl))
 f329 := Tryz.func124.trans (congrArg some (by kernel_rfl))
 f330 := Tryz.func125.trans (congrArg some (by kernel_rfl))
 f333 := Tryz.func123.trans (congrArg some (by kernel_rfl))
 f334 := Tryz.func126.trans (congrArg some (by kernel_rfl))
 f335 := Tryz.func127.trans (congrArg some (by kernel_rfl))
 f336 := Tryz.func128.trans (congrArg some (by kernel_rfl))
 f344 := Tryz.func140.trans (congrArg some (by kernel_rfl))
 t0 := Tryz.underlying0
 a0 := Tryz.isAgg0
 z0 := Tryz.sizeOf0
 v0 := Tryz.zeroValue0
 t3 := Tryz.underlying3
 a3 := Tryz.isAgg3
 z3 := Tryz.sizeOf3
 v3 := Tryz.zeroValue3
 t4 := Tryz.underlying4
 a4 := Tryz.isAgg4
 z4 := Tryz.sizeOf4
 v4 := Tryz.zeroValue4
 t5 := Tryz.underlying5
 a5 := Tryz.isAgg5
 z5 := Tryz.sizeOf5
 v5 := Tryz.zeroValue5
 t9 := Tryz.underlying9
 a9 := Tryz.isAgg9
 z9 := Tryz.sizeOf9
 v9 := Tryz.zeroValue9
 t31 := Tryz.underlying40
 a31 := Tryz.isAgg40
 z31 := Tryz.sizeOf40
 v31 := Tryz.zeroValue40
 t46 := Tryz.underlying129
 a46 := Tryz.isAgg129
 z46 := Tryz.sizeOf129
 v46 := Tryz.zeroValue129
 t51 := Tryz.underlying27
 a51 := Tryz.isAgg27
 z51 := Tryz.sizeOf27
 v51 := Tryz.zeroValue27
 t53 := Tryz.underlying37
 a53 := Tryz.isAgg37
 z53 := Tryz.sizeOf37
 v53 := Tryz.zeroValue37
 t131 := Tryz.underlying143
 a131 := Tryz.isAgg143
 z131 := Tryz.sizeOf143
 v131 := Tryz.zeroValue143
 t182 := Tryz.underlying138
 a182 := Tryz.isAgg138
 z182 := Tryz.sizeOf138
 v182 := Tryz.zeroValue138
 t183 := Tryz.underlying139
 a183 := Tryz.isAgg139
 z183 := Tryz.sizeOf139
 v183 := Tryz.zeroValue139
 t218 := Tryz.underlying167
 a218 := Tryz.isAgg167
 z218 := Tryz.sizeOf167
 v218 := Tryz.zeroValue167
 t222 := Tryz.underlying170
 a222 := Tryz.isAgg170
 z222 := Tryz.sizeOf170
 v222 := Tryz.zeroValue170
 t228 := Tryz.underlying180
 a228 := Tryz.isAgg180
 z228 := Tryz.sizeOf180
 v228 := Tryz.zeroValue180
 t229 := Tryz.underlying147
 a229 := Tryz.isAgg147
 z229 := Tryz.sizeOf147
 v229 := Tryz.zeroValue147 }
open Go.Sort Go.RowKit in
theorem Tryz.slices_Sort_string (blk off cap : Nat) (ss : List (List UInt8)) (w : World) (hH : Holds encStr w blk off ss.toArray) (hblk : blk < w.heap.size) (hsz : ss.length < 4611686018427387904) :
  Calls Tryz.prog 49 #[.slice (some ⟨blk, off, none⟩) ss.length cap] w fun e w' =>
   e = .returned (.tuple #[]) ∧ ∃ n os, w' = grow (putRow encStr (Sort.ahead w n) blk off (ss.mergeSort fun x y => decide (x ≤ y)).toArray) os := Any.slices_Sort_string Tryz.lays190 blk off cap ss w hH hblk hsz
open Go.RowKit Go.Sort in
theorem Tryz.slices_Sort_string_none (p : Option Addr) (cap : Nat) (w : World) :
  Calls Tryz.prog 49 #[.slice p 0 cap] w fun e w' => e = .returned (.tuple #[]) ∧ w' = w := Any.slices_Sort_string_none Tryz.lays190 p cap w
end Go.Proofs
