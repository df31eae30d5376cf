/- Contracts of the library's functions at this program, laid by the kit's tool. -/
import Derived.Shelf.Small.Bits
import Derived.Shelf.Strconv.Itoa0
import Derived.Shelf.Sort.Plain
import Derived.Shelf.Bits.Mul64
import Derived.Shelf.Slices.Reverse
import Derived.Ground.Names2Prog
import Derived.Shelf.Slices.Clone
import Derived.Shelf.Slices.SearchI
import Derived.Shelf.Slices.Cells
import Derived.Shelf.Slices.In.SortNone
import Derived.Ground.SlgnProg
import Derived.Shelf.SlicesE.Clone
import Derived.Test.YtmbcnpbgcfiafaaGreatProg
namespace Go.Proofs
open Go.Shelf
def Tryz.lays189_ren : Go.Shelf.Ren := ⟨fun | 189 => 331 | 125 => 240 | 257 => 357 | 128 => 300 | 129 => 301 | 294 => 364 | 295 => 365 | 296 => 366 | 297 => 367 | 298 => 368 | 299 => 369 | 216 => 370 | 300 => 371 | 301 => 372 | 328 => 373 | 329 => 335 | 330 => 336 | 331 => 374 | 332 => 375 | 215 => 283 | 343 => 376 | n => n, fun | 28 => 38 | 3 => 3 | 46 => 276 | 0 => 0 | 51 => 339 | 53 => 95 | 4 => 4 | 183 => 333 | 182 => 332 | 131 => 270 | 5 => 5 | 9 => 9 | 218 => 367 | 222 => 371 | 228 => 388 | 229 => 128 | n => n, fun | n => n⟩
theorem Tryz.lays189 : Go.Proofs.Lays.n189 Tryz.prog Tryz.lays189_ren := {
  mixed := by kernel_rfl
  f125 := Tryz.func240.trans (congrArg some (by kernel_rfl))
  f128 := Tryz.func300.trans (congrArg some (by kernel_rfl))
  f129 := Tryz.func301.trans (congrArg some (by kernel_rfl))
  f189 := Tryz.func331.trans (congrArg some (by kernel_rfl))
  f215 := Tryz.func283.trans (congrArg some (by kernel_rfl))
  f216 := Tryz.func370.trans (congrArg some (by kernel_rfl))
  f257 := Tryz.func357.trans (congrArg some (by kernel_rfl))
  f294 := Tryz.func364.trans (congrArg some (by kernel_rfl))
  f295 := Tryz.func365.trans (congrArg some (by kernel_rfl))
  f296 := Tryz.func366.trans (congrArg some (by kernel_rfl))
  f297 := Tryz.func367.trans (congrArg some (by kernel_rfl))
  f298 := Tryz.func368.trans (congrArg some (by kernel_rfl))
  f299 := Tryz.func369.trans (congrArg some (by kernel_rfl))
  f300 := Tryz.func371.trans (congrArg some (by kernel_rfl))
  f301 := Tryz.func372.trans (congrArg some (by kernel_rfl))
  f328 := Tryz.func373.trans (congrArg some (by kernel_rfl))
  f329 := Tryz.func335.trans (congrArg some (by kernel_rfl))
  f330 := Tryz.func336.trans (congrArg some (by kernel_rfl))
  f331 := Tryz.func374.trans (congrArg some (by kernel_rfl))
  f332 := Tryz.func375.trans (congrArg some (by kernel_rfl))
  f343 := Tryz.func376.trans (congrArg some (by kernel_rfl))
  t0 := Tryz.underlying0
  a0 := Tryz.isAgg0
  z0 := Tryz.sizeOf0
  v0 := Tryz.zeroValue0
  t3 := Tryz.underlying3
  a3 := Tryz.isAgg3
  z3 := Tryz.sizeOf3
  v3 := Tryz.zeroValue3
  t4 := Tryz.underlying4
  a4 := Tryz.isAgg4
  z4 := Tryz.sizeOf4
  v4 := Tryz.zeroValue4
  t5 := Tryz.underlying5
  a5 := Tryz.isAgg5
  z5 := Tryz.sizeOf5
  v5 := Tryz.zeroValue5
  t9 := Tryz.underlying9
  a9 := Tryz.isAgg9
  z9 := Tryz.sizeOf9
  v9 := Tryz.zeroValue9
  t28 := Tryz.underlying38
  a28 := Tryz.isAgg38
  z28 := Tryz.sizeOf38
  v28 := Tryz.zeroValue38
  t46 := Tryz.underlying276
  a46 := Tryz.isAgg276
  z46 := Tryz.sizeOf276
  v46 := Tryz.zeroValue276
  t51 := Tryz.underlying339
  a51 := Tryz.isAgg339
  z51 := Tryz.sizeOf339
  v51 := Tryz.zeroValue339
  t53 := Tryz.underlying95
  a53 := Tryz.isAgg95
  z53 := Tryz.sizeOf95
  v53 := Tryz.zeroValue95
  t131 := Tryz.underlying270
  a131 := Tryz.isAgg270
  z131 := Tryz.sizeOf270
  v131 := Tryz.zeroValue270
  t182 := Tryz.underlying332
  a182 := Tryz.isAgg332
  z182 := Tryz.sizeOf332
  v182 := Tryz.zeroValue332
  t183 := Tryz.underlying333
  a183 := Tryz.isAgg333
  z183 := Tryz.sizeOf333
  v183 := Tryz.zeroValue333
  t218 := Tryz.underlying367
  a218 := Tryz.isAgg367
  z218 := Tryz.sizeOf367
  v218 := Tryz.zeroValue367
  t222 := Tryz.underlying371
  a222 := Tryz.isAgg371
  z222 := Tryz.sizeOf371
  v222 := Tryz.zeroValue371
  t228 := Tryz.underlying388
  a228 := Tryz.isAgg388
  z228 := Tryz.sizeOf388
  v228 := Tryz.zeroValue388
  t229 := Tryz.underlying128
  a229 := Tryz.isAgg128
  z229 := Tryz.sizeOf128
  v229 := Tryz.zeroValue128 }
open Go.Sort Go.RowKit in
theorem Tryz.slices_Sort_int (blk off cap : Nat) (zs : List Int) (w : World) (hH : Holds (Value.int .i64) w blk off zs.toArray) (hblk : blk < w.heap.size) (hsz : zs.length < 4611686018427387904) :
    Calls Tryz.prog 331 #[.slice (some ⟨blk, off, none⟩) zs.length cap] w fun e w' =>
      e = .returned (.tuple #[]) ∧ ∃ n os, w' = grow (putRow (Value.int .i64) (Sort.ahead w n) blk off (zs.mergeSort fun x y => decide (x ≤ y)).toArray) os := Any.slices_Sort_int Tryz.lays189 blk off cap zs w hH hblk hsz
open Go.RowKit Go.Sort in
theorem Tryz.slices_Sort_int_none (p : Option Addr) (cap : Nat) (w : World) :
    Calls Tryz.prog 331 #[.slice p 0 cap] w fun e w' => e = .returned (.tuple #[]) ∧ w' = w := Any.slices_Sort_int_none Tryz.lays189 p cap w
end Go.Proofs
