/- The contract of slices.Sort, laid at this seat by the shelf. -/
import Derived.Shelf.Sort.Plain
import Derived.Shelf.Slices.In.SortNone
import Derived.Test.YtpgakkpmpnebnaaProg
namespace Go.Proofs.Ytpgakkpmpnebnaa
open Go.Shelf
def Try.lays189_ren : Go.Shelf.Ren := ⟨fun | 189 => 104 | 125 => 123 | 257 => 125 | 128 => 145 | 129 => 146 | 294 => 147 | 295 => 148 | 296 => 149 | 297 => 150 | 298 => 151 | 299 => 152 | 216 => 153 | 300 => 154 | 301 => 155 | 328 => 172 | 329 => 167 | 330 => 168 | 331 => 173 | 332 => 174 | 215 => 175 | 343 => 182 | n => n, fun | 28 => 23 | 3 => 3 | 46 => 185 | 0 => 0 | 51 => 130 | 53 => 24 | 4 => 4 | 183 => 198 | 182 => 197 | 131 => 203 | 5 => 5 | 9 => 9 | 218 => 219 | 222 => 222 | 228 => 230 | 229 => 231 | n => n, fun | n => n⟩
theorem Try.lays189 : Go.Proofs.Lays.n189 Try.prog Try.lays189_ren := {
  mixed := by kernel_rfl
  f125 := Try.func123.trans (congrArg some (by kernel_rfl))
  f128 := Try.func145.trans (congrArg some (by kernel_rfl))
  f129 := Try.func146.trans (congrArg some (by kernel_rfl))
  f189 := Try.func104.trans (congrArg some (by kernel_rfl))
  f215 := Try.func175.trans (congrArg some (by kernel_rfl))
  f216 := Try.func153.trans (congrArg some (by kernel_rfl))
  f257 := Try.func125.trans (congrArg some (by kernel_rfl))
  f294 := Try.func147.trans (congrArg some (by kernel_rfl))
  f295 := Try.func148.trans (congrArg some (by kernel_rfl))
  f296 := Try.func149.trans (congrArg some (by kernel_rfl))
  f297 := Try.func150.trans (congrArg some (by kernel_rfl))
  f298 := Try.func151.trans (congrArg some (by kernel_rfl))
  f299 := Try.func152.trans (congrArg some (by kernel_rfl))
  f300 := Try.func154.trans (congrArg some (by kernel_rfl))
  f301 := Try.func155.trans (congrArg some (by kernel_rfl))
  f328 := Try.func172.trans (congrArg some (by kernel_rfl))
  f329 := Try.func167.trans (congrArg some (by kernel_rfl))
  f330 := Try.func168.trans (congrArg some (by kernel_rfl))
  f331 := Try.func173.trans (congrArg some (by kernel_rfl))
  f332 := Try.func174.trans (congrArg some (by kernel_rfl))
  f343 := Try.func182.trans (congrArg some (by kernel_rfl))
  t0 := Try.underlying0
  a0 := Try.isAgg0
  z0 := Try.sizeOf0
  v0 := Try.zeroValue0
  t3 := Try.underlying3
  a3 := Try.isAgg3
  z3 := Try.sizeOf3
  v3 := Try.zeroValue3
  t4 := Try.underlying4
  a4 := Try.isAgg4
  z4 := Try.sizeOf4
  v4 := Try.zeroValue4
  t5 := Try.underlying5
  a5 := Try.isAgg5
  z5 := Try.sizeOf5
  v5 := Try.zeroValue5
  t9 := Try.underlying9
  a9 := Try.isAgg9
  z9 := Try.sizeOf9
  v9 := Try.zeroValue9
  t28 := Try.underlying23
  a28 := Try.isAgg23
  z28 := Try.sizeOf23
  v28 := Try.zeroValue23
  t46 := Try.underlying185
  a46 := Try.isAgg185
  z46 := Try.sizeOf185
  v46 := Try.zeroValue185
  t51 := Try.underlying130
  a51 := Try.isAgg130
  z51 := Try.sizeOf130
  v51 := Try.zeroValue130
  t53 := Try.underlying24
  a53 := Try.isAgg24
  z53 := Try.sizeOf24
  v53 := Try.zeroValue24
  t131 := Try.underlying203
  a131 := Try.isAgg203
  z131 := Try.sizeOf203
  v131 := Try.zeroValue203
  t182 := Try.underlying197
  a182 := Try.isAgg197
  z182 := Try.sizeOf197
  v182 := Try.zeroValue197
  t183 := Try.underlying198
  a183 := Try.isAgg198
  z183 := Try.sizeOf198
  v183 := Try.zeroValue198
  t218 := Try.underlying219
  a218 := Try.isAgg219
  z218 := Try.sizeOf219
  v218 := Try.zeroValue219
  t222 := Try.underlying222
  a222 := Try.isAgg222
  z222 := Try.sizeOf222
  v222 := Try.zeroValue222
  t228 := Try.underlying230
  a228 := Try.isAgg230
  z228 := Try.sizeOf230
  v228 := Try.zeroValue230
  t229 := Try.underlying231
  a229 := Try.isAgg231
  z229 := Try.sizeOf231
  v229 := Try.zeroValue231 }
open Go.Sort Go.RowKit in
theorem Try.slices_Sort_int (blk off cap : Nat) (zs : List Int) (w : World) (hH : Holds (Value.int .i64) w blk off zs.toArray) (hblk : blk < w.heap.size) (hsz : zs.length < 4611686018427387904) :
    Calls Try.prog 104 #[.slice (some ⟨blk, off, none⟩) zs.length cap] w fun e w' =>
      e = .returned (.tuple #[]) ∧ ∃ n os, w' = grow (putRow (Value.int .i64) (Sort.ahead w n) blk off (zs.mergeSort fun x y => decide (x ≤ y)).toArray) os := Any.slices_Sort_int Try.lays189 blk off cap zs w hH hblk hsz
def Try.lays190_ren : Go.Shelf.Ren := ⟨fun | 190 => 114 | 125 => 123 | 258 => 128 | 128 => 145 | 129 => 146 | 302 => 156 | 303 => 157 | 304 => 158 | 305 => 159 | 306 => 160 | 307 => 161 | 308 => 162 | 309 => 163 | 310 => 164 | 333 => 176 | 329 => 167 | 330 => 168 | 334 => 177 | 335 => 178 | 336 => 179 | 344 => 183 | n => n, fun | 31 => 74 | 9 => 9 | 3 => 3 | 46 => 185 | 0 => 0 | 51 => 130 | 53 => 24 | 4 => 4 | 183 => 198 | 182 => 197 | 131 => 203 | 5 => 5 | 218 => 219 | 222 => 222 | 228 => 230 | 229 => 231 | n => n, fun | n => n⟩
theorem Try.lays190 : Go.Proofs.Lays.n190 Try.prog Try.lays190_ren := {
  mixed := by kernel_rfl
  f125 := Try.func123.trans (congrArg some (by kernel_rfl))
  f128 := Try.func145.trans (congrArg some (by kernel_rfl))
  f129 := Try.func146.trans (congrArg some (by kernel_rfl))
  f190 := Try.func114.trans (congrArg some (by kernel_rfl))
  f258 := Try.func128.trans (congrArg some (by kernel_rfl))
  f302 := Try.func156.trans (congrArg some (by kernel_rfl))
  f303 := Try.func157.trans (congrArg some (by kernel_rfl))
  f304 := Try.func158.trans (congrArg some (by kernel_rfl))
  f305 := Try.func159.trans (congrArg some (by kernel_rfl))
  f306 := Try.func160.trans (congrArg some (by kernel_rfl))
  f307 := Try.func161.trans (congrArg some (by kernel_rfl))
  f308 := Try.func162.trans (congrArg some (by kernel_rfl))
  f309 := Try.func163.trans (congrArg some (by kernel_rfl))
  f310 := Try.func164.trans (congrArg some (by kernel_rfl))
  f329 := Try.func167.trans (congrArg some (by kernel_rfl))
  f330 := Try.func168.trans (congrArg some (by kernel_rfl))
  f333 := Try.func176.trans (congrArg some (by kernel_rfl))
  f334 := Try.func177.trans (congrArg some (by kernel_rfl))
  f335 := Try.func178.trans (congrArg some (by kernel_rfl))
  f336 := Try.func179.trans (congrArg some (by kernel_rfl))
  f344 := Try.func183.trans (congrArg some (by kernel_rfl))
  t0 := Try.underlying0
  a0 := Try.isAgg0
  z0 := Try.sizeOf0
  v0 := Try.zeroValue0
  t3 := Try.underlying3
  a3 := Try.isAgg3
  z3 := Try.sizeOf3
  v3 := Try.zeroValue3
  t4 := Try.underlying4
  a4 := Try.isAgg4
  z4 := Try.sizeOf4
  v4 := Try.zeroValue4
  t5 := Try.underlying5
  a5 := Try.isAgg5
  z5 := Try.sizeOf5
  v5 := Try.zeroValue5
  t9 := Try.underlying9
  a9 := Try.isAgg9
  z9 := Try.sizeOf9
  v9 := Try.zeroValue9
  t31 := Try.underlying74
  a31 := Try.isAgg74
  z31 := Try.sizeOf74
  v31 := Try.zeroValue74
  t46 := Try.underlying185
  a46 := Try.isAgg185
  z46 := Try.sizeOf185
  v46 := Try.zeroValue185
  t51 := Try.underlying130
  a51 := Try.isAgg130
  z51 := Try.sizeOf130
  v51 := Try.zeroValue130
  t53 := Try.underlying24
  a53 := Try.isAgg24
  z53 := Try.sizeOf24
  v53 := Try.zeroValue24
  t131 := Try.underlying203
  a131 := Try.isAgg203
  z131 := Try.sizeOf203
  v131 := Try.zeroValue203
  t182 := Try.underlying197
  a182 := Try.isAgg197
  z182 := Try.sizeOf197
  v182 := Try.zeroValue197
  t183 := Try.underlying198
  a183 := Try.isAgg198
  z183 := Try.sizeOf198
  v183 := Try.zeroValue198
  t218 := Try.underlying219
  a218 := Try.isAgg219
  z218 := Try.sizeOf219
  v218 := Try.zeroValue219
  t222 := Try.underlying222
  a222 := Try.isAgg222
  z222 := Try.sizeOf222
  v222 := Try.zeroValue222
  t228 := Try.underlying230
  a228 := Try.isAgg230
  z228 := Try.sizeOf230
  v228 := Try.zeroValue230
  t229 := Try.underlying231
  a229 := Try.isAgg231
  z229 := Try.sizeOf231
  v229 := Try.zeroValue231 }
open Go.Sort Go.RowKit in
theorem Try.slices_Sort_string (blk off cap : Nat) (ss : List (List UInt8)) (w : World) (hH : Holds encStr w blk off ss.toArray) (hblk : blk < w.heap.size) (hsz : ss.length < 4611686018427387904) :
    Calls Try.prog 114 #[.slice (some ⟨blk, off, none⟩) ss.length cap] w fun e w' =>
      e = .returned (.tuple #[]) ∧ ∃ n os, w' = grow (putRow encStr (Sort.ahead w n) blk off (ss.mergeSort fun x y => decide (x ≤ y)).toArray) os := Any.slices_Sort_string Try.lays190 blk off cap ss w hH hblk hsz
open Go.RowKit Go.Sort in
/-- .. and plain. (LAID: no walk: one application.) -/
theorem Try.slices_Sort_string_none (p : Option Addr) (cap : Nat) (w : World) :
    Calls Try.prog 114 #[.slice p 0 cap] w fun e w' => e = .returned (.tuple #[]) ∧ w' = w := Any.slices_Sort_string_none Try.lays190 p cap w
open Go.RowKit Go.Sort in
/-- .. and plain. (LAID: no walk: one application.) -/
theorem Try.slices_Sort_int_none (p : Option Addr) (cap : Nat) (w : World) :
    Calls Try.prog 104 #[.slice p 0 cap] w fun e w' => e = .returned (.tuple #[]) ∧ w' = w := Any.slices_Sort_int_none Try.lays189 p cap w
end Go.Proofs.Ytpgakkpmpnebnaa
