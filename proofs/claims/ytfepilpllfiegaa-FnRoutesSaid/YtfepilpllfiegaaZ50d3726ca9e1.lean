/- Lemmas and walks that the claim rests on, laid together. Conditions: none. -/
import Derived.Shelf.Small.Bits
import Derived.Shelf.Strconv.Itoa0
import Derived.Shelf.Sort.Plain
import Derived.Shelf.Bits.Mul64
import Derived.Shelf.Slices.Turned
import Derived.Shelf.Slices.Reverse
import Derived.Ground.Names2Prog
import Derived.Shelf.Slices.CompactI
import Derived.Shelf.Slices.In.SortNone
import Derived.Test.YtfepilpllfiegaaProg
import Derived.Test.YtfepilpllfiegaaZc3e33f13110d
import Derived.Lib.SlicesCompact
import Derived.Lib.RowBridge
import Derived.Test.YtfepilpllfiegaaZ19d51b277163
import Derived.Test.YtfepilpllfiegaaZca6a11a8a0df
import Derived.Deep.RegionHeld3
import Derived.Test.YtfepilpllfiegaaZ02c91a162493
import Derived.Test.YtfepilpllfiegaaZ1096401160fd
import Derived.Test.YtfepilpllfiegaaZc731a5b1582e
import Derived.Deep.RegionLaw
import Derived.Sort.Grow
import Derived.Shelf.SlSortCmp.NoneTotal
import Derived.Ground.SlsfProg
import Derived.Test.YtfepilpllfiegaaZba7846269eb2
import Derived.Test.YtfepilpllfiegaaZ17f740c013a7
/-
  DERIVED: THE SHELF's CONTRACTS AT THIS DUMP, IN PLAIN WORDS (tools/lay-plain.mjs out of 'TryShelf.lean', which tools/lay-shelf.mjs wrote): THE SAME DECLARATIONS UNDER THE SAME NAMES: 'import', 'namespace', 'open', 'def', 'theorem' AND NOTHING ELSE: no command of the shelf's: FOR A HAND-IN. Each laying: the table of numbers ('.._ren') and one theorem, a field a fact of the dump's own or the kernel's comparison; each contract: ONE APPLICATION.
-/
namespace Go.Proofs
open Go.Shelf
def Try.lays128_ren : Go.Shelf.Ren := ⟨fun | 128 => 170 | n => n, fun | 51 => 166 | 3 => 3 | 4 => 4 | 46 => 141 | 5 => 5 | 9 => 9 | n => n, fun | n => n⟩
theorem Try.lays128 : Go.Proofs.Lays.n128 Try.prog Try.lays128_ren := {
  mixed := by kernel_rfl
  f128 := Try.func170.trans (congrArg some (by kernel_rfl))
  t3 := Try.underlying3
  a3 := Try.isAgg3
  z3 := Try.sizeOf3
  v3 := Try.zeroValue3
  t4 := Try.underlying4
  a4 := Try.isAgg4
  z4 := Try.sizeOf4
  v4 := Try.zeroValue4
  t5 := Try.underlying5
  a5 := Try.isAgg5
  z5 := Try.sizeOf5
  v5 := Try.zeroValue5
  t9 := Try.underlying9
  a9 := Try.isAgg9
  z9 := Try.sizeOf9
  v9 := Try.zeroValue9
  t46 := Try.underlying141
  a46 := Try.isAgg141
  z46 := Try.sizeOf141
  v46 := Try.zeroValue141
  t51 := Try.underlying166
  a51 := Try.isAgg166
  z51 := Try.sizeOf166
  v51 := Try.zeroValue166 }
/-- bits.Len32: "Len32 returns the minimum number of bits required to represent x; the result is 0 for x == 0.": IT RETURNS 'Lib.bitLen x'; the world is as it was. ('h0', 'h1': x is a uint32.) (LAID: no walk: one application.) -/
theorem Try.bits_Len32 (x : Int) (w : World) (h0 : 0 ≤ x) (h1 : x ≤ 4294967295) :
    Calls Try.prog 170 #[.int .u32 x] w fun e w' => e = .returned (.int .i64 (Lib.bitLen x.toNat)) ∧ w' = w := Any.bits_Len32 Try.lays128 x w h0 h1
def Try.lays125_ren : Go.Shelf.Ren := ⟨fun | 125 => 155 | 128 => 170 | 129 => 171 | n => n, fun | 46 => 141 | 3 => 3 | 51 => 166 | 53 => 79 | 4 => 4 | 5 => 5 | 9 => 9 | n => n, fun | n => n⟩
theorem Try.lays125 : Go.Proofs.Lays.n125 Try.prog Try.lays125_ren := {
  mixed := by kernel_rfl
  f125 := Try.func155.trans (congrArg some (by kernel_rfl))
  f128 := Try.func170.trans (congrArg some (by kernel_rfl))
  f129 := Try.func171.trans (congrArg some (by kernel_rfl))
  t3 := Try.underlying3
  a3 := Try.isAgg3
  z3 := Try.sizeOf3
  v3 := Try.zeroValue3
  t4 := Try.underlying4
  a4 := Try.isAgg4
  z4 := Try.sizeOf4
  v4 := Try.zeroValue4
  t5 := Try.underlying5
  a5 := Try.isAgg5
  z5 := Try.sizeOf5
  v5 := Try.zeroValue5
  t9 := Try.underlying9
  a9 := Try.isAgg9
  z9 := Try.sizeOf9
  v9 := Try.zeroValue9
  t46 := Try.underlying141
  a46 := Try.isAgg141
  z46 := Try.sizeOf141
  v46 := Try.zeroValue141
  t51 := Try.underlying166
  a51 := Try.isAgg166
  z51 := Try.sizeOf166
  v51 := Try.zeroValue166
  t53 := Try.underlying79
  a53 := Try.isAgg79
  z53 := Try.sizeOf79
  v53 := Try.zeroValue79 }
/-- bits.Len: "Len returns the minimum number of bits required to represent x; the result is 0 for x == 0.": IT RETURNS 'Lib.bitLen x'; the world is as it was. (A uint has 64 bits in the model.) ITS CALLEE bits.Len64 IS MET BY ITS OWN CONTRACT OFF THE SHELF (lay that first). (LAID: no walk: one application.) -/
theorem Try.bits_Len (x : Int) (w : World) (h0 : 0 ≤ x) (h1 : x ≤ 18446744073709551615) :
    Calls Try.prog 155 #[.int .u64 x] w fun e w' => e = .returned (.int .i64 (Lib.bitLen x.toNat)) ∧ w' = w := Any.bits_Len Try.lays125 x w h0 h1
def Try.lays129_ren : Go.Shelf.Ren := ⟨fun | 129 => 171 | n => n, fun | 53 => 79 | 3 => 3 | 4 => 4 | 46 => 141 | 5 => 5 | 9 => 9 | n => n, fun | n => n⟩
theorem Try.lays129 : Go.Proofs.Lays.n129 Try.prog Try.lays129_ren := {
  mixed := by kernel_rfl
  f129 := Try.func171.trans (congrArg some (by kernel_rfl))
  t3 := Try.underlying3
  a3 := Try.isAgg3
  z3 := Try.sizeOf3
  v3 := Try.zeroValue3
  t4 := Try.underlying4
  a4 := Try.isAgg4
  z4 := Try.sizeOf4
  v4 := Try.zeroValue4
  t5 := Try.underlying5
  a5 := Try.isAgg5
  z5 := Try.sizeOf5
  v5 := Try.zeroValue5
  t9 := Try.underlying9
  a9 := Try.isAgg9
  z9 := Try.sizeOf9
  v9 := Try.zeroValue9
  t46 := Try.underlying141
  a46 := Try.isAgg141
  z46 := Try.sizeOf141
  v46 := Try.zeroValue141
  t53 := Try.underlying79
  a53 := Try.isAgg79
  z53 := Try.sizeOf79
  v53 := Try.zeroValue79 }
/-- bits.Len64: "Len64 returns the minimum number of bits required to represent x; the result is 0 for x == 0.": IT RETURNS 'Lib.bitLen x'; the world is as it was. ('h0', 'h1': x is a uint64.) (LAID: no walk: one application.) -/
theorem Try.bits_Len64 (x : Int) (w : World) (h0 : 0 ≤ x) (h1 : x ≤ 18446744073709551615) :
    Calls Try.prog 171 #[.int .u64 x] w fun e w' => e = .returned (.int .i64 (Lib.bitLen x.toNat)) ∧ w' = w := Any.bits_Len64 Try.lays129 x w h0 h1
def Try.lays189_ren : Go.Shelf.Ren := ⟨fun | 189 => 144 | 125 => 155 | 257 => 160 | 128 => 170 | 129 => 171 | 294 => 175 | 295 => 176 | 296 => 177 | 297 => 178 | 298 => 179 | 299 => 180 | 216 => 181 | 300 => 182 | 301 => 183 | 328 => 192 | 329 => 186 | 330 => 187 | 331 => 193 | 332 => 194 | 215 => 157 | 343 => 196 | n => n, fun | 28 => 33 | 3 => 3 | 46 => 141 | 0 => 0 | 51 => 166 | 53 => 79 | 4 => 4 | 183 => 160 | 182 => 159 | 131 => 41 | 5 => 5 | 9 => 9 | 218 => 178 | 222 => 182 | 228 => 186 | 229 => 100 | n => n, fun | n => n⟩
theorem Try.lays189 : Go.Proofs.Lays.n189 Try.prog Try.lays189_ren := {
  mixed := by kernel_rfl
  f125 := Try.func155.trans (congrArg some (by kernel_rfl))
  f128 := Try.func170.trans (congrArg some (by kernel_rfl))
  f129 := Try.func171.trans (congrArg some (by kernel_rfl))
  f189 := Try.func144.trans (congrArg some (by kernel_rfl))
  f215 := Try.func157.trans (congrArg some (by kernel_rfl))
  f216 := Try.func181.trans (congrArg some (by kernel_rfl))
  f257 := Try.func160.trans (congrArg some (by kernel_rfl))
  f294 := Try.func175.trans (congrArg some (by kernel_rfl))
  f295 := Try.func176.trans (congrArg some (by kernel_rfl))
  f296 := Try.func177.trans (congrArg some (by kernel_rfl))
  f297 := Try.func178.trans (congrArg some (by kernel_rfl))
  f298 := Try.func179.trans (congrArg some (by kernel_rfl))
  f299 := Try.func180.trans (congrArg some (by kernel_rfl))
  f300 := Try.func182.trans (congrArg some (by kernel_rfl))
  f301 := Try.func183.trans (congrArg some (by kernel_rfl))
  f328 := Try.func192.trans (congrArg some (by kernel_rfl))
  f329 := Try.func186.trans (congrArg some (by kernel_rfl))
  f330 := Try.func187.trans (congrArg some (by kernel_rfl))
  f331 := Try.func193.trans (congrArg some (by kernel_rfl))
  f332 := Try.func194.trans (congrArg some (by kernel_rfl))
  f343 := Try.func196.trans (congrArg some (by kernel_rfl))
  t0 := Try.underlying0
  a0 := Try.isAgg0
  z0 := Try.sizeOf0
  v0 := Try.zeroValue0
  t3 := Try.underlying3
  a3 := Try.isAgg3
  z3 := Try.sizeOf3
  v3 := Try.zeroValue3
  t4 := Try.underlying4
  a4 := Try.isAgg4
  z4 := Try.sizeOf4
  v4 := Try.zeroValue4
  t5 := Try.underlying5
  a5 := Try.isAgg5
  z5 := Try.sizeOf5
  v5 := Try.zeroValue5
  t9 := Try.underlying9
  a9 := Try.isAgg9
  z9 := Try.sizeOf9
  v9 := Try.zeroValue9
  t28 := Try.underlying33
  a28 := Try.isAgg33
  z28 := Try.sizeOf33
  v28 := Try.zeroValue33
  t46 := Try.underlying141
  a46 := Try.isAgg141
  z46 := Try.sizeOf141
  v46 := Try.zeroValue141
  t51 := Try.underlying166
  a51 := Try.isAgg166
  z51 := Try.sizeOf166
  v51 := Try.zeroValue166
  t53 := Try.underlying79
  a53 := Try.isAgg79
  z53 := Try.sizeOf79
  v53 := Try.zeroValue79
  t131 := Try.underlying41
  a131 := Try.isAgg41
  z131 := Try.sizeOf41
  v131 := Try.zeroValue41
  t182 := Try.underlying159
  a182 := Try.isAgg159
  z182 := Try.sizeOf159
  v182 := Try.zeroValue159
  t183 := Try.underlying160
  a183 := Try.isAgg160
  z183 := Try.sizeOf160
  v183 := Try.zeroValue160
  t218 := Try.underlying178
  a218 := Try.isAgg178
  z218 := Try.sizeOf178
  v218 := Try.zeroValue178
  t222 := Try.underlying182
  a222 := Try.isAgg182
  z222 := Try.sizeOf182
  v222 := Try.zeroValue182
  t228 := Try.underlying186
  a228 := Try.isAgg186
  z228 := Try.sizeOf186
  v228 := Try.zeroValue186
  t229 := Try.underlying100
  a229 := Try.isAgg100
  z229 := Try.sizeOf100
  v229 := Try.zeroValue100 }
open Go.Sort Go.RowKit in
theorem Try.slices_Sort_int (blk off cap : Nat) (zs : List Int) (w : World) (hH : Holds (Value.int .i64) w blk off zs.toArray) (hblk : blk < w.heap.size) (hsz : zs.length < 4611686018427387904) :
    Calls Try.prog 144 #[.slice (some ⟨blk, off, none⟩) zs.length cap] w fun e w' =>
      e = .returned (.tuple #[]) ∧ ∃ n os, w' = grow (putRow (Value.int .i64) (Sort.ahead w n) blk off (zs.mergeSort fun x y => decide (x ≤ y)).toArray) os := Any.slices_Sort_int Try.lays189 blk off cap zs w hH hblk hsz
def Try.lays264_ren : Go.Shelf.Ren := ⟨fun | 264 => 174 | n => n, fun | 53 => 79 | 46 => 141 | n => n, fun | n => n⟩
theorem Try.lays264 : Go.Proofs.Lays.n264 Try.prog Try.lays264_ren := {
  mixed := by kernel_rfl
  f264 := Try.func174.trans (congrArg some (by kernel_rfl))
  t46 := Try.underlying141
  a46 := Try.isAgg141
  z46 := Try.sizeOf141
  v46 := Try.zeroValue141
  t53 := Try.underlying79
  a53 := Try.isAgg79
  z53 := Try.sizeOf79
  v53 := Try.zeroValue79 }
open Go.RowKit Go.Lib in
theorem Try.bits_Mul64 (x y : Nat) (hx : x < 18446744073709551616) (hy : y < 18446744073709551616) (w : World) :
    Calls Try.prog 174 #[.int .u64 x, .int .u64 y] w fun e w' => e = .returned (.tuple #[.int .u64 ((x * y / 18446744073709551616 : Nat) : Int), .int .u64 ((x * y % 18446744073709551616 : Nat) : Int)]) ∧ w' = w := Any.bits_Mul64 Try.lays264 x y hx hy w
def Try.lays212_ren : Go.Shelf.Ren := ⟨fun | 212 => 159 | 263 => 173 | 264 => 174 | n => n, fun | 46 => 141 | 51 => 166 | 146 => 168 | 53 => 79 | 148 => 170 | n => n, fun | n => n⟩
theorem Try.lays212 : Go.Proofs.Lays.n212 Try.prog Try.lays212_ren := {
  mixed := by kernel_rfl
  f212 := Try.func159.trans (congrArg some (by kernel_rfl))
  f263 := Try.func173.trans (congrArg some (by kernel_rfl))
  f264 := Try.func174.trans (congrArg some (by kernel_rfl))
  t46 := Try.underlying141
  a46 := Try.isAgg141
  z46 := Try.sizeOf141
  v46 := Try.zeroValue141
  t51 := Try.underlying166
  a51 := Try.isAgg166
  z51 := Try.sizeOf166
  v51 := Try.zeroValue166
  t53 := Try.underlying79
  a53 := Try.isAgg79
  z53 := Try.sizeOf79
  v53 := Try.zeroValue79
  t146 := Try.underlying168
  a146 := Try.isAgg168
  z146 := Try.sizeOf168
  v146 := Try.zeroValue168
  t148 := Try.underlying170
  a148 := Try.isAgg170
  z148 := Try.sizeOf170
  v148 := Try.zeroValue170 }
open Go.RowKit Go.Lib in
/-- math/bits.Mul: "Mul returns the full-width product of x and y": on a machine of 64 bits: Mul64's. (LAID: no walk: one application.) -/
theorem Try.bits_Mul (x y : Nat) (hx : x < 18446744073709551616) (hy : y < 18446744073709551616) (w : World) :
    Calls Try.prog 159 #[.int .u64 x, .int .u64 y] w fun e w' => e = .returned (.tuple #[.int .u64 ((x * y / 18446744073709551616 : Nat) : Int), .int .u64 ((x * y % 18446744073709551616 : Nat) : Int)]) ∧ w' = w := Any.bits_Mul Try.lays212 x y hx hy w
def Try.lays108_ren : Go.Shelf.Ren := ⟨fun | 108 => 131 | n => n, fun | 28 => 33 | 3 => 3 | 0 => 0 | 4 => 4 | n => n, fun | n => n⟩
theorem Try.lays108 : Go.Proofs.Lays.n108 Try.prog Try.lays108_ren := {
  mixed := by kernel_rfl
  f108 := Try.func131.trans (congrArg some (by kernel_rfl))
  t0 := Try.underlying0
  a0 := Try.isAgg0
  z0 := Try.sizeOf0
  v0 := Try.zeroValue0
  t3 := Try.underlying3
  a3 := Try.isAgg3
  z3 := Try.sizeOf3
  v3 := Try.zeroValue3
  t4 := Try.underlying4
  a4 := Try.isAgg4
  z4 := Try.sizeOf4
  v4 := Try.zeroValue4
  t28 := Try.underlying33
  a28 := Try.isAgg33
  z28 := Try.sizeOf33
  v28 := Try.zeroValue33 }
open Go.Lib in
/-- slices.Index at []int: "Index returns the index of the first occurrence of v in s, or -1 if not present.": IT RETURNS 'Lib.idxOf (the elements) v'; the world is as it was. 'zs': what the cells behind the slice's address hold (its spare capacity too, if you have it); 'zs.take n': its elements. (LAID: no walk: one application.) -/
theorem Try.slices_Index_int (b off n c : Nat) (zs : List Int) (x : Int) (w : World) (hz : n ≤ zs.length) (hbig : n ≤ 9223372036854775807) (hc : ∀ j, j < zs.length → w.cell? ⟨b, off + j, none⟩ = some (.int .i64 (zs.getD j 0))) :
    Calls Try.prog 131 #[.slice (some ⟨b, off, none⟩) n c, .int .i64 x] w fun e w' => e = .returned (.int .i64 (Lib.idxOf (zs.take n) x)) ∧ w' = w := Any.slices_Index_int Try.lays108 b off n c zs x w hz hbig hc
open Go.Lib in
/-- The same at a slice of length 0, a nil one too: no cell is known, none is asked for. (LAID: no walk: one application.) -/
theorem Try.slices_Index_int_empty (a : Option Addr) (c : Nat) (x : Int) (w : World) :
    Calls Try.prog 131 #[.slice a 0 c, .int .i64 x] w fun e w' => e = .returned (.int .i64 (Lib.idxOf [] x)) ∧ w' = w := Any.slices_Index_int_empty Try.lays108 a c x w
def Try.lays107_ren : Go.Shelf.Ren := ⟨fun | 107 => 66 | 108 => 131 | n => n, fun | 28 => 33 | 3 => 3 | 4 => 4 | 0 => 0 | n => n, fun | n => n⟩
theorem Try.lays107 : Go.Proofs.Lays.n107 Try.prog Try.lays107_ren := {
  mixed := by kernel_rfl
  f107 := Try.func66.trans (congrArg some (by kernel_rfl))
  f108 := Try.func131.trans (congrArg some (by kernel_rfl))
  t0 := Try.underlying0
  a0 := Try.isAgg0
  z0 := Try.sizeOf0
  v0 := Try.zeroValue0
  t3 := Try.underlying3
  a3 := Try.isAgg3
  z3 := Try.sizeOf3
  v3 := Try.zeroValue3
  t4 := Try.underlying4
  a4 := Try.isAgg4
  z4 := Try.sizeOf4
  v4 := Try.zeroValue4
  t28 := Try.underlying33
  a28 := Try.isAgg33
  z28 := Try.sizeOf33
  v28 := Try.zeroValue33 }
open Go.Lib in
/-- slices.Contains at []int: "Contains reports whether v is present in s.": IT RETURNS 'elements.contains v'; the world is as it was. ITS CALLEE slices.Index IS MET BY ITS OWN CONTRACT OFF THE SHELF (lay that first): no loop is walked here. (LAID: no walk: one application.) -/
theorem Try.slices_Contains_int (b off n c : Nat) (zs : List Int) (x : Int) (w : World) (hz : n ≤ zs.length) (hbig : n ≤ 9223372036854775807) (hc : ∀ j, j < zs.length → w.cell? ⟨b, off + j, none⟩ = some (.int .i64 (zs.getD j 0))) :
    Calls Try.prog 66 #[.slice (some ⟨b, off, none⟩) n c, .int .i64 x] w fun e w' => e = .returned (.bool ((zs.take n).contains x)) ∧ w' = w := Any.slices_Contains_int Try.lays107 b off n c zs x w hz hbig hc
open Go.Lib in
/-- The same at a slice of length 0, a nil one too. (LAID: no walk: one application.) -/
theorem Try.slices_Contains_int_empty (a : Option Addr) (c : Nat) (x : Int) (w : World) :
    Calls Try.prog 66 #[.slice a 0 c, .int .i64 x] w fun e w' => e = .returned (.bool false) ∧ w' = w := Any.slices_Contains_int_empty Try.lays107 a c x w
def Try.lays109_ren : Go.Shelf.Ren := ⟨fun | 109 => 146 | n => n, fun | 31 => 24 | 9 => 9 | 3 => 3 | 0 => 0 | 4 => 4 | n => n, fun | n => n⟩
theorem Try.lays109 : Go.Proofs.Lays.n109 Try.prog Try.lays109_ren := {
  mixed := by kernel_rfl
  f109 := Try.func146.trans (congrArg some (by kernel_rfl))
  t0 := Try.underlying0
  a0 := Try.isAgg0
  z0 := Try.sizeOf0
  v0 := Try.zeroValue0
  t3 := Try.underlying3
  a3 := Try.isAgg3
  z3 := Try.sizeOf3
  v3 := Try.zeroValue3
  t4 := Try.underlying4
  a4 := Try.isAgg4
  z4 := Try.sizeOf4
  v4 := Try.zeroValue4
  t9 := Try.underlying9
  a9 := Try.isAgg9
  z9 := Try.sizeOf9
  v9 := Try.zeroValue9
  t31 := Try.underlying24
  a31 := Try.isAgg24
  z31 := Try.sizeOf24
  v31 := Try.zeroValue24 }
open Go.Lib in
/-- slices.Index at []string: "Index returns the index of the first occurrence of v in s, or -1 if not present.": IT RETURNS 'Lib.idxOfS (the elements) v'; the world is as it was. 'zs': what the cells behind the slice's address hold (its spare capacity too, if you have it); 'zs.take n': its elements. (LAID: no walk: one application.) -/
theorem Try.slices_Index_string (b off n c : Nat) (zs : List ByteArray) (x : ByteArray) (w : World) (hz : n ≤ zs.length) (hbig : n ≤ 9223372036854775807) (hc : ∀ j, j < zs.length → w.cell? ⟨b, off + j, none⟩ = some (.string (zs.getD j ByteArray.empty))) :
    Calls Try.prog 146 #[.slice (some ⟨b, off, none⟩) n c, .string x] w fun e w' => e = .returned (.int .i64 (Lib.idxOfS (zs.take n) x)) ∧ w' = w := Any.slices_Index_string Try.lays109 b off n c zs x w hz hbig hc
open Go.Lib in
/-- The same at a slice of length 0, a nil one too: no cell is known, none is asked for. (LAID: no walk: one application.) -/
theorem Try.slices_Index_string_empty (a : Option Addr) (c : Nat) (x : ByteArray) (w : World) :
    Calls Try.prog 146 #[.slice a 0 c, .string x] w fun e w' => e = .returned (.int .i64 (Lib.idxOfS [] x)) ∧ w' = w := Any.slices_Index_string_empty Try.lays109 a c x w
def Try.lays110_ren : Go.Shelf.Ren := ⟨fun | 110 => 106 | 109 => 146 | n => n, fun | 31 => 24 | 9 => 9 | 4 => 4 | 3 => 3 | 0 => 0 | n => n, fun | n => n⟩
theorem Try.lays110 : Go.Proofs.Lays.n110 Try.prog Try.lays110_ren := {
  mixed := by kernel_rfl
  f109 := Try.func146.trans (congrArg some (by kernel_rfl))
  f110 := Try.func106.trans (congrArg some (by kernel_rfl))
  t0 := Try.underlying0
  a0 := Try.isAgg0
  z0 := Try.sizeOf0
  v0 := Try.zeroValue0
  t3 := Try.underlying3
  a3 := Try.isAgg3
  z3 := Try.sizeOf3
  v3 := Try.zeroValue3
  t4 := Try.underlying4
  a4 := Try.isAgg4
  z4 := Try.sizeOf4
  v4 := Try.zeroValue4
  t9 := Try.underlying9
  a9 := Try.isAgg9
  z9 := Try.sizeOf9
  v9 := Try.zeroValue9
  t31 := Try.underlying24
  a31 := Try.isAgg24
  z31 := Try.sizeOf24
  v31 := Try.zeroValue24 }
open Go.Lib in
/-- slices.Contains at []string: "Contains reports whether v is present in s.": IT RETURNS 'Lib.containsS (the elements) v', which is true just where v is among them ('Lib.containsS_iff'); the world is as it was. ITS CALLEE slices.Index IS MET BY ITS OWN CONTRACT OFF THE SHELF (lay that first): no loop is walked here. (LAID: no walk: one application.) -/
theorem Try.slices_Contains_string (b off n c : Nat) (zs : List ByteArray) (x : ByteArray) (w : World) (hz : n ≤ zs.length) (hbig : n ≤ 9223372036854775807) (hc : ∀ j, j < zs.length → w.cell? ⟨b, off + j, none⟩ = some (.string (zs.getD j ByteArray.empty))) :
    Calls Try.prog 106 #[.slice (some ⟨b, off, none⟩) n c, .string x] w fun e w' => e = .returned (.bool (Lib.containsS (zs.take n) x)) ∧ w' = w := Any.slices_Contains_string Try.lays110 b off n c zs x w hz hbig hc
open Go.Lib in
/-- The same at a slice of length 0, a nil one too. (LAID: no walk: one application.) -/
theorem Try.slices_Contains_string_empty (a : Option Addr) (c : Nat) (x : ByteArray) (w : World) :
    Calls Try.prog 106 #[.slice a 0 c, .string x] w fun e w' => e = .returned (.bool false) ∧ w' = w := Any.slices_Contains_string_empty Try.lays110 a c x w
def Try.lays113_ren : Go.Shelf.Ren := ⟨fun | 113 => 76 | n => n, fun | 28 => 33 | 3 => 3 | 4 => 4 | 9 => 9 | 20 => 20 | 0 => 0 | n => n, fun | n => n⟩
theorem Try.lays113 : Go.Proofs.Lays.n113 Try.prog Try.lays113_ren := {
  mixed := by kernel_rfl
  f113 := Try.func76.trans (congrArg some (by kernel_rfl))
  t0 := Try.underlying0
  a0 := Try.isAgg0
  z0 := Try.sizeOf0
  v0 := Try.zeroValue0
  t3 := Try.underlying3
  a3 := Try.isAgg3
  z3 := Try.sizeOf3
  v3 := Try.zeroValue3
  t4 := Try.underlying4
  a4 := Try.isAgg4
  z4 := Try.sizeOf4
  v4 := Try.zeroValue4
  t9 := Try.underlying9
  a9 := Try.isAgg9
  z9 := Try.sizeOf9
  v9 := Try.zeroValue9
  t20 := Try.underlying20
  a20 := Try.isAgg20
  z20 := Try.sizeOf20
  v20 := Try.zeroValue20
  t28 := Try.underlying33
  a28 := Try.isAgg33
  z28 := Try.sizeOf33
  v28 := Try.zeroValue33 }
open Go.Lib in
/-- slices.Max at []int: "Max returns the maximal value in x. It panics if x is empty.": OF A SLICE THAT IS NOT EMPTY IT RETURNS 'Lib.maxOf (the elements)'; the world is as it was. (Of an empty one it panics: no contract here.) (LAID: no walk: one application.) -/
theorem Try.slices_Max_int (b off n c : Nat) (zs : List Int) (w : World) (hn : 0 < n) (hz : n ≤ zs.length) (hbig : n ≤ 9223372036854775807) (hc : ∀ j, j < zs.length → w.cell? ⟨b, off + j, none⟩ = some (.int .i64 (zs.getD j 0))) :
    Calls Try.prog 76 #[.slice (some ⟨b, off, none⟩) n c] w fun e w' => e = .returned (.int .i64 (Lib.maxOf (zs.take n))) ∧ w' = w := Any.slices_Max_int Try.lays113 b off n c zs w hn hz hbig hc
def Try.lays112_ren : Go.Shelf.Ren := ⟨fun | 112 => 100 | n => n, fun | 28 => 33 | 3 => 3 | 4 => 4 | 0 => 0 | n => n, fun | n => n⟩
theorem Try.lays112 : Go.Proofs.Lays.n112 Try.prog Try.lays112_ren := {
  mixed := by kernel_rfl
  f112 := Try.func100.trans (congrArg some (by kernel_rfl))
  t0 := Try.underlying0
  a0 := Try.isAgg0
  z0 := Try.sizeOf0
  v0 := Try.zeroValue0
  t3 := Try.underlying3
  a3 := Try.isAgg3
  z3 := Try.sizeOf3
  v3 := Try.zeroValue3
  t4 := Try.underlying4
  a4 := Try.isAgg4
  z4 := Try.sizeOf4
  v4 := Try.zeroValue4
  t28 := Try.underlying33
  a28 := Try.isAgg33
  z28 := Try.sizeOf33
  v28 := Try.zeroValue33 }
open Go.RowKit Go.Lib Go.Sort in
/-- slices.Reverse at []int, over an array: Go's loop from the two ends inward is walked; it makes 'Sort.reverseLoop 0 (len - 1)', which is 'Array.reverse' (Derived/Lib/SlicesMore.lean). (LAID: no walk: one application.) -/
theorem Try.slices_Reverse_int_arr (blk off cap : Nat) (d : Array Int) (w : World) (hH : Holds encI w blk off d) (hsz : d.size ≤ 9223372036854775807) :
    Calls Try.prog 100 #[.slice (some ⟨blk, off, none⟩) d.size cap] w fun e w' => e = .returned (.tuple #[]) ∧ ∃ n, w' = putRow encI (Sort.ahead w n) blk off d.reverse := Any.slices_Reverse_int_arr Try.lays112 blk off cap d w hH hsz
open Go.RowKit Go.Lib Go.Sort in
/-- slices.Reverse at []int: "Reverse reverses the elements of the slice in place.": THE SLICE's CELLS HOLD 'zs.reverse' BEHIND THE CALL; all else is as it was, but for the count of draws (the exchange 's[i], s[j] = s[j], s[i]' draws its order, once a round). IN THE WORDS OF slices.Sort's CONTRACT: 'Holds': the cells hold zs and none is frozen; 'putRow': the world with those cells holding another array. A slice of length 0 that is not nil is among them ('zs = []'); nil: '.._nil'. (LAID: no walk: one application.) -/
theorem Try.slices_Reverse_int (blk off cap : Nat) (zs : List Int) (w : World) (hH : Holds (Value.int .i64) w blk off zs.toArray) (hsz : zs.length ≤ 9223372036854775807) :
    Calls Try.prog 100 #[.slice (some ⟨blk, off, none⟩) zs.length cap] w fun e w' => e = .returned (.tuple #[]) ∧ ∃ n, w' = putRow (Value.int .i64) (Sort.ahead w n) blk off zs.reverse.toArray := Any.slices_Reverse_int Try.lays112 blk off cap zs w hH hsz
open Go.RowKit Go.Lib Go.Sort in
/-- The same at a slice of length 0, a nil one too: nothing is read, nothing written, nothing drawn. (LAID: no walk: one application.) -/
theorem Try.slices_Reverse_int_empty (a : Option Addr) (cap : Nat) (w : World) :
    Calls Try.prog 100 #[.slice a 0 cap] w fun e w' => e = .returned (.tuple #[]) ∧ w' = w := Any.slices_Reverse_int_empty Try.lays112 a cap w
def Try.laysNm220_ren : Go.Shelf.Ren := ⟨fun | 20 => 145 | n => n, fun | 22 => 33 | 3 => 3 | 4 => 4 | 0 => 0 | n => n, fun | n => n⟩
theorem Try.laysNm220 : Go.Proofs.Lays2.n20 Try.prog Try.laysNm220_ren := {
  mixed := by kernel_rfl
  f20 := Try.func145.trans (congrArg some (by kernel_rfl))
  t0 := Try.underlying0
  a0 := Try.isAgg0
  z0 := Try.sizeOf0
  v0 := Try.zeroValue0
  t3 := Try.underlying3
  a3 := Try.isAgg3
  z3 := Try.sizeOf3
  v3 := Try.zeroValue3
  t4 := Try.underlying4
  a4 := Try.isAgg4
  z4 := Try.sizeOf4
  v4 := Try.zeroValue4
  t22 := Try.underlying33
  a22 := Try.isAgg33
  z22 := Try.sizeOf33
  v22 := Try.zeroValue33
  i3 := by kernel_rfl }
open Go.RowKit Go.Lib Go.Sort in
/-- slices.Compact at []int, over an array: the library's two loops are walked. (LAID: no walk: one application.) -/
theorem Try.slices_Compact_int_arr (blk off cap : Nat) (d : Array Int) (w : World) (hH : Holds encI w blk off d) (hsz : d.size ≤ 9223372036854775807) (hcap : d.size ≤ cap) :
    Calls Try.prog 145 #[.slice (some ⟨blk, off, none⟩) d.size cap] w fun e w' => e = .returned (.slice (some ⟨blk, off, none⟩) (compactUpTo d d.size).length cap) ∧ ∃ q, w' = putRow encI (Sort.ahead w q) blk off (compactUpTo d d.size ++ List.replicate (d.size - (compactUpTo d d.size).length) 0).toArray := Any.slices_Compact_int_arr Try.laysNm220 blk off cap d w hH hsz hcap
open Go.RowKit Go.Lib Go.Sort in
/-- slices.Compact at []int: "Compact replaces consecutive runs of equal elements with a single copy. This is like the uniq command found on Unix. Compact modifies the contents of the slice s and returns the modified slice, which may have a smaller length. Compact zeroes the elements between the new length and the original length. The result preserves the nilness of s.": IT RETURNS THE SLICE CUT TO 'Lib.compact zs'; ITS CELLS HOLD 'Lib.compact zs', THEN ZERO VALUES up to the old length; all else is as it was, but for the count of draws. IN THE WORDS OF slices.Sort's CONTRACT ('Holds', 'putRow'): so the everyday 'slices.Sort(xs); xs = slices.Compact(xs)' goes from the one contract to the other. It asks 'zs.length ≤ cap' (every slice's: the reslicing 's[:k]' looks at it). Length 0, nil: '.._empty'. (LAID: no walk: one application.) -/
theorem Try.slices_Compact_int (blk off cap : Nat) (zs : List Int) (w : World) (hH : Holds (Value.int .i64) w blk off zs.toArray) (hsz : zs.length ≤ 9223372036854775807) (hcap : zs.length ≤ cap) :
    Calls Try.prog 145 #[.slice (some ⟨blk, off, none⟩) zs.length cap] w fun e w' => e = .returned (.slice (some ⟨blk, off, none⟩) (Lib.compact zs).length cap) ∧ ∃ q, w' = putRow (Value.int .i64) (Sort.ahead w q) blk off (Lib.compact zs ++ List.replicate (zs.length - (Lib.compact zs).length) 0).toArray := Any.slices_Compact_int Try.laysNm220 blk off cap zs w hH hsz hcap
open Go.RowKit Go.Lib Go.Sort in
/-- The same at a slice of length 0, a nil one too: it comes back as it is. (LAID: no walk: one application.) -/
theorem Try.slices_Compact_int_empty (a : Option Addr) (cap : Nat) (w : World) :
    Calls Try.prog 145 #[.slice a 0 cap] w fun e w' => e = .returned (.slice a 0 cap) ∧ w' = w := Any.slices_Compact_int_empty Try.laysNm220 a cap w
open Go.RowKit Go.Sort in
/-- .. and plain. (LAID: no walk: one application.) -/
theorem Try.slices_Sort_int_none (p : Option Addr) (cap : Nat) (w : World) :
    Calls Try.prog 144 #[.slice p 0 cap] w fun e w' => e = .returned (.tuple #[]) ∧ w' = w := Any.slices_Sort_int_none Try.lays189 p cap w
end Go.Proofs
/- slices.Sort and slices.Compact of numbers, by the library's contracts, in the words of the ledger. Conditions: at most 1048576 numbers. -/
namespace Go.Proofs.Ytfepilpllfiegaa
open Go.RowKit
section
variable {w : World} {g : Nat} {e : TypeId} {cur : Array Value}
theorem blk_put (h : Blk w g e cur) (d : Array Int) : Blk (Go.Sort.putRow (Value.int .i64) w g 0 d) g e (Go.Sort.putCells (Value.int .i64) 0 d cur) := by
  unfold Blk at h ⊢
  simp [Go.Sort.putRow, Go.Sort.mapBlock, Array.getElem?_modify, h, Go.Sort.onCells]
theorem touch_put (w : World) (g : Nat) (d : Array Int) : Touch (fun b => b = g) w (Go.Sort.putRow (Value.int .i64) w g 0 d) :=
  ⟨rfl, rfl, rfl, by simp [Go.Sort.putRow, Go.Sort.mapBlock], fun k _ hn => by simp [Go.Sort.putRow, Go.Sort.mapBlock, Array.getElem?_modify, show ¬ g = k from fun e => hn e.symm]⟩
theorem below_grow (w : World) (os : Array Obj) : Below w.heap.size w (Go.Sort.grow w os) :=
  ⟨rfl, rfl, rfl, by simp [Go.Sort.grow], fun k hk => by simp [Go.Sort.grow, Array.getElem?_append_left hk]⟩
theorem below_ahead (w : World) (n : Nat) : Below w.heap.size w (Go.Sort.ahead w n) := ⟨rfl, rfl, rfl, Nat.le_refl _, fun _ _ => rfl⟩
theorem filled_put {xs : List Int} {cur : Array Value} (hs : xs.length ≤ cur.size) : Filled elInt (Go.Sort.putCells (Value.int .i64) 0 xs.toArray cur) xs xs.length := by
  intro j x hj hx i u hu
  have hu' : [Value.int .i64 x][i]? = some u := hu
  match i, hu' with
  | 0, hu' =>
    simp at hu'; subst hu'
    have e : j * elInt.sz + 0 = j := by show j * 1 + 0 = j; omega
    rw [e]
    have hjc : j < cur.size := by omega
    simp [Go.Sort.putCells, Array.getElem?_mapIdx, Array.getElem?_eq_getElem hjc, hj]
    have := List.getElem?_eq_some_iff.1 hx
    obtain ⟨h1, h2⟩ := this
    simp [h2]
  | i + 1, hu' => simp at hu'
end
section
variable {w0 w : World} {L : List Thing}
theorem Led.holds (h : Led w0 w L) (i : Nat) {base g c n : Nat} {xs : List Int} (hi : L[i]? = some (tOwns elInt base 3 (.slice (some ⟨g, 0, none⟩) n c) xs)) : Go.Sort.Holds (Value.int .i64) w g 0 xs.toArray := by
  intro j hj
  have hj' : j < xs.length := by simpa using hj
  refine ⟨?_, by rw [Nat.zero_add]; exact h.int_free i hi j⟩
  rw [Nat.zero_add, h.int_at i hi hj']
  unfold valL
  simp [hj']
/-- A row that is laid over in place. -/
theorem Led.relaid (h : Led w0 w L) (i : Nat) {base g c n : Nat} {xs ys : List Int} (hi : L[i]? = some (tOwns elInt base 3 (.slice (some ⟨g, 0, none⟩) n c) xs)) (hl : ys.length = xs.length) (q : Nat) (os : Array Obj) (k : Nat) (hk : k ≤ ys.length) :
    Led w0 (Go.Sort.grow (Go.Sort.putRow (Value.int .i64) (Go.Sort.ahead w q) g 0 ys.toArray) os) (L.set i (tOwns elInt base 3 (.slice (some ⟨g, 0, none⟩) k c) (ys.take k))) := by
  have h1 := h.step (below_ahead w q)
  have ho := h1.own i hi
  rcases Owns.cases ho with ⟨h0, _⟩ | ⟨g1, c1, cur, hv, hbase, hb, hnc, hcm, hs, hf⟩
  · cases h0
  · injection hv with e1 e2 e3
    injection e1 with e1
    injection e1 with e1
    subst e1
    subst e3
    have hs' : cur.size = c := by rw [hs]; show c * 1 = c; omega
    have hfl := filled_put (xs := ys) (cur := cur) (by omega)
    have hown : Owns elInt (Go.Sort.putRow (Value.int .i64) (Go.Sort.ahead w q) g 0 ys.toArray) base 3 (.slice (some ⟨g, 0, none⟩) k c) (ys.take k) := by
      refine Owns.of_blk (blk_put hb _) hbase (by simp; omega) (by omega) (by simp [Go.Sort.putCells, hs]) hcm (fun j x hj hx i u hu => hfl j x (by omega) ?_ i u hu)
      rw [List.getElem?_take, if_pos hj] at hx
      exact hx
    have h2 := h1.regrow i hi (t' := tOwns elInt base 3 (.slice (some ⟨g, 0, none⟩) k c) (ys.take k)) ((touch_put (Go.Sort.ahead w q) g ys.toArray).mono (fun b hb => by subst hb; rfl)) (fun b hb => .inl hb) hown
    exact h2.step (below_grow _ os)
theorem sort_led (h : Led w0 w L) (i : Nat) {base : Nat} {v : Value} {xs : List Int} (hi : L[i]? = some (tOwns elInt base 3 v xs)) (hn : xs.length ≤ 1048576) :
    Calls Try.prog 144 #[v] w fun e w' => e = .returned (.tuple #[]) ∧ Led w0 w' (L.set i (tOwns elInt base 3 v (xs.mergeSort fun x y => decide (x ≤ y)))) := by
  rcases Owns.cases (h.own i hi) with ⟨rfl, rfl⟩ | ⟨g, c, cur, rfl, _⟩
  · refine (Try.slices_Sort_int_none _ _ w).mono ?_
    rintro e w' ⟨rfl, rfl⟩
    refine ⟨rfl, ?_⟩
    have e : L.set i (tOwns elInt base 3 (.slice none 0 0) (([] : List Int).mergeSort fun x y => decide (x ≤ y))) = L := by
      rw [List.mergeSort_nil]
      apply List.ext_getElem?
      intro j
      rw [List.getElem?_set]
      split
      · rename_i e; subst e
        rw [hi]; simp [(List.getElem?_eq_some_iff.1 hi).1]
      · rfl
    rw [e]; exact h
  · refine (Try.slices_Sort_int g 0 c xs w (h.holds i hi) ?_ (by omega)).mono ?_
    · exact ((h.own i hi).lies g rfl).2
    · rintro e w' ⟨rfl, q, os, rfl⟩
      have hl : (xs.mergeSort fun x y => decide (x ≤ y)).length = xs.length := List.length_mergeSort _
      have h1 := h.relaid i hi hl q os xs.length (by omega)
      rw [List.take_of_length_le (by omega)] at h1
      exact ⟨rfl, h1⟩
theorem compact_led (h : Led w0 w L) (i : Nat) {base n c : Nat} {A : Option Addr} {xs : List Int} (hi : L[i]? = some (tOwns elInt base 3 (.slice A n c) xs)) (hn : xs.length ≤ 1048576) :
    Calls Try.prog 145 #[.slice A n c] w fun e w' => e = .returned (.slice A (Lib.compact xs).length c) ∧ Led w0 w' (L.set i (tOwns elInt base 3 (.slice A (Lib.compact xs).length c) (Lib.compact xs))) := by
  rcases Owns.cases (h.own i hi) with ⟨hv, rfl⟩ | ⟨g, c1, cur, hv, _, _, hnc, _⟩
  · injection hv with e1 e2 e3
    subst e1 e2 e3
    refine (Try.slices_Compact_int_empty none 0 w).mono ?_
    rintro e w' ⟨rfl, rfl⟩
    refine ⟨rfl, ?_⟩
    have e : L.set i (tOwns elInt base 3 (.slice none (Lib.compact ([] : List Int)).length 0) (Lib.compact ([] : List Int))) = L := by
      apply List.ext_getElem?
      intro j
      rw [List.getElem?_set]
      split
      · rename_i e; subst e
        rw [hi, show Lib.compact ([] : List Int) = [] from by decide]; simp [(List.getElem?_eq_some_iff.1 hi).1]
      · rfl
    rw [e]; exact h
  · injection hv with e1 e2 e3
    subst e1 e2 e3
    refine (Try.slices_Compact_int g 0 c xs w (h.holds i hi) (by omega) hnc).mono ?_
    rintro e w' ⟨rfl, q, rfl⟩
    have hle := Lib.compact_length_le xs
    have h1 := h.relaid i hi (ys := Lib.compact xs ++ List.replicate (xs.length - (Lib.compact xs).length) 0) (by simp; omega) q #[] (Lib.compact xs).length (by simp)
    rw [List.take_left, Go.Sort.grow_empty] at h1
    exact ⟨rfl, h1⟩
end
end Go.Proofs.Ytfepilpllfiegaa
/- ReverseRoute of both sides, walked. Conditions: none. -/
namespace Go.Proofs.Ytfepilpllfiegaa
open Go.RowKit
/-- Where the reversed route starts, and its fibers. -/
def rvS (xs : List ByteArray) (fs : List Fib) (s : Int) (ids : List Int) : Int := if routeB xs fs s ids then atW fs s ids ids.length else 0
def rvL (xs : List ByteArray) (fs : List Fib) (s : Int) (ids : List Int) : List Int := if routeB xs fs s ids then ids.reverse else []
theorem rvL_len {xs : List ByteArray} {fs : List Fib} {s : Int} {ids : List Int} : (rvL xs fs s ids).length ≤ ids.length := by
  unfold rvL
  split <;> simp
theorem reverse_led {w0 w : World} {L : List Thing} (h : Led w0 w L) (i : Nat) {base : Nat} {v : Value} {xs : List Int} (hi : L[i]? = some (tOwns elInt base 3 v xs)) (hn : xs.length ≤ 1048576) :
    Calls Try.prog 100 #[v] w fun e w' => e = .returned (.tuple #[]) ∧ Led w0 w' (L.set i (tOwns elInt base 3 v xs.reverse)) := by
  rcases Owns.cases (h.own i hi) with ⟨rfl, rfl⟩ | ⟨g, c, cur, rfl, _⟩
  · refine (Try.slices_Reverse_int_empty none 0 w).mono ?_
    rintro e w' ⟨rfl, rfl⟩
    refine ⟨rfl, ?_⟩
    have e : L.set i (tOwns elInt base 3 (.slice none 0 0) (([] : List Int).reverse)) = L := by
      rw [List.reverse_nil]
      apply List.ext_getElem?
      intro j
      rw [List.getElem?_set]
      split
      · rename_i e; subst e
        rw [hi]; simp [(List.getElem?_eq_some_iff.1 hi).1]
      · rfl
    rw [e]; exact h
  · refine (Try.slices_Reverse_int g 0 c xs w (h.holds i hi) (by omega)).mono ?_
    rintro e w' ⟨rfl, q, rfl⟩
    have hl : xs.reverse.length = xs.length := List.length_reverse
    have h1 := h.relaid i hi hl q #[] xs.length (by omega)
    rw [List.take_of_length_le (by omega), Go.Sort.grow_empty] at h1
    exact ⟨rfl, h1⟩
section
variable {n c m d er : Nat} {A A' R : Option Addr} {xs : List ByteArray} {fs : List Fib} {ids : List Int}
set_option maxHeartbeats 2000000 in
set_option maxRecDepth 100000 in
theorem implReverse (w : World) (h : NetIs w A n c A' m d xs fs) (hr : RtIs w R ids.length er ids) (s : Int) :
    Calls Try.prog 39 #[.agg #[.slice A n c, .slice A' m d], .agg #[.int .i64 s, .slice R ids.length er]] w fun e w' => ∃ R' c', e = .returned (.tuple #[.agg #[.int .i64 (rvS xs fs s ids), .slice R' (rvL xs fs s ids).length c'], .bool (routeB xs fs s ids)]) ∧ Owns elInt w' w.heap.size 3 (.slice R' (rvL xs fs s ids).length c') (rvL xs fs s ids) ∧ Below w.heap.size w w' := by
  have hS := (((Led.nil w).blk_ w.heap.size rfl 27 #[.slice A n c, .slice A' m d]).blk_ (w.heap.size + 1) (by simp) 35 #[.int .i64 s, .slice R ids.length er]).blk_ (w.heap.size + 1 + 1) (by simp) 35 #[.int .i64 0, .slice none 0 0]
  cases g : routeB xs fs s ids
  · have H : Hid (rvS xs fs s ids = 0 ∧ rvL xs fs s ids = []) := by unfold Hid rvS rvL; rw [g]; exact ⟨rfl, rfl⟩
    rw [H.out.1, H.out.2]
    go_enter Try.func39, Try.ntmps39
    go_wp2_with fail
    refine (implIsValidRoute s _ (h.grow hS.bl) (hr.grow hS.bl)).mono ?_
    rintro e w1 ⟨rfl, hb⟩
    rw [g]
    replace hS := hS.step hb
    have q0 := hS.cell 0 0 rfl rfl
    have q1 := hS.cell 0 1 rfl rfl
    have z0 := hS.frozen 0 0 rfl
    have z1 := hS.frozen 0 1 rfl
    have hS2 := (hS.set 0 rfl 0 (.int .i64 0)).set 0 rfl 1 (.slice none 0 0)
    clear hb
    go_wp2_with fail
    exact bodyPost_ret (v := .tuple #[.agg #[.int .i64 0, .slice none 0 0], .bool false]) (by simp [results, Try.results39, go_sem, q0, q1]) rfl
      ⟨none, 0, rfl, World.ownsRow_nil _ _ _ _, hS2.bl⟩
  · obtain ⟨hg, hrt⟩ := routeB_good g
    rw [h.xlen] at hrt
    have H : Hid (rvS xs fs s ids = atW fs s ids ids.length ∧ rvL xs fs s ids = ids.reverse) := by unfold Hid rvS rvL; rw [g]; exact ⟨rfl, rfl⟩
    rw [H.out.1, H.out.2]
    have HN := hid h
    have HR := hid hr
    have HRT := hid hrt
    have hkr : ids.length ≤ 1048576 := by have := (routeB_short g).1; omega
    go_enter Try.func39, Try.ntmps39
    go_wp2_with fail
    refine (implIsValidRoute s _ (h.grow hS.bl) (hr.grow hS.bl)).mono ?_
    rintro e w1 ⟨rfl, hb⟩
    rw [g]
    replace hS := hS.step hb
    clear hb h hr hg hrt
    have C0 : ∀ w', Cls w1 w' → w'.cell? ⟨w.heap.size, 0, none⟩ = some (.slice A n c) := fun _ h => h.cell (hS.cell 2 0 rfl rfl)
    have C1 : ∀ w', Cls w1 w' → w'.cell? ⟨w.heap.size, 1, none⟩ = some (.slice A' m d) := fun _ h => h.cell (hS.cell 2 1 rfl rfl)
    have C2 : ∀ w', Cls w1 w' → w'.cell? ⟨w.heap.size + 1, 0, none⟩ = some (.int .i64 s) := fun _ h => h.cell (hS.cell 1 0 rfl rfl)
    have C3 : ∀ w', Cls w1 w' → w'.cell? ⟨w.heap.size + 1, 1, none⟩ = some (.slice R ids.length er) := fun _ h => h.cell (hS.cell 1 1 rfl rfl)
    have HL := hid (fun w' (h : Cls w1 w') => hS.step h)
    clear hS
    go_wp2_with fail
    go_region_held3 (fun w' => Cls w1 w') (first | exact Cls.refl _ | exact Cls.drew _ | assumption | exact Cls.next (by assumption) (by assumption) | exact bl_alloc (by assumption) _ | exact bl_alloc (Cls.drew _) _ | exact (bl_alloc (Cls.refl _) _).drew | exact bl_set (bl_set (by assumption) _ (by first | exact Nat.le_refl _ | exact Below.size hcl2)) _ (by first | exact Nat.le_refl _ | exact Below.size hcl2))
      (first
        | (go_at_call 98; refine (endOf_any _ (HN.out.grow (HL.out _ (by assumption)).bl) (HR.out.grow (HL.out _ (by assumption)).bl) HRT.out).mono ?_; rintro e w2 ⟨rfl, hb⟩; have hcl2 : Cls w1 _ := Cls.next hb (by assumption))
        | (go_at_call 99; refine (cloneI_any _ (HR.out.2.grow (HL.out _ (by assumption)).bl) hkr).mono ?_; rintro e w3 ⟨v3, rfl, ho3, hb3⟩; obtain ⟨A3, c3, hv3, _⟩ := ho3.form; subst hv3; have hcl3 : Cls w1 _ := Cls.next hb3 (by assumption); first
            | (have hlA := ((HL.out w2 hcl2).blk_ w2.heap.size rfl 35 #[.int .i64 0, .slice none 0 0]).owns hb3 ho3; have q4 := hlA.cell 1 0 rfl rfl; have q5 := hlA.cell 1 1 rfl rfl; have z4 := hlA.frozen 1 0 rfl; have z5 := hlA.frozen 1 1 rfl)
            | (have hlA := ((((HL.out w1 (Cls.refl _)).blk_ w1.heap.size rfl 35 #[.int .i64 0, .slice none 0 0]).step (Cls.drew _)).step hb).owns hb3 ho3; have q4 := hlA.cell 1 0 rfl rfl; have q5 := hlA.cell 1 1 rfl rfl; have z4 := hlA.frozen 1 0 rfl; have z5 := hlA.frozen 1 1 rfl)
            | have hlA := (HL.out w2 hcl2).owns hb3 ho3))
    · have HZ := hid (hlA.blk_ w3.heap.size rfl 35 #[.int .i64 (atW fs s ids ids.length), .slice A3 ids.length c3])
      have p0 := HZ.out.cell 0 0 rfl rfl
      have p1 := HZ.out.cell 0 1 rfl rfl
      have hwb := (HL.out w2 hcl2).bl.size
      clear hlA ho3 hb3 hb hcl2 hcl3 C0 C1 C2 C3 HL
      go_wp2_with fail
      refine (reverse_led HZ.out 1 rfl hkr).mono ?_
      rintro e w4 ⟨rfl, hS4⟩
      have HZ4 := hid hS4
      have e4 : Hid (ids.reverse.length = ids.length) := List.length_reverse
      have p2 := HZ4.out.cell 0 0 rfl rfl
      have p3 := HZ4.out.cell 0 1 rfl rfl
      have y0 := HZ4.out.cell 2 0 rfl rfl
      have y1 := HZ4.out.cell 2 1 rfl rfl
      have z0 := HZ4.out.frozen 2 0 rfl
      have z1 := HZ4.out.frozen 2 1 rfl
      have HE := hid ((HZ4.out.set 2 rfl 0 (.int .i64 (atW fs s ids ids.length))).set 2 rfl 1 (.slice A3 ids.length c3))
      clear hS4 p0 p1
      go_wp2
      exact bodyPost_ret (v := .tuple #[.agg #[.int .i64 (atW fs s ids ids.length), .slice A3 ids.length c3], .bool true]) (by simp [results, Try.results39, go_sem, y0, y1]) rfl
        ⟨A3, c3, by rw [e4.out], by rw [e4.out]; exact (HE.out.own 1 rfl).base (by first | exact hwb | (simp; omega)), HE.out.bl⟩
    · have HZ := hid ((hlA.set 1 rfl 0 (.int .i64 (atW fs s ids ids.length))).set 1 rfl 1 (.slice A3 ids.length c3))
      have p0 := HZ.out.cell 1 0 rfl rfl
      have p1 := HZ.out.cell 1 1 rfl rfl
      have hwb := (HL.out w2 hcl2).bl.size
      clear hlA ho3 hb3 hb hcl2 hcl3 C0 C1 C2 C3 HL q4 q5 z4 z5
      go_wp2_with fail
      refine (reverse_led HZ.out 0 rfl hkr).mono ?_
      rintro e w4 ⟨rfl, hS4⟩
      have HZ4 := hid hS4
      have e4 : Hid (ids.reverse.length = ids.length) := List.length_reverse
      have p2 := HZ4.out.cell 1 0 rfl rfl
      have p3 := HZ4.out.cell 1 1 rfl rfl
      have y0 := HZ4.out.cell 2 0 rfl rfl
      have y1 := HZ4.out.cell 2 1 rfl rfl
      have z0 := HZ4.out.frozen 2 0 rfl
      have z1 := HZ4.out.frozen 2 1 rfl
      have HE := hid ((HZ4.out.set 2 rfl 0 (.int .i64 (atW fs s ids ids.length))).set 2 rfl 1 (.slice A3 ids.length c3))
      clear hS4 p0 p1
      go_wp2
      exact bodyPost_ret (v := .tuple #[.agg #[.int .i64 (atW fs s ids ids.length), .slice A3 ids.length c3], .bool true]) (by simp [results, Try.results39, go_sem, y0, y1]) rfl
        ⟨A3, c3, by rw [e4.out], by rw [e4.out]; exact (HE.out.own 0 rfl).base (by first | exact hwb | (simp; omega)), HE.out.bl⟩
    · have HZ := hid ((hlA.set 1 rfl 0 (.int .i64 (atW fs s ids ids.length))).set 1 rfl 1 (.slice A3 ids.length c3))
      have p0 := HZ.out.cell 1 0 rfl rfl
      have p1 := HZ.out.cell 1 1 rfl rfl
      have hwb := (HL.out w2 hcl2).bl.size
      clear hlA ho3 hb3 hb hcl2 hcl3 C0 C1 C2 C3 HL q4 q5 z4 z5
      go_wp2_with fail
      refine (reverse_led HZ.out 0 rfl hkr).mono ?_
      rintro e w4 ⟨rfl, hS4⟩
      have HZ4 := hid hS4
      have e4 : Hid (ids.reverse.length = ids.length) := List.length_reverse
      have p2 := HZ4.out.cell 1 0 rfl rfl
      have p3 := HZ4.out.cell 1 1 rfl rfl
      have y0 := HZ4.out.cell 2 0 rfl rfl
      have y1 := HZ4.out.cell 2 1 rfl rfl
      have z0 := HZ4.out.frozen 2 0 rfl
      have z1 := HZ4.out.frozen 2 1 rfl
      have HE := hid ((HZ4.out.set 2 rfl 0 (.int .i64 (atW fs s ids ids.length))).set 2 rfl 1 (.slice A3 ids.length c3))
      clear hS4 p0 p1
      go_wp2
      exact bodyPost_ret (v := .tuple #[.agg #[.int .i64 (atW fs s ids ids.length), .slice A3 ids.length c3], .bool true]) (by simp [results, Try.results39, go_sem, y0, y1]) rfl
        ⟨A3, c3, by rw [e4.out], by rw [e4.out]; exact (HE.out.own 0 rfl).base (by first | exact hwb | (simp; omega)), HE.out.bl⟩
end
end Go.Proofs.Ytfepilpllfiegaa
/- What two lists have in common: impl.common walked. Conditions: at most 1048576 numbers. -/
namespace Go.Proofs.Ytfepilpllfiegaa
open Go.RowKit
/-- Those of the first k numbers of a that b has. -/
def comTo (a b : List Int) (k : Nat) : List Int := (a.take k).filter fun x => hasB b x
theorem comTo_zero (a b : List Int) : comTo a b 0 = [] := by simp [comTo]
theorem comTo_yes {a b : List Int} {k : Nat} {x : Int} (hx : a[k]? = some x) (h : hasB b x = true) : comTo a b (k + 1) = comTo a b k ++ [x] := by
  simp [comTo, List.take_add_one, hx, List.filter_append, h]
theorem comTo_no {a b : List Int} {k : Nat} {x : Int} (hx : a[k]? = some x) (h : hasB b x = false) : comTo a b (k + 1) = comTo a b k := by
  simp [comTo, List.take_add_one, hx, List.filter_append, h]
theorem comTo_len (a b : List Int) (k : Nat) : (comTo a b k).length ≤ k := by
  have h1 := List.length_filter_le (fun x => hasB b x) (a.take k)
  have h2 : (a.take k).length ≤ k := by simp; omega
  unfold comTo; omega
theorem comTo_all {a b : List Int} {n : Nat} (h : a.length = n) : Lib.compact ((comTo a b n).mergeSort fun x y => decide (x ≤ y)) = comL a b := by
  unfold comTo comL
  rw [List.take_of_length_le (by omega)]
section
variable {n m ca cb B C : Nat} {A D : Option Addr} {a b : List Int}
set_option maxHeartbeats 2000000 in
set_option maxRecDepth 100000 in
theorem common_any (w : World) (ha : Sees elInt w B A n a) (hb : Sees elInt w C D m b) (hn : n ≤ 1048576) (hm : m ≤ 1048576) :
    Calls Try.prog 103 #[.slice A n ca, .slice D m cb] w fun e w' => ∃ v, e = .returned v ∧ Owns elInt w' w.heap.size 3 v (comL a b) ∧ Below w.heap.size w w' := by
  have hS := (Led.nil w).empty elInt 3 w.heap.size rfl w.heap.size (Nat.le_refl _)
  rw [← comTo_zero a b] at hS
  have HS := hid hS
  have HA := hid ha
  have HB := hid hb
  have HL := hid ha.len
  obtain ⟨i0, hi, hz0, hz1, hz2⟩ := info_parts int_info
  clear hS ha hb
  go_enter Try.func103, Try.ntmps103
  go_wp2_with fail
  go_loopw [5, 11] (fun v i wr => ∃ k : Nat, k ≤ n ∧ i = .int .i64 k ∧ Hid (Led w wr [tOwns elInt w.heap.size 3 v (comTo a b k)])) (fun _ i _ => n - (intOf i).toNat)
  case atStart => exact ⟨0, Nat.zero_le _, rfl, HS⟩
  case round =>
    clear HS
    obtain ⟨k, hk, rfl, HS⟩ := hrel
    obtain ⟨A1, c1, rfl, _⟩ := HS.out.form 0 rfl
    by_cases hlt : k < n
    · obtain ⟨g, o, rfl, _, hx⟩ := HA.out.at_ hlt
      obtain ⟨x, hxk⟩ := get_of (k := k) HL.out hlt
      have f0 := bl_cell HS.out.bl (hx k x hxk 0 _ rfl)
      simp only [elInt, Nat.mul_one, Nat.add_zero] at f0
      have hll := comTo_len a b k
      have HX := hid hxk
      clear hx hxk
      go_wp2_with fail
      refine (containsI_any x _ (HB.out.grow HS.out.bl) (by unfold maxLen; omega)).mono ?_
      rintro e w5 ⟨rfl, rfl⟩
      cases gk : hasB b x
      · have HN := hid (comTo_no HX.out gk)
        clear HX f0
        go_wp2
        exact ⟨⟨k + 1, by omega, by go_num, by rw [HN.out]; exact HS⟩, by simp [intOf]; omega⟩
      · have HN := hid (comTo_yes HX.out gk)
        have HS2 := hid (HS.out.blk_ wr.heap.size rfl 3 #[.int .i64 x])
        clear HX f0 HS
        go_wp2_with (first
          | (at_builtin; refine wpList_append_led rfl _ _ 33 rfl HS2.out 1 rfl Try.underlying33 hi hz0 hz1 (by rw [hz2]; decide) rfl rfl rfl (show Sees elInt _ _ _ 1 [x] from sees_new elInt _ _ _ _ rfl) (by omega) HS2.out.bl.size ?_)
          | go_in)
        intro A2 c2 w7 hS5
        have hS6 := hid (hS5.drop 1)
        clear HS2 hS5
        go_wp2
        go_roundw
        case rel => exact ⟨k + 1, by omega, by go_num, by rw [HN.out]; exact hS6⟩
        case measure => simp [intOf]; omega
    · have hkn : n = k := by omega
      subst hkn
      have hll := comTo_len a b n
      have HE := hid (comTo_all (b := b) HL.out)
      clear hlt
      go_wp2_with fail
      refine (sort_led HS.out 0 rfl (by omega)).mono ?_
      rintro e w2 ⟨rfl, h2⟩
      have hl2 : ((comTo a b n).mergeSort fun x y => decide (x ≤ y)).length = (comTo a b n).length := List.length_mergeSort _
      have H2 := hid h2
      clear h2 HS
      go_wp2_with fail
      refine (compact_led H2.out 0 (by rw [← hl2]; rfl) (by omega)).mono ?_
      rintro e w3 ⟨rfl, h3⟩
      have H3 := hid h3
      clear h3 H2
      go_wp2
      go_ret
      exact ⟨_, rfl, by rw [← HE.out]; exact H3.out.own 0 rfl, H3.out.bl⟩
end
end Go.Proofs.Ytfepilpllfiegaa
/- SharedFibers of both sides, walked. Conditions: none. -/
namespace Go.Proofs.Ytfepilpllfiegaa
open Go.RowKit
def shB (xs : List ByteArray) (fs : List Fib) (s : Int) (a : List Int) (t : Int) (b : List Int) : Bool := routeB xs fs s a && routeB xs fs t b
def shL (xs : List ByteArray) (fs : List Fib) (s : Int) (a : List Int) (t : Int) (b : List Int) : List Int := if shB xs fs s a t b then comL a b else []
section
variable {n c m d er eq : Nat} {A A' R Q : Option Addr} {xs : List ByteArray} {fs : List Fib} {ids jds : List Int} {s t : Int}
set_option maxHeartbeats 2000000 in
set_option maxRecDepth 100000 in
theorem implShared (w : World) (h : NetIs w A n c A' m d xs fs) (hr : RtIs w R ids.length er ids) (hq : RtIs w Q jds.length eq jds) :
    Calls Try.prog 43 #[.agg #[.slice A n c, .slice A' m d], .agg #[.int .i64 s, .slice R ids.length er], .agg #[.int .i64 t, .slice Q jds.length eq]] w fun e w' => ∃ v, e = .returned (.tuple #[v, .bool (shB xs fs s ids t jds)]) ∧ Owns elInt w' w.heap.size 3 v (shL xs fs s ids t jds) ∧ Below w.heap.size w w' := by
  have hS := (((Led.nil w).blk_ w.heap.size rfl 27 #[.slice A n c, .slice A' m d]).blk_ (w.heap.size + 1) (by simp) 35 #[.int .i64 s, .slice R ids.length er]).blk_ (w.heap.size + 1 + 1) (by simp) 35 #[.int .i64 t, .slice Q jds.length eq]
  have HB : Hid (shB xs fs s ids t jds = (routeB xs fs s ids && routeB xs fs t jds)) := rfl
  cases g : (routeB xs fs s ids && routeB xs fs t jds)
  · have H : Hid (shL xs fs s ids t jds = []) := by unfold Hid shL shB; rw [g]; rfl
    rw [HB.out, g]
    go_enter Try.func43, Try.ntmps43
    go_wp2_with fail
    refine (areRoutes_any _ (h.grow hS.bl) (hr.grow hS.bl) (hq.grow hS.bl)).mono ?_
    rintro e w1 ⟨rfl, hb⟩
    rw [g]
    go_wp2_with fail
    go_ret2
    exact ⟨_, rfl, by rw [H.out]; exact World.ownsRow_nil _ _ _ _, bl_then hS.bl hb⟩
  · have H : Hid (shL xs fs s ids t jds = comL ids jds) := by unfold Hid shL shB; rw [g]; rfl
    rw [HB.out, g]
    go_enter Try.func43, Try.ntmps43
    go_wp2_with fail
    refine (areRoutes_any _ (h.grow hS.bl) (hr.grow hS.bl) (hq.grow hS.bl)).mono ?_
    rintro e w1 ⟨rfl, hb⟩
    rw [g]
    replace hS := hS.step hb
    have q1 := hS.cell 0 1 rfl rfl
    have q3 := hS.cell 1 1 rfl rfl
    go_wp2_with fail
    refine (common_any _ (hr.grow hS.bl).2 (hq.grow hS.bl).2 hr.le hq.le).mono ?_
    rintro e w2 ⟨v, rfl, ho, hb2⟩
    have HO := hid (ho.base (base' := w.heap.size) hS.bl.size)
    have HZ := hid (bl_then hS.bl hb2)
    clear ho hb2 hb hS
    go_wp2_with fail
    go_ret2
    exact ⟨_, rfl, by rw [H.out]; exact HO.out, HZ.out⟩
end
end Go.Proofs.Ytfepilpllfiegaa
/- The order of routes with the worlds told as draws and new blocks. Conditions: as each states. By gen_grw.py. -/
namespace Go.Proofs.Ytfepilpllfiegaa
open Go.RowKit Go.Sort
/-- Draws and new blocks. -/
def Grw (w w' : World) : Prop := ∃ (q : Nat) (os : Array Obj), w' = grow (w.drewN q) os
theorem Grw.refl (w : World) : Grw w w := ⟨0, #[], by rw [grow_empty]; rfl⟩
theorem Grw.trans {w w1 w2 : World} (h : Grw w w1) (k : Grw w1 w2) : Grw w w2 := by
  obtain ⟨q, os, rfl⟩ := h
  obtain ⟨q2, os2, rfl⟩ := k
  exact ⟨q + q2, os ++ os2, by show grow (grow ((w.drewN q).drewN q2) os) os2 = _; rw [grow_grow, World.drewN_drewN]⟩
theorem Grw.alloc {w w1 : World} (h : Grw w w1) (o : Obj) : Grw w (w1.alloc o) := h.trans ⟨0, #[o], by rw [alloc_eq_grow]; rfl⟩
theorem Grw.drew (w : World) : Grw w w.drew := ⟨1, #[], by rw [grow_empty]; rfl⟩
theorem Grw.below {w w' : World} (h : Grw w w') : Cls w w' := by
  obtain ⟨q, os, rfl⟩ := h
  refine ⟨rfl, rfl, rfl, ?_, fun k hk => ?_⟩
  · show w.heap.size ≤ (w.heap ++ os).size
    rw [Array.size_append]; omega
  · show (w.heap ++ os)[k]? = w.heap[k]?
    rw [Array.getElem?_append_left hk]
section
variable {n c m d er eq : Nat} {A A' R Q : Option Addr} {xs : List ByteArray} {fs : List Fib} {s t : Int} {ids jds : List Int}
set_option maxHeartbeats 1000000 in
set_option maxRecDepth 100000 in
theorem lengthOf_grw (w : World) (h : NetIs w A n c A' m d xs fs) (hr : RtIs w R ids.length er ids) (hin : ∀ x ∈ ids, 0 ≤ x ∧ x < fs.length) (hl : ∀ f ∈ fs, 0 ≤ f.len ∧ f.len ≤ 5000) :
    Calls Try.prog 93 #[.agg #[.slice A n c, .slice A' m d], .agg #[.int .i64 s, .slice R ids.length er]] w fun e w' => e = .returned (.int .i64 (lenR fs ids)) ∧ Grw w w' := by
  have hS := ((Led.nil w).blk_ w.heap.size rfl 27 #[.slice A n c, .slice A' m d]).blk_ (w.heap.size + 1) (by simp) 35 #[.int .i64 s, .slice R ids.length er]
  have hbd := hid (rlTo_bd hl hin)
  have HIN := hid hin
  have hkr := hr.le
  have hm := h.mle
  have hlf := hid h.flen
  have HS := hid hS
  have HG : Hid (Grw w ((w.alloc (.cells #[.slice A n c, .slice A' m d] 27)).alloc (.cells #[.int .i64 s, .slice R ids.length er] 35))) := ((Grw.refl w).alloc _).alloc _
  have HF := hid h
  have HR := hid hr
  clear hin hl hS h hr
  go_enter Try.func93, Try.ntmps93
  go_wp2_with fail
  go_loopw [5, 11] (fun t i wr => ∃ (k : Nat) (r : Int), k ≤ ids.length ∧ i = .int .i64 k ∧ t = .int .i64 r ∧ Hid (r = rlTo fs ids k) ∧ Hid (Led w wr [tBlk (w.heap.size + 1) 35 #[.int .i64 s, .slice R ids.length er], tBlk w.heap.size 27 #[.slice A n c, .slice A' m d]]) ∧ Hid (Grw w wr)) (fun _ i _ => ids.length - (intOf i).toNat)
  case atStart => exact ⟨0, 0, Nat.zero_le _, rfl, rfl, (rlTo_zero fs ids).symm, HS, HG⟩
  case round =>
    clear HS HG
    obtain ⟨k, r, hk, rfl, rfl, hre, HS, HG⟩ := hrel
    have p1 := HS.out.cell 1 1 rfl rfl
    have p3 := HS.out.cell 0 1 rfl rfl
    by_cases hlt : k < ids.length
    · obtain ⟨ib, io, rfl, _, hc⟩ := HR.out.2.at_ hlt
      obtain ⟨x, hxk⟩ := get_of (k := k) rfl hlt
      have hx := HIN.out x (List.mem_of_getElem? hxk)
      rw [hlf.out] at hx
      obtain ⟨j, rfl⟩ : ∃ j : Nat, x = (j : Int) := ⟨x.toNat, by omega⟩
      obtain ⟨b, o, rfl, _, hd⟩ := HF.out.fibs.at_ (k := j) (by omega)
      obtain ⟨f, hfj⟩ := get_of (k := j) hlf.out (by omega)
      have e0 := bl_cell HS.out.bl (hc k _ hxk 0 _ rfl)
      have f2 := bl_cell HS.out.bl (hd j f hfj 2 _ rfl)
      simp only [elFib, elInt, Nat.mul_one, Nat.add_zero] at e0 f2
      have b1 := hbd.out k (by omega)
      have b2 := hbd.out (k + 1) (by omega)
      have HN : Hid (rlTo fs ids (k + 1) = r + f.len) := by unfold Hid; rw [rlTo_succ hxk (by simpa using hfj), ← hre.out]
      rw [← hre.out] at b1
      rw [HN.out] at b2
      have iw : IntKind.i64.wrap (r + f.len) = r + f.len := IntWalk.i64_in _ (by omega)
      have ik : (k : Int) < (ids.length : Int) := by omega
      clear hc hd hxk hfj
      go_wp2
      go_roundw
      case rel => exact ⟨k + 1, _, by omega, by go_num, rfl, HN.out.symm, HS, HG⟩
      case measure => simp [intOf]; omega
    · have hkm : k = ids.length := by omega
      have HE : Hid (r = lenR fs ids) := by rw [hkm] at hre; exact hre
      clear hlt hre
      go_wp2
      go_ret
      exact ⟨by rw [HE.out]; rfl, HG.out⟩
set_option maxHeartbeats 2000000 in
set_option maxRecDepth 100000 in
theorem compareRoutes_grw (w : World) (h : NetIs w A n c A' m d xs fs) (hr : RtIs w R ids.length er ids) (hq : RtIs w Q jds.length eq jds) (hl : ∀ f ∈ fs, 0 ≤ f.len ∧ f.len ≤ 5000) (hi : ∀ x ∈ ids, 0 ≤ x ∧ x < fs.length) (hj : ∀ x ∈ jds, 0 ≤ x ∧ x < fs.length) :
    Calls Try.prog 64 #[.agg #[.slice A n c, .slice A' m d], .agg #[.int .i64 s, .slice R ids.length er], .agg #[.int .i64 t, .slice Q jds.length eq]] w fun e w' => e = .returned (.int .i64 (ordR fs s ids t jds)) ∧ Grw w w' := by
  have hS := (((Led.nil w).blk_ w.heap.size rfl 27 #[.slice A n c, .slice A' m d]).blk_ (w.heap.size + 1) (by simp) 35 #[.int .i64 s, .slice R ids.length er]).blk_ (w.heap.size + 1 + 1) (by simp) 35 #[.int .i64 t, .slice Q jds.length eq]
  have hri := hr.le
  have hqi := hq.le
  have H : Hid (ordR fs s ids t jds = orI [cmpB (lenR fs ids) (lenR fs jds), cmpB (ids.length : Int) (jds.length : Int), cmpL ids jds, cmpB s t]) := rfl
  have HL : Hid (∀ w', Grw w w' → Calls Try.prog 93 #[.agg #[.slice A n c, .slice A' m d], .agg #[.int .i64 s, .slice R ids.length er]] w' fun e w2 => e = .returned (.int .i64 (lenR fs ids)) ∧ Grw w' w2) := fun w' hw => lengthOf_grw w' (h.grow hw.below) (hr.grow hw.below) hi hl
  have HM : Hid (∀ w', Grw w w' → Calls Try.prog 93 #[.agg #[.slice A n c, .slice A' m d], .agg #[.int .i64 t, .slice Q jds.length eq]] w' fun e w2 => e = .returned (.int .i64 (lenR fs jds)) ∧ Grw w' w2) := fun w' hw => lengthOf_grw w' (h.grow hw.below) (hq.grow hw.below) hj hl
  have HC : Hid (∀ w', Grw w w' → Calls Try.prog 130 #[.slice R ids.length er, .slice Q jds.length eq] w' fun e w2 => e = .returned (.int .i64 (cmpL ids jds)) ∧ w' = w2) := fun w' hw => compareL_any w' (hr.grow hw.below).2 (hq.grow hw.below).2 hri
  clear hi hj hl h hr hq
  go_enter Try.func64, Try.ntmps64
  go_wp2_with fail
  have hG : Grw w (((w.alloc (.cells #[.slice A n c, .slice A' m d] 27)).alloc (.cells #[.int .i64 s, .slice R ids.length er] 35)).alloc (.cells #[.int .i64 t, .slice Q jds.length eq] 35)) := (((Grw.refl w).alloc _).alloc _).alloc _
  generalize (((w.alloc (.cells #[.slice A n c, .slice A' m d] 27)).alloc (.cells #[.int .i64 s, .slice R ids.length er] 35)).alloc (.cells #[.int .i64 t, .slice Q jds.length eq] 35)) = W0 at *
  have C0 : ∀ w', Grw W0 w' → w'.cell? ⟨w.heap.size, 0, none⟩ = some (.slice A n c) := fun _ h => h.below.cell (hS.cell 2 0 rfl rfl)
  have C1 : ∀ w', Grw W0 w' → w'.cell? ⟨w.heap.size, 1, none⟩ = some (.slice A' m d) := fun _ h => h.below.cell (hS.cell 2 1 rfl rfl)
  have C2 : ∀ w', Grw W0 w' → w'.cell? ⟨w.heap.size + 1, 0, none⟩ = some (.int .i64 s) := fun _ h => h.below.cell (hS.cell 1 0 rfl rfl)
  have C3 : ∀ w', Grw W0 w' → w'.cell? ⟨w.heap.size + 1, 1, none⟩ = some (.slice R ids.length er) := fun _ h => h.below.cell (hS.cell 1 1 rfl rfl)
  have C4 : ∀ w', Grw W0 w' → w'.cell? ⟨w.heap.size + 1 + 1, 0, none⟩ = some (.int .i64 t) := fun _ h => h.below.cell (hS.cell 0 0 rfl rfl)
  have C5 : ∀ w', Grw W0 w' → w'.cell? ⟨w.heap.size + 1 + 1, 1, none⟩ = some (.slice Q jds.length eq) := fun _ h => h.below.cell (hS.cell 0 1 rfl rfl)
  have HB : Hid (Grw w W0) := hG
  clear hS hG
  go_region_held3 (fun w' => Grw W0 w') (first | assumption | exact Grw.drew _ | exact Grw.trans (by assumption) (by assumption) | exact Grw.alloc (by assumption) _)
    (first
      | (go_at_call 93; with_reducible refine (HL.out _ (HB.out.trans (by assumption))).mono ?_; rintro e w' ⟨rfl, hb1⟩)
      | (go_at_call 93; with_reducible refine (HM.out _ (HB.out.trans (by assumption))).mono ?_; rintro e w' ⟨rfl, hb2⟩)
      | (go_at_call 130; refine (HC.out _ (HB.out.trans (by assumption))).mono ?_; rintro e w' ⟨rfl, rfl⟩)
      | (go_at_call 129; refine (compare_any _ _ _).mono ?_; rintro e w' ⟨rfl, rfl⟩)
      | (go_at_call 128; refine (or_any (x0 := cmpB (lenR fs ids) (lenR fs jds)) (x1 := cmpB (ids.length : Int) (jds.length : Int)) (x2 := cmpL ids jds) (x3 := cmpB s t) _ (by go_simp) (by go_simp) (by go_simp) (by go_simp)).mono ?_; rintro e w' ⟨rfl, rfl⟩))
  have hz := HB.out.trans (by assumption)
  go_wp2
  go_ret
  exact ⟨by rw [H.out]; rfl, hz⟩
set_option maxHeartbeats 1000000 in
set_option maxRecDepth 100000 in
/-- The closure that routesBetween sorts by. -/
theorem routesCmp_grw {gn : Nat} (w : World) (h : NetIs w A n c A' m d xs fs) (hg : ∀ i v, (#[Value.slice A n c, Value.slice A' m d] : Array Value)[i]? = some v → w.cell? ⟨gn, i, none⟩ = some v) (hr : RtIs w R ids.length er ids) (hq : RtIs w Q jds.length eq jds) (hl : ∀ f ∈ fs, 0 ≤ f.len ∧ f.len ≤ 5000) (hi : ∀ x ∈ ids, 0 ≤ x ∧ x < fs.length) (hj : ∀ x ∈ jds, 0 ≤ x ∧ x < fs.length) :
    Calls Try.prog 125 #[.agg #[.int .i64 s, .slice R ids.length er], .agg #[.int .i64 t, .slice Q jds.length eq], .pointer (some ⟨gn, 0, none⟩)] w fun e w' => e = .returned (.int .i64 (ordR fs s ids t jds)) ∧ Grw w w' := by
  have hG : Grw w ((w.alloc (.cells #[.int .i64 s, .slice R ids.length er] 35)).alloc (.cells #[.int .i64 t, .slice Q jds.length eq] 35)) := ((Grw.refl w).alloc _).alloc _
  have hS := ((Led.nil w).blk_ w.heap.size rfl 35 #[.int .i64 s, .slice R ids.length er]).blk_ (w.heap.size + 1) (by simp) 35 #[.int .i64 t, .slice Q jds.length eq]
  have p0 := hG.below.cell (hg 0 _ rfl)
  have p1 := hG.below.cell (hg 1 _ rfl)
  have HC := hid (compareRoutes_grw (s := s) (t := t) _ (h.grow hG.below) (hr.grow hG.below) (hq.grow hG.below) hl hi hj)
  have HG := hid hG
  clear hG hS hg h hr hq hl hi hj
  go_enter Try.func125, Try.ntmps125
  go_wp2_with fail
  refine HC.out.mono ?_
  rintro e w1 ⟨rfl, h1⟩
  go_wp2_with fail
  go_ret
  exact ⟨rfl, HG.out.trans h1⟩
end
end Go.Proofs.Ytfepilpllfiegaa
/-
  DERIVED: THE SHELF's CONTRACTS AT THIS DUMP, IN PLAIN WORDS (tools/lay-plain.mjs out of 'TryShelfR.lean', which tools/lay-shelf.mjs wrote): THE SAME DECLARATIONS UNDER THE SAME NAMES: 'import', 'namespace', 'open', 'def', 'theorem' AND NOTHING ELSE: no command of the shelf's: FOR A HAND-IN. Each laying: the table of numbers ('.._ren') and one theorem, a field a fact of the dump's own or the kernel's comparison; each contract: ONE APPLICATION.
-/
namespace Go.Proofs
open Go.Shelf
def Try.sortR_ren : Go.Shelf.Ren := ⟨fun | 6 => 124 | 15 => 155 | 14 => 154 | 28 => 170 | 29 => 171 | 20 => 162 | 21 => 163 | 22 => 164 | 23 => 165 | 24 => 166 | 25 => 167 | 26 => 168 | 27 => 169 | 46 => 185 | 47 => 186 | 48 => 187 | 49 => 188 | 50 => 189 | 57 => 195 | n => n, fun | 22 => 30 | 24 => 35 | 25 => 130 | 3 => 3 | 39 => 141 | 0 => 0 | 53 => 166 | 55 => 79 | 4 => 4 | 46 => 160 | 45 => 159 | 50 => 41 | 5 => 5 | 9 => 9 | 66 => 178 | 70 => 182 | 76 => 186 | 77 => 100 | n => n, fun | n => n⟩
theorem Try.sortR : Go.Proofs.SlLaysF0.n6 Try.prog Try.sortR_ren := {
  mixed := by kernel_rfl
  f6 := ⟨Try.f124.name, by decide, Try.func124.trans (congrArg some (by kernel_rfl))⟩
  f14 := ⟨Try.f154.name, by decide, Try.func154.trans (congrArg some (by kernel_rfl))⟩
  f15 := Try.func155.trans (congrArg some (by kernel_rfl))
  f20 := ⟨Try.f162.name, by decide, Try.func162.trans (congrArg some (by kernel_rfl))⟩
  f21 := ⟨Try.f163.name, by decide, Try.func163.trans (congrArg some (by kernel_rfl))⟩
  f22 := ⟨Try.f164.name, by decide, Try.func164.trans (congrArg some (by kernel_rfl))⟩
  f23 := ⟨Try.f165.name, by decide, Try.func165.trans (congrArg some (by kernel_rfl))⟩
  f24 := ⟨Try.f166.name, by decide, Try.func166.trans (congrArg some (by kernel_rfl))⟩
  f25 := ⟨Try.f167.name, by decide, Try.func167.trans (congrArg some (by kernel_rfl))⟩
  f26 := ⟨Try.f168.name, by decide, Try.func168.trans (congrArg some (by kernel_rfl))⟩
  f27 := ⟨Try.f169.name, by decide, Try.func169.trans (congrArg some (by kernel_rfl))⟩
  f28 := Try.func170.trans (congrArg some (by kernel_rfl))
  f29 := Try.func171.trans (congrArg some (by kernel_rfl))
  f46 := ⟨Try.f185.name, by decide, Try.func185.trans (congrArg some (by kernel_rfl))⟩
  f47 := Try.func186.trans (congrArg some (by kernel_rfl))
  f48 := Try.func187.trans (congrArg some (by kernel_rfl))
  f49 := ⟨Try.f188.name, by decide, Try.func188.trans (congrArg some (by kernel_rfl))⟩
  f50 := ⟨Try.f189.name, by decide, Try.func189.trans (congrArg some (by kernel_rfl))⟩
  f57 := ⟨Try.f195.name, by decide, Try.func195.trans (congrArg some (by kernel_rfl))⟩
  t0 := Try.underlying0
  a0 := Try.isAgg0
  z0 := Try.sizeOf0
  v0 := Try.zeroValue0
  t3 := Try.underlying3
  a3 := Try.isAgg3
  z3 := Try.sizeOf3
  v3 := Try.zeroValue3
  t4 := Try.underlying4
  a4 := Try.isAgg4
  z4 := Try.sizeOf4
  v4 := Try.zeroValue4
  t5 := Try.underlying5
  a5 := Try.isAgg5
  z5 := Try.sizeOf5
  v5 := Try.zeroValue5
  t9 := Try.underlying9
  a9 := Try.isAgg9
  z9 := Try.sizeOf9
  v9 := Try.zeroValue9
  t22 := Try.underlying30
  a22 := Try.isAgg30
  z22 := Try.sizeOf30
  v22 := Try.zeroValue30
  t25 := Try.underlying130
  a25 := Try.isAgg130
  z25 := Try.sizeOf130
  v25 := Try.zeroValue130
  t39 := Try.underlying141
  a39 := Try.isAgg141
  z39 := Try.sizeOf141
  v39 := Try.zeroValue141
  t45 := Try.underlying159
  a45 := Try.isAgg159
  z45 := Try.sizeOf159
  v45 := Try.zeroValue159
  t46 := Try.underlying160
  a46 := Try.isAgg160
  z46 := Try.sizeOf160
  v46 := Try.zeroValue160
  t50 := Try.underlying41
  a50 := Try.isAgg41
  z50 := Try.sizeOf41
  v50 := Try.zeroValue41
  t53 := Try.underlying166
  a53 := Try.isAgg166
  z53 := Try.sizeOf166
  v53 := Try.zeroValue166
  t55 := Try.underlying79
  a55 := Try.isAgg79
  z55 := Try.sizeOf79
  v55 := Try.zeroValue79
  t66 := Try.underlying178
  a66 := Try.isAgg178
  z66 := Try.sizeOf178
  v66 := Try.zeroValue178
  t70 := Try.underlying182
  a70 := Try.isAgg182
  z70 := Try.sizeOf182
  v70 := Try.zeroValue182
  t76 := Try.underlying186
  a76 := Try.isAgg186
  z76 := Try.sizeOf186
  v76 := Try.zeroValue186
  t77 := Try.underlying100
  a77 := Try.isAgg100
  z77 := Try.sizeOf100
  v77 := Try.zeroValue100 }
end Go.Proofs
/- slices.SortFunc of routes, by the library's contract, in the words of the ledger. Conditions: at most 1048576 fibers of a route; one start. -/
namespace Go.Proofs.Ytfepilpllfiegaa
open Go.RowKit
theorem ordR_flip (fs : List Fib) (s : Int) (a b : List Int) : ordR fs s a s b = -ordR fs s b s a := by
  rw [ordR_eq, ordR_eq]
  have hf := cmpL_flip a b
  repeat' split
  all_goals omega
theorem ordR_same (fs : List Fib) (s : Int) (a : List Int) : ordR fs s a s a = 0 := by
  have := ordR_flip fs s a a
  omega
theorem leR_of_not {fs : List Fib} {s : Int} {a b : List Int} (h : ¬ ordR fs s b s a < 0) : leR fs s a b := by
  unfold leR
  have := ordR_flip fs s a b
  omega
/-- A route of the row that is sorted. -/
structure SRt (w : World) (base : Nat) (fs : List Fib) (blk : Nat) where
  sl : Sl
  ids : List Int
  own : Owns elInt w base 3 (slV sl) ids
  le : ids.length ≤ 1048576
  ok : ∀ x ∈ ids, 0 ≤ x ∧ x < fs.length
  far : ∀ g, (slV sl).ownBlock = some g → ¬ g = blk
section
variable {w : World} {base blk : Nat} {fs : List Fib} {s : Int}
def encS (s : Int) (x : SRt w base fs blk) : List Value := [.int .i64 s, slV x.sl]
def cfS (s : Int) (x y : SRt w base fs blk) : Int := ordR fs s x.ids s y.ids
theorem ltS (x y : SRt w base fs blk) : ltOf (cfS s) x y = true ↔ ¬ leR fs s y.ids x.ids := by
  unfold ltOf cfS leR
  rw [decide_eq_true_eq, ordR_flip fs s x.ids y.ids]
  omega
theorem ltS_f (x y : SRt w base fs blk) : ltOf (cfS s) x y = false ↔ leR fs s y.ids x.ids := by
  have := ltS (s := s) x y
  cases g : ltOf (cfS s) x y
  · rw [g] at this
    simp at this
    simpa using this
  · rw [g] at this
    simp at this
    simpa using this
theorem swoS : Go.Sort.SWO (ltOf (cfS (w := w) (base := base) (fs := fs) (blk := blk) s)) where
  irrefl x := by rw [ltS_f]; unfold leR; rw [ordR_same]; exact Int.le_refl _
  trans x y z h1 h2 := by
    rw [ltS] at *
    intro h
    exact h1 (leR_trans (leR_total h2) h)
  ntrans x y z h1 h2 := by
    rw [ltS_f] at *
    exact leR_trans h2 h1
end
section
variable {w : World} {base blk : Nat} {fs : List Fib} {s : Int} [Inhabited (SRt w base fs blk)]
theorem sort_touch (m : Nat) (dk : Array (SRt w base fs blk)) (os : Array Obj) : Touch (fun b => b = blk) w (sortWorldK (encS s) 2 w blk 0 m dk os) := by
  refine ⟨rfl, rfl, rfl, ?_, fun k hk hn => ?_⟩
  · simp [sortWorldK, Go.Sort.putRowK, Go.Sort.grow, Go.Sort.putRow, Go.Sort.mapBlock, Go.Sort.ahead]
  · have hk' : k < (w.heap.modify blk (Go.Sort.onCells (Go.Sort.putCells id 0 (Go.Sort.flatK (encS s) 2 dk)))).size := by simpa using hk
    show (w.heap.modify blk (Go.Sort.onCells (Go.Sort.putCells id 0 (Go.Sort.flatK (encS s) 2 dk))) ++ os)[k]? = _
    rw [Array.getElem?_append_left hk', Array.getElem?_modify, if_neg (fun e => hn e.symm)]
theorem sort_blk {T : TypeId} {cur : Array Value} (h : Blk w blk T cur) (m : Nat) (dk : Array (SRt w base fs blk)) (os : Array Obj) : ∃ cur', Blk (sortWorldK (encS s) 2 w blk 0 m dk os) blk T cur' ∧ cur'.size = cur.size ∧ ∀ k, k < dk.size → ∀ r, r < 2 → k * 2 + r < cur.size → cur'[k * 2 + r]? = some ((encS s dk[k]!)[r]!) := by
  refine ⟨Go.Sort.putCells id 0 (Go.Sort.flatK (encS s) 2 dk) cur, ?_, by simp [Go.Sort.putCells], fun k hk r hr hc => ?_⟩
  · unfold Blk at h ⊢
    have hb : blk < (w.heap.modify blk (Go.Sort.onCells (Go.Sort.putCells id 0 (Go.Sort.flatK (encS s) 2 dk)))).size := by
      have := (Array.getElem?_eq_some_iff.1 h).1
      simpa using this
    show (w.heap.modify blk (Go.Sort.onCells (Go.Sort.putCells id 0 (Go.Sort.flatK (encS s) 2 dk))) ++ os)[blk]? = _
    rw [Array.getElem?_append_left hb, Array.getElem?_modify, if_pos rfl, h]
    simp [Go.Sort.onCells]
  · unfold Go.Sort.putCells
    have hlt : k * 2 + r < dk.size * 2 := by omega
    rw [Array.getElem?_mapIdx, Array.getElem?_eq_getElem hc, Option.map_some, if_pos ⟨Nat.zero_le _, by rw [Go.Sort.size_flatK]; omega⟩, Nat.sub_zero, Go.Sort.get_flatK _ _ _ _ hlt]
    rw [show (k * 2 + r) / 2 = k by omega, show (k * 2 + r) % 2 = r by omega]
    rfl
end
section
variable {w0 w : World} {L : List Thing} {base n c nn cc m d gn : Nat} {A B B' : Option Addr} {ss : List (Int × Sl)} {rows : List (Int × List Int)} {xs : List ByteArray} {fs : List Fib} {s : Int}
theorem SRt.rtIs {g : Nat} {W : World} (x : SRt w base fs g) (ht : Touch (fun b => b = g) w W) : RtIs W x.sl.A x.ids.length x.sl.c x.ids ∧ x.sl.n = x.ids.length := by
  have ho : Owns elInt W base 3 (slV x.sl) x.ids := x.own.touch ht (fun g' hg' e => x.far g' hg' e)
  obtain ⟨A', c', hv, hc, _, hs⟩ := ho.form
  unfold slV at hv
  injection hv with e1 e2 e3
  refine ⟨⟨⟨by rw [e3]; exact hc, x.le⟩, ?_⟩, e2⟩
  rw [e1]
  exact hs
set_option maxHeartbeats 1000000 in
set_option maxRecDepth 100000 in
theorem sortRoutes_led (h : Led w0 w L) (i : Nat) (hi : L[i]? = some (tRS base (.slice A n c) ss rows)) (hbx : Blk w gn 27 #[.slice B nn cc, .slice B' m d]) (hgx : ∀ g, (Value.slice A n c).ownBlock = some g → gn ≠ g) (hn : NetIs w0 B nn cc B' m d xs fs) (hl : ∀ f ∈ fs, 0 ≤ f.len ∧ f.len ≤ 5000)
    (hr : ∀ r ∈ rows, r.1 = s ∧ r.2.length ≤ 1048576 ∧ ∀ x ∈ r.2, 0 ≤ x ∧ x < fs.length) (hnn : n ≤ 1099511627776) :
    Calls Try.prog 124 #[.slice A n c, .func (.func 125) #[] #[.pointer (some ⟨gn, 0, none⟩)]] w fun e w' => e = .returned (.tuple #[]) ∧
      ∃ ss' rows', rows'.Perm rows ∧ rows'.Pairwise (fun a b => leR fs s a.2 b.2) ∧ Led w0 w' (L.set i (tRS base (.slice A n c) ss' rows')) := by
  have hsn := rs_n h i hi
  have hrl := rs_rows h i hi
  have hO : OwnsRS w base (.slice A n c) ss rows := h.get i hi
  have hset : L.set i (tRS base (.slice A n c) ss rows) = L := by
    obtain ⟨hl2, he⟩ := List.getElem?_eq_some_iff.1 hi
    rw [← he]; exact List.set_getElem_self hl2
  rcases Nat.eq_zero_or_pos n with h0 | hpos
  · subst h0
    have hr0 : rows = [] := List.eq_nil_of_length_eq_zero hrl
    have hz := AnyF.slices_SortFunc_none Try.sortR A c (.func (.func 125) #[] #[.pointer (some ⟨gn, 0, none⟩)]) w
    refine Calls.mono hz ?_
    rintro e w' ⟨rfl, rfl⟩
    refine ⟨rfl, ss, rows, List.Perm.refl _, by rw [hr0]; exact List.Pairwise.nil, ?_⟩
    rw [hset]; exact h
  · rcases hO.1.cases with ⟨_, h0⟩ | ⟨g, c1, cur, hv, hbase, hblk, hnc, hcm, hcs, hfl⟩
    · rw [h0] at hsn; simp at hsn; omega
    · rw [hsn] at hv hnc hfl
      injection hv with e1 e2 e3
      subst e1
      subst e3
      have key : ∀ k : Nat, k < n → ∃ x : SRt w base fs g, ss[k]? = some (s, x.sl) ∧ rows[k]? = some (s, x.ids) := by
        intro k hk
        obtain ⟨r, hrk⟩ := get_of (k := k) hrl hk
        obtain ⟨t, htk⟩ := get_of (k := k) hsn hk
        obtain ⟨h1, h2⟩ := hO.2.2.1 k t r htk hrk
        obtain ⟨h3, h4, h5⟩ := hr r (List.mem_of_getElem? hrk)
        refine ⟨⟨t.2, r.2, h2, h4, h5, fun g' hg' e => ?_⟩, ?_, ?_⟩
        · exact owns_ne h2 hO.1 (by decide) g rfl (by rw [← e]; exact hg')
        · rw [htk, ← h3, ← h1]
        · rw [hrk, ← h3]
      obtain ⟨x0, _, _⟩ := key 0 hpos
      letI : Inhabited (SRt w base fs g) := ⟨x0⟩
      obtain ⟨f, hf⟩ := Go.Deep.choose_lt key
      obtain ⟨D, hD⟩ : ∃ D : Array (SRt w base fs g), D = ((List.range n).map f).toArray := ⟨_, rfl⟩
      have hDs : D.size = n := by rw [hD]; simp
      have hDl : D.toList = (List.range n).map f := by rw [hD]
      have hss : ss = D.toList.map fun x => (s, x.sl) := by
        refine List.ext_getElem? fun k => ?_
        rw [hDl, List.map_map, List.getElem?_map]
        rcases Nat.lt_or_ge k n with hk | hk
        · rw [List.getElem?_range hk, (hf k hk).1]; rfl
        · rw [List.getElem?_eq_none (by omega), List.getElem?_eq_none (by simp; omega)]; rfl
      have hrw : rows = D.toList.map fun x => (s, x.ids) := by
        refine List.ext_getElem? fun k => ?_
        rw [hDl, List.map_map, List.getElem?_map]
        rcases Nat.lt_or_ge k n with hk | hk
        · rw [List.getElem?_range hk, (hf k hk).2]; rfl
        · rw [List.getElem?_eq_none (by omega), List.getElem?_eq_none (by simp; omega)]; rfl
      have hH : Go.Sort.HoldsK (encS s) 2 w g 0 D := by
        intro t ht
        rw [Go.Sort.size_flatK] at ht
        refine ⟨?_, by rw [Nat.zero_add]; exact hblk.frozen t⟩
        rw [Nat.zero_add, Go.Sort.get_flatK _ _ _ _ ht]
        have hk : t / 2 < n := by omega
        have h1 := hfl (t / 2) _ hk (by rw [(hf (t / 2) hk).1])
        have hDk : D[t / 2]! = f (t / 2) := by rw [hD]; simp [hk]
        rw [hDk, hblk.cell]
        have h2 := h1 (t % 2)
        rcases Nat.lt_or_ge (t % 2) 1 with h3 | h3
        · have h4 : t % 2 = 0 := by omega
          have h5 := h2 (.int .i64 s) (by rw [h4]; rfl)
          rw [show t / 2 * elRt.sz + t % 2 = t by show t / 2 * 2 + t % 2 = t; omega] at h5
          rw [h5, h4]; rfl
        · have h4 : t % 2 = 1 := by omega
          have h5 := h2 (slV (f (t / 2)).sl) (by rw [h4]; rfl)
          rw [show t / 2 * elRt.sz + t % 2 = t by show t / 2 * 2 + t % 2 = t; omega] at h5
          rw [h5, h4]; rfl
      have hgn : gn ≠ g := hgx g rfl
      have hC : CmpLays Try.prog 125 #[.pointer (some ⟨gn, 0, none⟩)] (encS s) 2 (cfS (w := w) (base := base) (fs := fs) (blk := g) s) g 0 D.size w := by
        intro q os dk _ x y
        have ht := sort_touch (s := s) (blk := g) (w := w) q dk os
        obtain ⟨hx, hxn⟩ := x.rtIs ht
        obtain ⟨hy, hyn⟩ := y.rtIs ht
        have hbl : Below w0.heap.size w0 (sortWorldK (encS s) 2 w g 0 q dk os) := h.bl.trans (ht.below (B := w0.heap.size) (fun b e => by rw [e]; exact (h.all i _ hi).2 g (.inl rfl)) h.bl.size)
        have hbx2 := hbx.touch ht hgn
        have hc := routesCmp_grw (gn := gn) (s := s) (t := s) _ (hn.grow hbl) (fun i v hv => by rw [hbx2.cell]; exact hv) hx hy hl x.ok y.ok
        have e1 : (encS s x).toArray = #[.int .i64 s, .slice x.sl.A x.ids.length x.sl.c] := by unfold encS slV; rw [hxn]
        have e2 : (encS s y).toArray = #[.int .i64 s, .slice y.sl.A y.ids.length y.sl.c] := by unfold encS slV; rw [hyn]
        rw [e1, e2]
        exact hc
      have hcall := AnyQ.slices_SortFunc Try.sortR 2 Try.isAgg35 Try.sizeOf35 (encS s) (fun _ => rfl) (fun x v hv => by simp [encS] at hv; rcases hv with rfl | rfl <;> rfl) (cfS (w := w) (base := base) (fs := fs) (blk := g) s) swoS 125 #[.pointer (some ⟨gn, 0, none⟩)] g 0 c D w (fun _ _ => by rfl) hC hH hblk.lt (by omega)
      rw [hDs] at hcall
      refine Calls.mono hcall ?_
      rintro e w' ⟨rfl, d', q, os, hp, hsrt, rfl⟩
      have hsz : d'.size = n := by rw [hp.1, hDs]
      have hperm : d'.toList.Perm D.toList := by
        have h1 := hp.2.2
        rw [← hsz] at h1
        have h2 : d'.extract 0 d'.size = d' := by simp
        have h3 : D.extract 0 d'.size = D := by rw [hsz, ← hDs]; simp
        rw [h2, h3] at h1
        exact h1
      have hget : ∀ k, k < n → ∃ x : SRt w base fs g, d'.toList[k]? = some x ∧ d'[k]! = x ∧ x ∈ D.toList := by
        intro k hk
        have hk2 : k < d'.size := by omega
        refine ⟨d'[k], by simp [hk2], by simp [hk2], hperm.mem_iff.1 (by simp)⟩
      have ht := sort_touch (s := s) (blk := g) (w := w) q d' os
      obtain ⟨cur', hblk', hcs', hcur⟩ := sort_blk (s := s) hblk q d' os
      have hdl : d'.toList.length = n := by simp [hsz]
      refine ⟨rfl, d'.toList.map fun x => (s, x.sl), d'.toList.map fun x => (s, x.ids), ?_, ?_, ?_⟩
      · rw [hrw]; exact hperm.map _
      · rw [List.pairwise_map, List.pairwise_iff_getElem]
        intro a b ha hb hab
        have ha' : a < n := by omega
        have hb' : b < n := by omega
        have h1 := hsrt a b (Nat.zero_le _) hab hb'
        rw [ltS_f] at h1
        have e1 : d'[a]! = d'.toList[a] := by simp [hsz, ha']
        have e2 : d'[b]! = d'.toList[b] := by simp [hsz, hb']
        rw [e1, e2] at h1
        exact h1
      · have hS : rsS (.slice (some ⟨g, 0, none⟩) n c) (d'.toList.map fun x => (s, x.sl)) = rsS (.slice (some ⟨g, 0, none⟩) n c) ss := by
          funext b
          apply propext
          have hm : ∀ t : Int × Sl, t ∈ (d'.toList.map fun x => (s, x.sl)) ↔ t ∈ ss := fun t => by rw [hss]; exact (hperm.map _).mem_iff
          unfold rsS
          constructor
          · rintro (e | ⟨i, t, hti, e⟩)
            · exact .inl e
            · obtain ⟨i', hi'⟩ := List.getElem?_of_mem ((hm t).1 (List.mem_of_getElem? hti))
              exact .inr ⟨i', t, hi', e⟩
          · rintro (e | ⟨i, t, hti, e⟩)
            · exact .inl e
            · obtain ⟨i', hi'⟩ := List.getElem?_of_mem ((hm t).2 (List.mem_of_getElem? hti))
              exact .inr ⟨i', t, hi', e⟩
        refine h.touch i hi hS (ht.mono fun b hb => .inl (by rw [hb]; rfl)) ?_
        refine ⟨?_, by simp, fun k t r h1 h2 => ?_, fun a b t t' g' hab h1 h2 h3 h4 => ?_⟩
        · refine Owns.of_blk hblk' hbase (by rw [List.length_map, hdl]) hnc (by rw [hcs', hcs]) hcm (fun k t hk htk i u hu => ?_)
          obtain ⟨x, hx1, hx2, _⟩ := hget k hk
          rw [List.getElem?_map, hx1] at htk
          injection htk with htk
          subst htk
          have hi2 : i < 2 := by have := (List.getElem?_eq_some_iff.1 hu).1; rw [elRt.len] at this; exact this
          have hcc : cur.size = c * 2 := hcs
          have h3 := hcur k (by omega) i hi2 (by omega)
          rw [hx2] at h3
          show cur'[k * 2 + i]? = some u
          rw [h3]
          have hu' : (encS s x)[i]? = some u := hu
          congr 1
          rw [List.getElem!_eq_getElem?_getD, hu']
          rfl
        · have hk : k < n := by have := (List.getElem?_eq_some_iff.1 h1).1; rw [List.length_map, hdl] at this; exact this
          obtain ⟨x, hx1, _, _⟩ := hget k hk
          rw [List.getElem?_map, hx1] at h1 h2
          injection h1 with h1
          injection h2 with h2
          subst h1
          subst h2
          exact ⟨rfl, x.own.touch ht (fun g' hg' e => x.far g' hg' e)⟩
        · have hP : D.toList.Pairwise fun x y => ∀ g', (slV x.sl).ownBlock = some g' → ¬ (slV y.sl).ownBlock = some g' := by
            rw [List.pairwise_iff_getElem]
            intro a b ha hb hab g' e1 e2
            have ea : ss[a]? = some (s, D.toList[a].sl) := by rw [hss, List.getElem?_map, List.getElem?_eq_getElem ha]; rfl
            have eb : ss[b]? = some (s, D.toList[b].sl) := by rw [hss, List.getElem?_map, List.getElem?_eq_getElem hb]; rfl
            exact hO.2.2.2 a b _ _ g' hab ea eb e1 e2
          have hP2 := hP.perm hperm.symm (fun {x y} hxy g' e1 e2 => hxy g' e2 e1)
          rw [List.pairwise_iff_getElem] at hP2
          rw [List.getElem?_map] at h1 h2
          obtain ⟨x, hx1, hx2⟩ := Option.map_eq_some_iff.1 h1
          obtain ⟨y, hy1, hy2⟩ := Option.map_eq_some_iff.1 h2
          subst hx2
          subst hy2
          obtain ⟨ha, ea⟩ := List.getElem?_eq_some_iff.1 hx1
          obtain ⟨hb, eb⟩ := List.getElem?_eq_some_iff.1 hy1
          have := hP2 a b ha hb hab g'
          rw [ea, eb] at this
          exact this h3 h4
end
end Go.Proofs.Ytfepilpllfiegaa
/- Routes put one after another each at its place: a sorted list, in plain Lean. Conditions: none. -/
namespace Go.Proofs.Ytfepilpllfiegaa
open Go.RowKit
section
variable {fs : List Fib} {s : Int}
/-- The place of a route among the first k. -/
def plcR (fs : List Fib) (s : Int) (l : List (List Int)) (r : List Int) : Nat → Nat
  | 0 => 0
  | k + 1 => if ordR fs s r s (l.getD k []) < 0 then plcR fs s l r k else k + 1
def insR (fs : List Fib) (s : Int) (l : List (List Int)) (r : List Int) : List (List Int) := putAt l (plcR fs s l r l.length) r
theorem plcR_le (l : List (List Int)) (r : List Int) : ∀ k, plcR fs s l r k ≤ k := by
  intro k
  induction k with
  | zero => exact Nat.le_refl _
  | succ k ih =>
    rw [plcR]
    split
    · omega
    · exact Nat.le_refl _
theorem plcR_back (l : List (List Int)) (r : List Int) : ∀ k j e, k ≤ l.length → plcR fs s l r k ≤ j → j < k → l[j]? = some e → leR fs s r e := by
  intro k
  induction k with
  | zero => intro j e _ _ h; omega
  | succ k ih =>
    intro j e hk hj hjk he
    rw [plcR] at hj
    split at hj
    · rename_i hlt
      rcases Nat.lt_or_ge j k with h | h
      · exact ih j e (by omega) hj h he
      · have : j = k := by omega
        subst this
        have hd : l.getD j [] = e := by rw [List.getD_eq_getElem?_getD, he]; rfl
        rw [hd] at hlt
        unfold leR; omega
    · omega
theorem plcR_front (l : List (List Int)) (r : List Int) : ∀ k, k ≤ l.length → plcR fs s l r k = 0 ∨ ∃ e, l[plcR fs s l r k - 1]? = some e ∧ leR fs s e r := by
  intro k
  induction k with
  | zero => intro _; exact .inl rfl
  | succ k ih =>
    intro hk
    rw [plcR]
    split
    · exact ih (by omega)
    · rename_i hlt
      have hkl : k < l.length := hk
      refine .inr ⟨l[k], by simp [hkl], ?_⟩
      have hd : l.getD k [] = l[k] := by rw [List.getD_eq_getElem?_getD, List.getElem?_eq_getElem hkl]; rfl
      rw [hd] at hlt
      exact leR_of_not hlt
theorem insR_len (l : List (List Int)) (r : List Int) : (insR fs s l r).length = l.length + 1 := putAt_len _ _ _
theorem insR_perm (l : List (List Int)) (r : List Int) : (insR fs s l r).Perm (r :: l) := putAt_perm _ _ _
theorem insR_sorted (l : List (List Int)) (r : List Int) (h : l.Pairwise (leR fs s)) : (insR fs s l r).Pairwise (leR fs s) :=
  place_ok (fun _ _ _ => leR_trans) h (plcR_le l r _) (fun j e hj he => plcR_back l r l.length j e (Nat.le_refl _) hj (List.getElem?_eq_some_iff.1 he).1 he) (plcR_front l r l.length (Nat.le_refl _))
/-- All routes, sorted. -/
def srtR (fs : List Fib) (s : Int) (D : List (List Int)) : List (List Int) := D.foldl (insR fs s) []
theorem srtR_ok (D : List (List Int)) : (srtR fs s D).Pairwise (leR fs s) ∧ (srtR fs s D).Perm D := by
  have h := fold_put (le := leR fs s) (ins := insR fs s) insR_perm insR_sorted D [] List.Pairwise.nil
  rw [List.append_nil] at h
  exact h
/-- Whoever sorted them. -/
theorem srtR_one {D l : List (List Int)} (h1 : l.Pairwise (leR fs s)) (h2 : l.Perm D) : l = srtR fs s D :=
  sorted_one (fun _ _ => leR_anti) h1 (srtR_ok D).1 (h2.trans (srtR_ok D).2.symm)
theorem srtR_rows {D : List (List Int)} {rows : List (Int × List Int)} (h1 : rows.Pairwise (fun a b => leR fs s a.2 b.2)) (h2 : rows.Perm (D.map fun r => (s, r))) : rows = (srtR fs s D).map fun r => (s, r) := by
  have h3 : rows.map (·.2) = srtR fs s D := by
    refine srtR_one ?_ ?_
    · rw [List.pairwise_map]; exact h1
    · have := h2.map (·.2)
      rw [List.map_map] at this
      have e : ((fun x : Int × List Int => x.2) ∘ fun r : List Int => (s, r)) = id := rfl
      rw [e, List.map_id] at this
      exact this
  have h4 : ∀ a ∈ rows, a.1 = s := fun a ha => by
    obtain ⟨r, _, rfl⟩ := List.mem_map.1 (h2.mem_iff.1 ha)
    rfl
  rw [← h3, List.map_map]
  have : rows.map ((fun r : List Int => (s, r)) ∘ fun x : Int × List Int => x.2) = rows.map id := by
    refine List.map_congr_left fun a ha => ?_
    show (s, a.2) = a
    rw [← h4 a ha]
  rw [this, List.map_id]
end
end Go.Proofs.Ytfepilpllfiegaa
