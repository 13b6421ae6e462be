/- The engine's rows for the types of this program. -/
import Derived.Test.YtimmmhfcfocjdaaEngN
import Derived.Test.YtimmmhfcfocjdaaProg
set_option linter.unusedSimpArgs false
set_option linter.unusedVariables false
namespace Go.Proofs.Ytimmmhfcfocjdaa
open Go.RowKit
set_option maxRecDepth 100000

theorem tl0 : TL Try.prog 0 = { ok := true, size := 1 } := by kernel_rfl
theorem tl1 : TL Try.prog 1 = { ok := true, size := 1, bytes := 8 } := by kernel_rfl
theorem tl2 : TL Try.prog 2 = { ok := true, size := 1, bytes := 8, ik := some IntKind.i64, zero := some [AV.d (D.int IntKind.i64 (0))] } := by kernel_rfl
theorem tl3 : TL Try.prog 3 = { ok := true, size := 1, bytes := 8, ik := some IntKind.i64, zero := some [AV.d (D.int IntKind.i64 (0))] } := by kernel_rfl
theorem tl4 : TL Try.prog 4 = { ok := true, size := 1, bytes := 1, zero := some [AV.d (D.bool false)] } := by kernel_rfl
theorem tl5 : TL Try.prog 5 = { ok := true, size := 1, bytes := 1, ik := some IntKind.u8, zero := some [AV.d (D.int IntKind.u8 (0))] } := by kernel_rfl
theorem tl6 : TL Try.prog 6 = { ok := true, size := 1, bytes := 1, ik := some IntKind.u8, zero := some [AV.d (D.int IntKind.u8 (0))] } := by kernel_rfl
theorem tl7 : TL Try.prog 7 = { ok := true, size := 4, bytes := 24, agg := true, ofs := [0, 1, 2, 3], osz := [1, 1, 1, 1], oagg := [some false, some false, some false, some false], pls := some [(0, 1), (1, 1), (2, 1), (3, 1)], zero := some [AV.d (D.int IntKind.i64 (0)), AV.d (D.int IntKind.i64 (0)), AV.d (D.bool false), AV.d (D.int IntKind.u8 (0))] } := by kernel_rfl
theorem tl8 : TL Try.prog 8 = { ok := true, size := 4, bytes := 24, agg := true, ofs := [0, 1, 2, 3], osz := [1, 1, 1, 1], oagg := [some false, some false, some false, some false], pls := some [(0, 1), (1, 1), (2, 1), (3, 1)], zero := some [AV.d (D.int IntKind.i64 (0)), AV.d (D.int IntKind.i64 (0)), AV.d (D.bool false), AV.d (D.int IntKind.u8 (0))] } := by kernel_rfl
theorem tl9 : TL Try.prog 9 = { ok := true, size := 1, bytes := 16 } := by kernel_rfl
theorem tl10 : TL Try.prog 10 = { ok := true, size := 1, bytes := 16 } := by kernel_rfl
theorem tl11 : TL Try.prog 11 = { ok := true, size := 1, bytes := 16 } := by kernel_rfl
theorem tl12 : TL Try.prog 12 = { ok := true, size := 1, bytes := 8, ik := some IntKind.u64, zero := some [AV.d (D.int IntKind.u64 (0))] } := by kernel_rfl
theorem tl13 : TL Try.prog 13 = { ok := true, size := 2, bytes := 24, agg := true, ofs := [0, 1], osz := [1, 1], oagg := [some false, some false], pls := some [(0, 1), (1, 1)] } := by kernel_rfl
theorem tl14 : TL Try.prog 14 = { ok := true, size := 2, bytes := 24, agg := true, ofs := [0, 1], osz := [1, 1], oagg := [some false, some false], pls := some [(0, 1), (1, 1)] } := by kernel_rfl
theorem tl15 : TL Try.prog 15 = { ok := true, size := 1, bytes := 8, zero := some [AV.nilp] } := by kernel_rfl
theorem tl16 : TL Try.prog 16 = { ok := true, size := 1, bytes := 8, zero := some [AV.nilp] } := by kernel_rfl
theorem tl17 : TL Try.prog 17 = { ok := true, size := 1, bytes := 8, zero := some [AV.nilp] } := by kernel_rfl
theorem tl18 : TL Try.prog 18 = { ok := true, size := 1, bytes := 8, agg := true, ofs := [0], osz := [1], oagg := [some false], pls := some [(0, 1)], zero := some [AV.nilp] } := by kernel_rfl
theorem tl19 : TL Try.prog 19 = { ok := true, size := 1, bytes := 8, agg := true, ofs := [0], osz := [1], oagg := [some false], pls := some [(0, 1)], zero := some [AV.nilp] } := by kernel_rfl
theorem tl20 : TL Try.prog 20 = { ok := true, size := 1, bytes := 16 } := by kernel_rfl
theorem tl21 : TL Try.prog 21 = { ok := true, size := 1, bytes := 4, ik := some IntKind.i32, zero := some [AV.d (D.int IntKind.i32 (0))] } := by kernel_rfl
theorem tl22 : TL Try.prog 22 = { ok := true, size := 1, bytes := 8, ik := some IntKind.i64, zero := some [AV.d (D.int IntKind.i64 (0))] } := by kernel_rfl
theorem tl23 : TL Try.prog 23 = { ok := true, size := 1 } := by kernel_rfl
theorem tl24 : TL Try.prog 24 = { ok := true, size := 1, bytes := 8 } := by kernel_rfl
theorem tl25 : TL Try.prog 25 = { ok := true, size := 1, bytes := 8 } := by kernel_rfl
theorem tl26 : TL Try.prog 26 = { ok := true, size := 1, bytes := 8 } := by kernel_rfl
theorem tl27 : TL Try.prog 27 = { ok := true, size := 1, bytes := 8 } := by kernel_rfl
theorem tl28 : TL Try.prog 28 = { ok := true, size := 2, bytes := 16, agg := true, ofs := [0, 1], osz := [1, 1], oagg := [some false, some false], pls := some [(0, 1), (1, 1)], zero := some [AV.d (D.int IntKind.i64 (0)), AV.d (D.int IntKind.u8 (0))] } := by kernel_rfl
theorem tl29 : TL Try.prog 29 = { ok := true, size := 2, bytes := 16, agg := true, ofs := [0, 1], osz := [1, 1], oagg := [some false, some false], pls := some [(0, 1), (1, 1)], zero := some [AV.d (D.int IntKind.i64 (0)), AV.d (D.int IntKind.u8 (0))] } := by kernel_rfl
theorem tl30 : TL Try.prog 30 = { ok := true, size := 1 } := by kernel_rfl
theorem tl31 : TL Try.prog 31 = { ok := true, size := 1, bytes := 8 } := by kernel_rfl
theorem tl32 : TL Try.prog 32 = { ok := true, size := 1, bytes := 8 } := by kernel_rfl
theorem tl33 : TL Try.prog 33 = { ok := true, size := 1 } := by kernel_rfl
theorem tl34 : TL Try.prog 34 = { ok := true, size := 1, bytes := 8 } := by kernel_rfl
theorem tl35 : TL Try.prog 35 = { ok := true, size := 1, bytes := 8 } := by kernel_rfl
theorem tl36 : TL Try.prog 36 = { ok := true, size := 1 } := by kernel_rfl
theorem tl37 : TL Try.prog 37 = { ok := true, size := 1, bytes := 8 } := by kernel_rfl
theorem tl38 : TL Try.prog 38 = { ok := true, size := 1, bytes := 24, selem := some 3, zero := some [AV.nil] } := by kernel_rfl
theorem tl39 : TL Try.prog 39 = { ok := true, size := 1 } := by kernel_rfl
theorem tl40 : TL Try.prog 40 = { ok := true, size := 1, bytes := 8 } := by kernel_rfl
theorem tl41 : TL Try.prog 41 = { ok := true, size := 1, bytes := 8 } := by kernel_rfl
theorem tl42 : TL Try.prog 42 = { ok := true, size := 1, bytes := 8 } := by kernel_rfl
theorem tl43 : TL Try.prog 43 = { ok := true, size := 1, bytes := 8 } := by kernel_rfl
theorem tl44 : TL Try.prog 44 = { ok := true, size := 1, bytes := 24, selem := some 29, zero := some [AV.nil] } := by kernel_rfl
theorem tl45 : TL Try.prog 45 = { ok := true, size := 1 } := by kernel_rfl
theorem tl46 : TL Try.prog 46 = { ok := true, size := 1, bytes := 8 } := by kernel_rfl
theorem tl47 : TL Try.prog 47 = { ok := true, size := 1, bytes := 8 } := by kernel_rfl
theorem tl48 : TL Try.prog 48 = { ok := true, size := 1, bytes := 8 } := by kernel_rfl
theorem tl49 : TL Try.prog 49 = { ok := true, size := 1, bytes := 8 } := by kernel_rfl
theorem tl50 : TL Try.prog 50 = { ok := true, size := 1, bytes := 8 } := by kernel_rfl
theorem tl51 : TL Try.prog 51 = { ok := true, size := 1, bytes := 8, ik := some IntKind.i64, zero := some [AV.d (D.int IntKind.i64 (0))] } := by kernel_rfl
theorem tl52 : TL Try.prog 52 = { ok := true, size := 1, bytes := 8 } := by kernel_rfl
theorem tl53 : TL Try.prog 53 = { ok := true, size := 1, bytes := 8 } := by kernel_rfl
theorem tl54 : TL Try.prog 54 = { ok := true, size := 1, bytes := 8 } := by kernel_rfl
theorem tl55 : TL Try.prog 55 = { ok := true, size := 1, bytes := 8, ik := some IntKind.u64, zero := some [AV.d (D.int IntKind.u64 (0))] } := by kernel_rfl
theorem tl56 : TL Try.prog 56 = { ok := true, size := 1, bytes := 8 } := by kernel_rfl
theorem tl57 : TL Try.prog 57 = { ok := true, size := 1, bytes := 8 } := by kernel_rfl
theorem tl58 : TL Try.prog 58 = { ok := true, size := 1, bytes := 8 } := by kernel_rfl
theorem tl59 : TL Try.prog 59 = { ok := true, size := 1, bytes := 8 } := by kernel_rfl
theorem tl60 : TL Try.prog 60 = { ok := true, size := 4, bytes := 40, agg := true, ofs := [0, 1, 2, 3], osz := [1, 1, 1, 1], oagg := [some false, some false, some false, some false], pls := some [(0, 1), (1, 1), (2, 1), (3, 1)] } := by kernel_rfl
theorem tl61 : TL Try.prog 61 = { ok := true, size := 4, bytes := 40, agg := true, ofs := [0, 1, 2, 3], osz := [1, 1, 1, 1], oagg := [some false, some false, some false, some false], pls := some [(0, 1), (1, 1), (2, 1), (3, 1)] } := by kernel_rfl
theorem tl62 : TL Try.prog 62 = { ok := true, agg := true, aelem := some (0, 16), zero := some [] } := by kernel_rfl
theorem tl63 : TL Try.prog 63 = { ok := true, agg := true, ofs := [0], osz := [0], oagg := [some true], pls := some [(0, 0)], zero := some [] } := by kernel_rfl
theorem tl64 : TL Try.prog 64 = { ok := true, agg := true, ofs := [0], osz := [0], oagg := [some true], pls := some [(0, 0)], zero := some [] } := by kernel_rfl
theorem tl65 : TL Try.prog 65 = { ok := true, size := 1, bytes := 8 } := by kernel_rfl
theorem tl66 : TL Try.prog 66 = { ok := true, size := 1, bytes := 4, ik := some IntKind.u32, zero := some [AV.d (D.int IntKind.u32 (0))] } := by kernel_rfl
theorem tl67 : TL Try.prog 67 = { ok := true, size := 1, bytes := 1, ik := some IntKind.u8, zero := some [AV.d (D.int IntKind.u8 (0))] } := by kernel_rfl
theorem tl68 : TL Try.prog 68 = { ok := true, size := 1, bytes := 1, ik := some IntKind.u8, zero := some [AV.d (D.int IntKind.u8 (0))] } := by kernel_rfl
theorem tl69 : TL Try.prog 69 = { ok := true, size := 1, bytes := 8 } := by kernel_rfl
theorem tl70 : TL Try.prog 70 = { ok := true, size := 1, bytes := 8, zero := some [AV.nilp] } := by kernel_rfl
theorem tl71 : TL Try.prog 71 = { ok := true, size := 1, bytes := 4, ik := some IntKind.i32, zero := some [AV.d (D.int IntKind.i32 (0))] } := by kernel_rfl
theorem tl72 : TL Try.prog 72 = { ok := true, size := 1, bytes := 4, ik := some IntKind.i32, zero := some [AV.d (D.int IntKind.i32 (0))] } := by kernel_rfl
theorem tl73 : TL Try.prog 73 = { ok := true, size := 11, bytes := 48, agg := true, ofs := [0, 1, 2, 3, 4, 5, 6, 7, 8, 9, 10], osz := [1, 1, 1, 1, 1, 1, 1, 1, 1, 1, 1], oagg := [some false, some false, some false, some false, some false, some false, some false, some false, some false, some false, some false], pls := some [(0, 1), (1, 1), (2, 1), (3, 1), (4, 1), (5, 1), (6, 1), (7, 1), (8, 1), (9, 1), (10, 1)] } := by kernel_rfl
theorem tl74 : TL Try.prog 74 = { ok := true, size := 11, bytes := 48, agg := true, ofs := [0, 1, 2, 3, 4, 5, 6, 7, 8, 9, 10], osz := [1, 1, 1, 1, 1, 1, 1, 1, 1, 1, 1], oagg := [some false, some false, some false, some false, some false, some false, some false, some false, some false, some false, some false], pls := some [(0, 1), (1, 1), (2, 1), (3, 1), (4, 1), (5, 1), (6, 1), (7, 1), (8, 1), (9, 1), (10, 1)] } := by kernel_rfl
theorem tl75 : TL Try.prog 75 = { ok := true, size := 1, bytes := 8, zero := some [AV.nilp] } := by kernel_rfl
attribute [go_sem] tl0 tl1 tl2 tl3 tl4 tl5 tl6 tl7 tl8 tl9 tl10 tl11 tl12 tl13 tl14 tl15 tl16 tl17 tl18 tl19 tl20 tl21 tl22 tl23 tl24 tl25 tl26 tl27 tl28 tl29 tl30 tl31 tl32 tl33 tl34 tl35 tl36 tl37 tl38 tl39 tl40 tl41 tl42 tl43 tl44 tl45 tl46 tl47 tl48 tl49 tl50 tl51 tl52 tl53 tl54 tl55 tl56 tl57 tl58 tl59 tl60 tl61 tl62 tl63 tl64 tl65 tl66 tl67 tl68 tl69 tl70 tl71 tl72 tl73 tl74 tl75
end Go.Proofs.Ytimmmhfcfocjdaa
