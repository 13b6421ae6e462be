/- The engine's rows for the types of this program. -/
import Derived.Test.YtokocigmchfdfaaEngN
import Derived.Test.YtokocigmchfdfaaProg
set_option linter.unusedSimpArgs false
set_option linter.unusedVariables false
namespace Go.Proofs.Ytokocigmchfdfaa
open Go.RowKit
set_option maxRecDepth 100000

theorem tl0 : TL Try.prog 0 = { ok := true, size := 1 } := by kernel_rfl
theorem tl1 : TL Try.prog 1 = { ok := true, size := 1, bytes := 8 } := by kernel_rfl
theorem tl2 : TL Try.prog 2 = { ok := true, size := 1, bytes := 8, ik := some IntKind.i64, zero := some [AV.d (D.int IntKind.i64 (0))] } := by kernel_rfl
theorem tl3 : TL Try.prog 3 = { ok := true, size := 1, bytes := 8, ik := some IntKind.i64, zero := some [AV.d (D.int IntKind.i64 (0))] } := by kernel_rfl
theorem tl4 : TL Try.prog 4 = { ok := true, size := 1, bytes := 1, zero := some [AV.d (D.bool false)] } := by kernel_rfl
theorem tl5 : TL Try.prog 5 = { ok := true, size := 1, bytes := 1, ik := some IntKind.u8, zero := some [AV.d (D.int IntKind.u8 (0))] } := by kernel_rfl
theorem tl6 : TL Try.prog 6 = { ok := true, size := 1, bytes := 1, ik := some IntKind.u8, zero := some [AV.d (D.int IntKind.u8 (0))] } := by kernel_rfl
theorem tl7 : TL Try.prog 7 = { ok := true, size := 4, bytes := 24, agg := true, ofs := [0, 1, 2, 3], osz := [1, 1, 1, 1], oagg := [some false, some false, some false, some false], pls := some [(0, 1), (1, 1), (2, 1), (3, 1)], zero := some [AV.d (D.int IntKind.i64 (0)), AV.d (D.int IntKind.i64 (0)), AV.d (D.bool false), AV.d (D.int IntKind.u8 (0))] } := by kernel_rfl
theorem tl8 : TL Try.prog 8 = { ok := true, size := 4, bytes := 24, agg := true, ofs := [0, 1, 2, 3], osz := [1, 1, 1, 1], oagg := [some false, some false, some false, some false], pls := some [(0, 1), (1, 1), (2, 1), (3, 1)], zero := some [AV.d (D.int IntKind.i64 (0)), AV.d (D.int IntKind.i64 (0)), AV.d (D.bool false), AV.d (D.int IntKind.u8 (0))] } := by kernel_rfl
theorem tl9 : TL Try.prog 9 = { ok := true, size := 1, bytes := 16 } := by kernel_rfl
theorem tl10 : TL Try.prog 10 = { ok := true, size := 1, bytes := 16 } := by kernel_rfl
theorem tl11 : TL Try.prog 11 = { ok := true, size := 1, bytes := 16 } := by kernel_rfl
theorem tl12 : TL Try.prog 12 = { ok := true, size := 1, bytes := 8, ik := some IntKind.u64, zero := some [AV.d (D.int IntKind.u64 (0))] } := by kernel_rfl
theorem tl13 : TL Try.prog 13 = { ok := true, size := 2, bytes := 24, agg := true, ofs := [0, 1], osz := [1, 1], oagg := [some false, some false], pls := some [(0, 1), (1, 1)] } := by kernel_rfl
theorem tl14 : TL Try.prog 14 = { ok := true, size := 2, bytes := 24, agg := true, ofs := [0, 1], osz := [1, 1], oagg := [some false, some false], pls := some [(0, 1), (1, 1)] } := by kernel_rfl
theorem tl15 : TL Try.prog 15 = { ok := true, size := 1, bytes := 8, zero := some [AV.nilp] } := by kernel_rfl
theorem tl16 : TL Try.prog 16 = { ok := true, size := 1, bytes := 8, zero := some [AV.nilp] } := by kernel_rfl
theorem tl17 : TL Try.prog 17 = { ok := true, size := 1, bytes := 8, zero := some [AV.nilp] } := by kernel_rfl
theorem tl18 : TL Try.prog 18 = { ok := true, size := 1, bytes := 8, agg := true, ofs := [0], osz := [1], oagg := [some false], pls := some [(0, 1)], zero := some [AV.nilp] } := by kernel_rfl
theorem tl19 : TL Try.prog 19 = { ok := true, size := 1, bytes := 8, agg := true, ofs := [0], osz := [1], oagg := [some false], pls := some [(0, 1)], zero := some [AV.nilp] } := by kernel_rfl
theorem tl20 : TL Try.prog 20 = { ok := true, size := 1, bytes := 16 } := by kernel_rfl
theorem tl21 : TL Try.prog 21 = { ok := true, size := 1, bytes := 4, ik := some IntKind.i32, zero := some [AV.d (D.int IntKind.i32 (0))] } := by kernel_rfl
theorem tl22 : TL Try.prog 22 = { ok := true, size := 1, bytes := 24, selem := some 38, zero := some [AV.nil] } := by kernel_rfl
theorem tl23 : TL Try.prog 23 = { ok := true, size := 1, bytes := 8 } := by kernel_rfl
theorem tl24 : TL Try.prog 24 = { ok := true, size := 1, bytes := 8 } := by kernel_rfl
theorem tl25 : TL Try.prog 25 = { ok := true, size := 1, bytes := 8, ik := some IntKind.i64, zero := some [AV.d (D.int IntKind.i64 (0))] } := by kernel_rfl
theorem tl26 : TL Try.prog 26 = { ok := true, size := 1 } := by kernel_rfl
theorem tl27 : TL Try.prog 27 = { ok := true, size := 1, bytes := 8 } := by kernel_rfl
theorem tl28 : TL Try.prog 28 = { ok := true, size := 1, bytes := 8 } := by kernel_rfl
theorem tl29 : TL Try.prog 29 = { ok := true, size := 1 } := by kernel_rfl
theorem tl30 : TL Try.prog 30 = { ok := true, size := 1, bytes := 8 } := by kernel_rfl
theorem tl31 : TL Try.prog 31 = { ok := true, size := 1, bytes := 24, selem := some 57, zero := some [AV.nil] } := by kernel_rfl
theorem tl32 : TL Try.prog 32 = { ok := true, size := 1 } := by kernel_rfl
theorem tl33 : TL Try.prog 33 = { ok := true, size := 1, bytes := 8 } := by kernel_rfl
theorem tl34 : TL Try.prog 34 = { ok := true, size := 1, bytes := 8 } := by kernel_rfl
theorem tl35 : TL Try.prog 35 = { ok := true, size := 1, bytes := 8 } := by kernel_rfl
theorem tl36 : TL Try.prog 36 = { ok := true, size := 1, bytes := 8 } := by kernel_rfl
theorem tl37 : TL Try.prog 37 = { ok := true, size := 2, bytes := 16, agg := true, ofs := [0, 1], osz := [1, 1], oagg := [some false, some false], pls := some [(0, 1), (1, 1)], zero := some [AV.d (D.int IntKind.i64 (0)), AV.d (D.int IntKind.u8 (0))] } := by kernel_rfl
theorem tl38 : TL Try.prog 38 = { ok := true, size := 2, bytes := 16, agg := true, ofs := [0, 1], osz := [1, 1], oagg := [some false, some false], pls := some [(0, 1), (1, 1)], zero := some [AV.d (D.int IntKind.i64 (0)), AV.d (D.int IntKind.u8 (0))] } := by kernel_rfl
theorem tl39 : TL Try.prog 39 = { ok := true, size := 1, bytes := 8 } := by kernel_rfl
theorem tl40 : TL Try.prog 40 = { ok := true, size := 1, bytes := 8 } := by kernel_rfl
theorem tl41 : TL Try.prog 41 = { ok := true, size := 1 } := by kernel_rfl
theorem tl42 : TL Try.prog 42 = { ok := true, size := 1, bytes := 8 } := by kernel_rfl
theorem tl43 : TL Try.prog 43 = { ok := true, size := 1, bytes := 8 } := by kernel_rfl
theorem tl44 : TL Try.prog 44 = { ok := true, size := 1, bytes := 24, selem := some 3, zero := some [AV.nil] } := by kernel_rfl
theorem tl45 : TL Try.prog 45 = { ok := true, size := 1, bytes := 8 } := by kernel_rfl
theorem tl46 : TL Try.prog 46 = { ok := true, size := 1 } := by kernel_rfl
theorem tl47 : TL Try.prog 47 = { ok := true, size := 1, bytes := 8 } := by kernel_rfl
theorem tl48 : TL Try.prog 48 = { ok := true, size := 1, bytes := 8 } := by kernel_rfl
theorem tl49 : TL Try.prog 49 = { ok := true, size := 1 } := by kernel_rfl
theorem tl50 : TL Try.prog 50 = { ok := true, size := 1, bytes := 8 } := by kernel_rfl
theorem tl51 : TL Try.prog 51 = { ok := true, size := 1 } := by kernel_rfl
theorem tl52 : TL Try.prog 52 = { ok := true, size := 1, bytes := 8 } := by kernel_rfl
theorem tl53 : TL Try.prog 53 = { ok := true, size := 1 } := by kernel_rfl
theorem tl54 : TL Try.prog 54 = { ok := true, size := 1, bytes := 8 } := by kernel_rfl
theorem tl55 : TL Try.prog 55 = { ok := true, size := 1, bytes := 8 } := by kernel_rfl
theorem tl56 : TL Try.prog 56 = { ok := true, size := 2, bytes := 16, agg := true, ofs := [0, 1], osz := [1, 1], oagg := [some false, some false], pls := some [(0, 1), (1, 1)], zero := some [AV.d (D.int IntKind.i64 (0)), AV.d (D.int IntKind.i64 (0))] } := by kernel_rfl
theorem tl57 : TL Try.prog 57 = { ok := true, size := 2, bytes := 16, agg := true, ofs := [0, 1], osz := [1, 1], oagg := [some false, some false], pls := some [(0, 1), (1, 1)], zero := some [AV.d (D.int IntKind.i64 (0)), AV.d (D.int IntKind.i64 (0))] } := by kernel_rfl
theorem tl58 : TL Try.prog 58 = { ok := true, size := 1, bytes := 8 } := by kernel_rfl
theorem tl59 : TL Try.prog 59 = { ok := true, size := 1, bytes := 8 } := by kernel_rfl
theorem tl60 : TL Try.prog 60 = { ok := true, size := 1, bytes := 8 } := by kernel_rfl
theorem tl61 : TL Try.prog 61 = { ok := true, size := 1, bytes := 8 } := by kernel_rfl
theorem tl62 : TL Try.prog 62 = { ok := true, size := 1, bytes := 8 } := by kernel_rfl
theorem tl63 : TL Try.prog 63 = { ok := true, size := 1, bytes := 8 } := by kernel_rfl
theorem tl64 : TL Try.prog 64 = { ok := true, size := 1 } := by kernel_rfl
theorem tl65 : TL Try.prog 65 = { ok := true, size := 1, bytes := 8 } := by kernel_rfl
theorem tl66 : TL Try.prog 66 = { ok := true, size := 1 } := by kernel_rfl
theorem tl67 : TL Try.prog 67 = { ok := true, size := 1, bytes := 8 } := by kernel_rfl
theorem tl68 : TL Try.prog 68 = { ok := true, size := 1, bytes := 8 } := by kernel_rfl
theorem tl69 : TL Try.prog 69 = { ok := true, size := 1, bytes := 8 } := by kernel_rfl
theorem tl70 : TL Try.prog 70 = { ok := true, size := 1, bytes := 8 } := by kernel_rfl
theorem tl71 : TL Try.prog 71 = { ok := true, size := 1, bytes := 8, ik := some IntKind.u64, zero := some [AV.d (D.int IntKind.u64 (0))] } := by kernel_rfl
theorem tl72 : TL Try.prog 72 = { ok := true, size := 1, bytes := 8 } := by kernel_rfl
theorem tl73 : TL Try.prog 73 = { ok := true, size := 1 } := by kernel_rfl
theorem tl74 : TL Try.prog 74 = { ok := true, size := 1, bytes := 8 } := by kernel_rfl
theorem tl75 : TL Try.prog 75 = { ok := true, size := 1, bytes := 8, zero := some [AV.nilp] } := by kernel_rfl
theorem tl76 : TL Try.prog 76 = { ok := true, size := 1, bytes := 8 } := by kernel_rfl
theorem tl77 : TL Try.prog 77 = { ok := true, size := 1, bytes := 8 } := by kernel_rfl
theorem tl78 : TL Try.prog 78 = { ok := true, size := 1 } := by kernel_rfl
theorem tl79 : TL Try.prog 79 = { ok := true, size := 1, bytes := 8 } := by kernel_rfl
theorem tl80 : TL Try.prog 80 = { ok := true, size := 1, bytes := 8 } := by kernel_rfl
theorem tl81 : TL Try.prog 81 = { ok := true, size := 1, bytes := 8 } := by kernel_rfl
theorem tl82 : TL Try.prog 82 = { ok := true, size := 1, bytes := 8 } := by kernel_rfl
theorem tl83 : TL Try.prog 83 = { ok := true, size := 1, bytes := 8 } := by kernel_rfl
theorem tl84 : TL Try.prog 84 = { ok := true, size := 1, bytes := 8 } := by kernel_rfl
theorem tl85 : TL Try.prog 85 = { ok := true, size := 1, bytes := 8, ik := some IntKind.i64, zero := some [AV.d (D.int IntKind.i64 (0))] } := by kernel_rfl
theorem tl86 : TL Try.prog 86 = { ok := true, size := 1, bytes := 8 } := by kernel_rfl
theorem tl87 : TL Try.prog 87 = { ok := true, size := 1, bytes := 8 } := by kernel_rfl
theorem tl88 : TL Try.prog 88 = { ok := true, size := 1, bytes := 8 } := by kernel_rfl
theorem tl89 : TL Try.prog 89 = { ok := true, size := 1, bytes := 8 } := by kernel_rfl
theorem tl90 : TL Try.prog 90 = { ok := true, size := 1, bytes := 8 } := by kernel_rfl
theorem tl91 : TL Try.prog 91 = { ok := true, size := 1, bytes := 8 } := by kernel_rfl
theorem tl92 : TL Try.prog 92 = { ok := true, size := 1, bytes := 8 } := by kernel_rfl
theorem tl93 : TL Try.prog 93 = { ok := true, size := 1, bytes := 8 } := by kernel_rfl
theorem tl94 : TL Try.prog 94 = { ok := true, size := 4, bytes := 40, agg := true, ofs := [0, 1, 2, 3], osz := [1, 1, 1, 1], oagg := [some false, some false, some false, some false], pls := some [(0, 1), (1, 1), (2, 1), (3, 1)] } := by kernel_rfl
theorem tl95 : TL Try.prog 95 = { ok := true, size := 4, bytes := 40, agg := true, ofs := [0, 1, 2, 3], osz := [1, 1, 1, 1], oagg := [some false, some false, some false, some false], pls := some [(0, 1), (1, 1), (2, 1), (3, 1)] } := by kernel_rfl
theorem tl96 : TL Try.prog 96 = { ok := true, agg := true, aelem := some (0, 16), zero := some [] } := by kernel_rfl
theorem tl97 : TL Try.prog 97 = { ok := true, agg := true, ofs := [0], osz := [0], oagg := [some true], pls := some [(0, 0)], zero := some [] } := by kernel_rfl
theorem tl98 : TL Try.prog 98 = { ok := true, agg := true, ofs := [0], osz := [0], oagg := [some true], pls := some [(0, 0)], zero := some [] } := by kernel_rfl
theorem tl99 : TL Try.prog 99 = { ok := true, size := 1, bytes := 8 } := by kernel_rfl
theorem tl100 : TL Try.prog 100 = { ok := true, size := 1, bytes := 4, ik := some IntKind.u32, zero := some [AV.d (D.int IntKind.u32 (0))] } := by kernel_rfl
theorem tl101 : TL Try.prog 101 = { ok := true, size := 1, bytes := 1, ik := some IntKind.u8, zero := some [AV.d (D.int IntKind.u8 (0))] } := by kernel_rfl
theorem tl102 : TL Try.prog 102 = { ok := true, size := 1, bytes := 1, ik := some IntKind.u8, zero := some [AV.d (D.int IntKind.u8 (0))] } := by kernel_rfl
theorem tl103 : TL Try.prog 103 = { ok := true, size := 1, bytes := 8 } := by kernel_rfl
theorem tl104 : TL Try.prog 104 = { ok := true, size := 1, bytes := 8, zero := some [AV.nilp] } := by kernel_rfl
theorem tl105 : TL Try.prog 105 = { ok := true, size := 1, bytes := 4, ik := some IntKind.i32, zero := some [AV.d (D.int IntKind.i32 (0))] } := by kernel_rfl
theorem tl106 : TL Try.prog 106 = { ok := true, size := 1, bytes := 4, ik := some IntKind.i32, zero := some [AV.d (D.int IntKind.i32 (0))] } := by kernel_rfl
theorem tl107 : TL Try.prog 107 = { ok := true, size := 11, bytes := 48, agg := true, ofs := [0, 1, 2, 3, 4, 5, 6, 7, 8, 9, 10], osz := [1, 1, 1, 1, 1, 1, 1, 1, 1, 1, 1], oagg := [some false, some false, some false, some false, some false, some false, some false, some false, some false, some false, some false], pls := some [(0, 1), (1, 1), (2, 1), (3, 1), (4, 1), (5, 1), (6, 1), (7, 1), (8, 1), (9, 1), (10, 1)] } := by kernel_rfl
theorem tl108 : TL Try.prog 108 = { ok := true, size := 11, bytes := 48, agg := true, ofs := [0, 1, 2, 3, 4, 5, 6, 7, 8, 9, 10], osz := [1, 1, 1, 1, 1, 1, 1, 1, 1, 1, 1], oagg := [some false, some false, some false, some false, some false, some false, some false, some false, some false, some false, some false], pls := some [(0, 1), (1, 1), (2, 1), (3, 1), (4, 1), (5, 1), (6, 1), (7, 1), (8, 1), (9, 1), (10, 1)] } := by kernel_rfl
theorem tl109 : TL Try.prog 109 = { ok := true, size := 1, bytes := 8, zero := some [AV.nilp] } := by kernel_rfl
attribute [go_sem] tl0 tl1 tl2 tl3 tl4 tl5 tl6 tl7 tl8 tl9 tl10 tl11 tl12 tl13 tl14 tl15 tl16 tl17 tl18 tl19 tl20 tl21 tl22 tl23 tl24 tl25 tl26 tl27 tl28 tl29 tl30 tl31 tl32 tl33 tl34 tl35 tl36 tl37 tl38 tl39 tl40 tl41 tl42 tl43 tl44 tl45 tl46 tl47 tl48 tl49 tl50 tl51 tl52 tl53 tl54 tl55 tl56 tl57 tl58 tl59 tl60 tl61 tl62 tl63 tl64 tl65 tl66 tl67 tl68 tl69 tl70 tl71 tl72 tl73 tl74 tl75 tl76 tl77 tl78 tl79 tl80 tl81 tl82 tl83 tl84 tl85 tl86 tl87 tl88 tl89 tl90 tl91 tl92 tl93 tl94 tl95 tl96 tl97 tl98 tl99 tl100 tl101 tl102 tl103 tl104 tl105 tl106 tl107 tl108 tl109
end Go.Proofs.Ytokocigmchfdfaa
