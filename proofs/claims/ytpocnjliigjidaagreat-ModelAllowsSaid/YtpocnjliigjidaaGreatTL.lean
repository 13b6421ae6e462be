import Derived.Test.YtpocnjliigjidaaGreatEngN
import Derived.Test.YtpocnjliigjidaaGreatProg
/- The engine's rows for the types of this program. -/
namespace Go.Proofs.YtpocnjliigjidaaGreat
open Go.RowKit
set_option maxRecDepth 100000
theorem tl0 : TL Tryz.prog 0 = { ok := true, size := 1 } := by kernel_rfl
theorem tl1 : TL Tryz.prog 1 = { ok := true, size := 1, bytes := 8, zero := some [AV.any] } := by kernel_rfl
theorem tl2 : TL Tryz.prog 2 = { ok := true, size := 1, bytes := 8, ik := some IntKind.i64, zero := some [AV.d (D.int IntKind.i64 (0))] } := by kernel_rfl
theorem tl3 : TL Tryz.prog 3 = { ok := true, size := 1, bytes := 8, ik := some IntKind.i64, zero := some [AV.d (D.int IntKind.i64 (0))] } := by kernel_rfl
theorem tl4 : TL Tryz.prog 4 = { ok := true, size := 1, bytes := 1, zero := some [AV.d (D.bool false)] } := by kernel_rfl
theorem tl5 : TL Tryz.prog 5 = { ok := true, size := 1, bytes := 1, ik := some IntKind.u8, zero := some [AV.d (D.int IntKind.u8 (0))] } := by kernel_rfl
theorem tl6 : TL Tryz.prog 6 = { ok := true, size := 1, bytes := 1, ik := some IntKind.u8, zero := some [AV.d (D.int IntKind.u8 (0))] } := by kernel_rfl
theorem tl7 : TL Tryz.prog 7 = { ok := true, size := 4, bytes := 24, agg := true, ofs := [0, 1, 2, 3], osz := [1, 1, 1, 1], oagg := [some false, some false, some false, some false], pls := some [(0, 1), (1, 1), (2, 1), (3, 1)], zero := some [AV.d (D.int IntKind.i64 (0)), AV.d (D.int IntKind.i64 (0)), AV.d (D.bool false), AV.d (D.int IntKind.u8 (0))] } := by kernel_rfl
theorem tl8 : TL Tryz.prog 8 = { ok := true, size := 4, bytes := 24, agg := true, ofs := [0, 1, 2, 3], osz := [1, 1, 1, 1], oagg := [some false, some false, some false, some false], pls := some [(0, 1), (1, 1), (2, 1), (3, 1)], zero := some [AV.d (D.int IntKind.i64 (0)), AV.d (D.int IntKind.i64 (0)), AV.d (D.bool false), AV.d (D.int IntKind.u8 (0))] } := by kernel_rfl
theorem tl9 : TL Tryz.prog 9 = { ok := true, size := 1, bytes := 16, zero := some [AV.d (D.str { data := { toList := [] } })] } := by kernel_rfl
theorem tl10 : TL Tryz.prog 10 = { ok := true, size := 1, bytes := 16, zero := some [AV.d (D.str { data := { toList := [] } })] } := by kernel_rfl
theorem tl11 : TL Tryz.prog 11 = { ok := true, size := 1, bytes := 16, zero := some [AV.d (D.str { data := { toList := [] } })] } := by kernel_rfl
theorem tl12 : TL Tryz.prog 12 = { ok := true, size := 1, bytes := 8, ik := some IntKind.u64, zero := some [AV.d (D.int IntKind.u64 (0))] } := by kernel_rfl
theorem tl13 : TL Tryz.prog 13 = { ok := true, size := 2, bytes := 24, agg := true, ofs := [0, 1], osz := [1, 1], oagg := [some false, some false], pls := some [(0, 1), (1, 1)], zero := some [AV.d (D.str { data := { toList := [] } }), AV.d (D.int IntKind.u64 (0))] } := by kernel_rfl
theorem tl14 : TL Tryz.prog 14 = { ok := true, size := 2, bytes := 24, agg := true, ofs := [0, 1], osz := [1, 1], oagg := [some false, some false], pls := some [(0, 1), (1, 1)], zero := some [AV.d (D.str { data := { toList := [] } }), AV.d (D.int IntKind.u64 (0))] } := by kernel_rfl
theorem tl15 : TL Tryz.prog 15 = { ok := true, size := 1, bytes := 8, zero := some [AV.nilp] } := by kernel_rfl
theorem tl16 : TL Tryz.prog 16 = { ok := true, size := 1, bytes := 8, zero := some [AV.nilp] } := by kernel_rfl
theorem tl17 : TL Tryz.prog 17 = { ok := true, size := 1, bytes := 8, zero := some [AV.nilp] } := by kernel_rfl
theorem tl18 : TL Tryz.prog 18 = { ok := true, size := 1, bytes := 8, agg := true, ofs := [0], osz := [1], oagg := [some false], pls := some [(0, 1)], zero := some [AV.nilp] } := by kernel_rfl
theorem tl19 : TL Tryz.prog 19 = { ok := true, size := 1, bytes := 8, agg := true, ofs := [0], osz := [1], oagg := [some false], pls := some [(0, 1)], zero := some [AV.nilp] } := by kernel_rfl
theorem tl20 : TL Tryz.prog 20 = { ok := true, size := 1, bytes := 16 } := by kernel_rfl
theorem tl21 : TL Tryz.prog 21 = { ok := true, size := 1, bytes := 4, ik := some IntKind.i32, zero := some [AV.d (D.int IntKind.i32 (0))] } := by kernel_rfl
theorem tl22 : TL Tryz.prog 22 = { ok := true, size := 1, bytes := 24, selem := some 51, zero := some [AV.nil] } := by kernel_rfl
theorem tl23 : TL Tryz.prog 23 = { ok := true, size := 1, bytes := 8, zero := some [AV.any] } := by kernel_rfl
theorem tl24 : TL Tryz.prog 24 = { ok := true, size := 1, bytes := 8, ik := some IntKind.u64, zero := some [AV.d (D.int IntKind.u64 (0))] } := by kernel_rfl
theorem tl25 : TL Tryz.prog 25 = { ok := true, size := 8, bytes := 64, agg := true, aelem := some (8, 24), zero := some [AV.d (D.int IntKind.u64 (0)), AV.d (D.int IntKind.u64 (0)), AV.d (D.int IntKind.u64 (0)), AV.d (D.int IntKind.u64 (0)), AV.d (D.int IntKind.u64 (0)), AV.d (D.int IntKind.u64 (0)), AV.d (D.int IntKind.u64 (0)), AV.d (D.int IntKind.u64 (0))] } := by kernel_rfl
theorem tl26 : TL Tryz.prog 26 = { ok := true, size := 8, bytes := 64, agg := true, aelem := some (8, 24), zero := some [AV.d (D.int IntKind.u64 (0)), AV.d (D.int IntKind.u64 (0)), AV.d (D.int IntKind.u64 (0)), AV.d (D.int IntKind.u64 (0)), AV.d (D.int IntKind.u64 (0)), AV.d (D.int IntKind.u64 (0)), AV.d (D.int IntKind.u64 (0)), AV.d (D.int IntKind.u64 (0))] } := by kernel_rfl
theorem tl27 : TL Tryz.prog 27 = { ok := true, size := 1, bytes := 8, ik := some IntKind.i64, zero := some [AV.d (D.int IntKind.i64 (0))] } := by kernel_rfl
theorem tl28 : TL Tryz.prog 28 = { ok := true, size := 1 } := by kernel_rfl
theorem tl29 : TL Tryz.prog 29 = { ok := true, size := 1, bytes := 8, zero := some [AV.any] } := by kernel_rfl
theorem tl30 : TL Tryz.prog 30 = { ok := true, size := 1, bytes := 8, zero := some [AV.any] } := by kernel_rfl
theorem tl31 : TL Tryz.prog 31 = { ok := true, size := 1, bytes := 8, zero := some [AV.any] } := by kernel_rfl
theorem tl32 : TL Tryz.prog 32 = { ok := true, size := 1 } := by kernel_rfl
theorem tl33 : TL Tryz.prog 33 = { ok := true, size := 1, bytes := 8, zero := some [AV.any] } := by kernel_rfl
theorem tl34 : TL Tryz.prog 34 = { ok := true, size := 1, bytes := 24, selem := some 4, zero := some [AV.nil] } := by kernel_rfl
theorem tl35 : TL Tryz.prog 35 = { ok := true, size := 1, bytes := 24, selem := some 24, zero := some [AV.nil] } := by kernel_rfl
theorem tl36 : TL Tryz.prog 36 = { ok := true, size := 1, bytes := 24, selem := some 90, zero := some [AV.nil] } := by kernel_rfl
theorem tl37 : TL Tryz.prog 37 = { ok := true, size := 3, bytes := 72, agg := true, ofs := [0, 1, 2], osz := [1, 1, 1], oagg := [some false, some false, some false], pls := some [(0, 1), (1, 1), (2, 1)], zero := some [AV.nil, AV.nil, AV.nil] } := by kernel_rfl
theorem tl38 : TL Tryz.prog 38 = { ok := true, size := 3, bytes := 72, agg := true, ofs := [0, 1, 2], osz := [1, 1, 1], oagg := [some false, some false, some false], pls := some [(0, 1), (1, 1), (2, 1)], zero := some [AV.nil, AV.nil, AV.nil] } := by kernel_rfl
theorem tl39 : TL Tryz.prog 39 = { ok := true, size := 5, bytes := 104, agg := true, ofs := [0, 3, 4], osz := [3, 1, 1], oagg := [some true, some false, some false], pls := some [(0, 3), (3, 1), (4, 1)], zero := some [AV.nil, AV.nil, AV.nil, AV.nil, AV.d (D.int IntKind.u64 (0))] } := by kernel_rfl
theorem tl40 : TL Tryz.prog 40 = { ok := true, size := 5, bytes := 104, agg := true, ofs := [0, 3, 4], osz := [3, 1, 1], oagg := [some true, some false, some false], pls := some [(0, 3), (3, 1), (4, 1)], zero := some [AV.nil, AV.nil, AV.nil, AV.nil, AV.d (D.int IntKind.u64 (0))] } := by kernel_rfl
theorem tl41 : TL Tryz.prog 41 = { ok := true, size := 1 } := by kernel_rfl
theorem tl42 : TL Tryz.prog 42 = { ok := true, size := 1, bytes := 8, zero := some [AV.any] } := by kernel_rfl
theorem tl43 : TL Tryz.prog 43 = { ok := true, size := 1, bytes := 8, zero := some [AV.any] } := by kernel_rfl
theorem tl44 : TL Tryz.prog 44 = { ok := true, size := 1, bytes := 24, selem := some 3, zero := some [AV.nil] } := by kernel_rfl
theorem tl45 : TL Tryz.prog 45 = { ok := true, size := 1 } := by kernel_rfl
theorem tl46 : TL Tryz.prog 46 = { ok := true, size := 1, bytes := 8, zero := some [AV.any] } := by kernel_rfl
theorem tl47 : TL Tryz.prog 47 = { ok := true, size := 1, bytes := 8, zero := some [AV.any] } := by kernel_rfl
theorem tl48 : TL Tryz.prog 48 = { ok := true, size := 1, bytes := 8, zero := some [AV.any] } := by kernel_rfl
theorem tl49 : TL Tryz.prog 49 = { ok := true, size := 1, bytes := 8, zero := some [AV.any] } := by kernel_rfl
theorem tl50 : TL Tryz.prog 50 = { ok := true, size := 7, bytes := 56, agg := true, ofs := [0, 1, 2, 3, 4, 5, 6], osz := [1, 1, 1, 1, 1, 1, 1], oagg := [some false, some false, some false, some false, some false, some false, some false], pls := some [(0, 1), (1, 1), (2, 1), (3, 1), (4, 1), (5, 1), (6, 1)], zero := some [AV.d (D.int IntKind.i64 (0)), AV.d (D.int IntKind.i64 (0)), AV.d (D.int IntKind.i64 (0)), AV.d (D.int IntKind.i64 (0)), AV.d (D.int IntKind.i64 (0)), AV.d (D.int IntKind.u64 (0)), AV.d (D.int IntKind.u64 (0))] } := by kernel_rfl
theorem tl51 : TL Tryz.prog 51 = { ok := true, size := 7, bytes := 56, agg := true, ofs := [0, 1, 2, 3, 4, 5, 6], osz := [1, 1, 1, 1, 1, 1, 1], oagg := [some false, some false, some false, some false, some false, some false, some false], pls := some [(0, 1), (1, 1), (2, 1), (3, 1), (4, 1), (5, 1), (6, 1)], zero := some [AV.d (D.int IntKind.i64 (0)), AV.d (D.int IntKind.i64 (0)), AV.d (D.int IntKind.i64 (0)), AV.d (D.int IntKind.i64 (0)), AV.d (D.int IntKind.i64 (0)), AV.d (D.int IntKind.u64 (0)), AV.d (D.int IntKind.u64 (0))] } := by kernel_rfl
theorem tl52 : TL Tryz.prog 52 = { ok := true, size := 1, bytes := 8, zero := some [AV.any] } := by kernel_rfl
theorem tl53 : TL Tryz.prog 53 = { ok := true, size := 1, bytes := 8, zero := some [AV.any] } := by kernel_rfl
theorem tl54 : TL Tryz.prog 54 = { ok := true, size := 1, bytes := 8, zero := some [AV.any] } := by kernel_rfl
theorem tl55 : TL Tryz.prog 55 = { ok := true, size := 1, bytes := 8, zero := some [AV.any] } := by kernel_rfl
theorem tl56 : TL Tryz.prog 56 = { ok := true, size := 1, bytes := 8, zero := some [AV.any] } := by kernel_rfl
theorem tl57 : TL Tryz.prog 57 = { ok := true, size := 1, bytes := 8, zero := some [AV.any] } := by kernel_rfl
theorem tl58 : TL Tryz.prog 58 = { ok := true, size := 1, bytes := 8, zero := some [AV.any] } := by kernel_rfl
theorem tl59 : TL Tryz.prog 59 = { ok := true, size := 1, bytes := 8, zero := some [AV.any] } := by kernel_rfl
theorem tl60 : TL Tryz.prog 60 = { ok := true, size := 1 } := by kernel_rfl
theorem tl61 : TL Tryz.prog 61 = { ok := true, size := 1, bytes := 8, zero := some [AV.any] } := by kernel_rfl
theorem tl62 : TL Tryz.prog 62 = { ok := true, size := 1 } := by kernel_rfl
theorem tl63 : TL Tryz.prog 63 = { ok := true, size := 1, bytes := 8, zero := some [AV.any] } := by kernel_rfl
theorem tl64 : TL Tryz.prog 64 = { ok := true, size := 1 } := by kernel_rfl
theorem tl65 : TL Tryz.prog 65 = { ok := true, size := 1, bytes := 8, zero := some [AV.any] } := by kernel_rfl
theorem tl66 : TL Tryz.prog 66 = { ok := true, size := 1, bytes := 8, zero := some [AV.any] } := by kernel_rfl
theorem tl67 : TL Tryz.prog 67 = { ok := true, size := 1, bytes := 8, zero := some [AV.any] } := by kernel_rfl
theorem tl68 : TL Tryz.prog 68 = { ok := true, size := 1, bytes := 8, zero := some [AV.any] } := by kernel_rfl
theorem tl69 : TL Tryz.prog 69 = { ok := true, size := 1, bytes := 8, zero := some [AV.any] } := by kernel_rfl
theorem tl70 : TL Tryz.prog 70 = { ok := true, size := 1, bytes := 8, zero := some [AV.any] } := by kernel_rfl
theorem tl71 : TL Tryz.prog 71 = { ok := true, size := 1, bytes := 8, zero := some [AV.any] } := by kernel_rfl
theorem tl72 : TL Tryz.prog 72 = { ok := true, size := 1, bytes := 8, zero := some [AV.any] } := by kernel_rfl
theorem tl73 : TL Tryz.prog 73 = { ok := true, size := 1, bytes := 8, zero := some [AV.any] } := by kernel_rfl
theorem tl74 : TL Tryz.prog 74 = { ok := true, size := 1, bytes := 8, zero := some [AV.nilp] } := by kernel_rfl
theorem tl75 : TL Tryz.prog 75 = { ok := true, size := 5, bytes := 104, agg := true, ofs := [0], osz := [5], oagg := [some true], pls := some [(0, 5)], zero := some [AV.nil, AV.nil, AV.nil, AV.nil, AV.d (D.int IntKind.u64 (0))] } := by kernel_rfl
theorem tl76 : TL Tryz.prog 76 = { ok := true, size := 5, bytes := 104, agg := true, ofs := [0], osz := [5], oagg := [some true], pls := some [(0, 5)], zero := some [AV.nil, AV.nil, AV.nil, AV.nil, AV.d (D.int IntKind.u64 (0))] } := by kernel_rfl
theorem tl77 : TL Tryz.prog 77 = { ok := true, size := 1, bytes := 8, zero := some [AV.any] } := by kernel_rfl
theorem tl78 : TL Tryz.prog 78 = { ok := true, size := 1, bytes := 8, zero := some [AV.any] } := by kernel_rfl
theorem tl79 : TL Tryz.prog 79 = { ok := true, size := 1, bytes := 8, zero := some [AV.any] } := by kernel_rfl
theorem tl80 : TL Tryz.prog 80 = { ok := true, size := 1, bytes := 8, zero := some [AV.any] } := by kernel_rfl
theorem tl81 : TL Tryz.prog 81 = { ok := true, size := 1 } := by kernel_rfl
theorem tl82 : TL Tryz.prog 82 = { ok := true, size := 1, bytes := 8, zero := some [AV.any] } := by kernel_rfl
theorem tl83 : TL Tryz.prog 83 = { ok := true, size := 1, bytes := 8, zero := some [AV.any] } := by kernel_rfl
theorem tl84 : TL Tryz.prog 84 = { ok := true, size := 1, bytes := 8, zero := some [AV.any] } := by kernel_rfl
theorem tl85 : TL Tryz.prog 85 = { ok := true, size := 1, bytes := 8, zero := some [AV.any] } := by kernel_rfl
theorem tl86 : TL Tryz.prog 86 = { ok := true, size := 1, bytes := 8, zero := some [AV.any] } := by kernel_rfl
theorem tl87 : TL Tryz.prog 87 = { ok := true, size := 2, bytes := 16, agg := true, ofs := [0, 1], osz := [1, 1], oagg := [some false, some false], pls := some [(0, 1), (1, 1)], zero := some [AV.d (D.int IntKind.i64 (0)), AV.d (D.int IntKind.i64 (0))] } := by kernel_rfl
theorem tl88 : TL Tryz.prog 88 = { ok := true, size := 2, bytes := 16, agg := true, ofs := [0, 1], osz := [1, 1], oagg := [some false, some false], pls := some [(0, 1), (1, 1)], zero := some [AV.d (D.int IntKind.i64 (0)), AV.d (D.int IntKind.i64 (0))] } := by kernel_rfl
theorem tl89 : TL Tryz.prog 89 = { ok := true, size := 4, bytes := 32, agg := true, ofs := [0, 2, 3], osz := [2, 1, 1], oagg := [some true, some false, some false], pls := some [(0, 2), (2, 1), (3, 1)], zero := some [AV.d (D.int IntKind.i64 (0)), AV.d (D.int IntKind.i64 (0)), AV.d (D.int IntKind.i64 (0)), AV.d (D.int IntKind.u64 (0))] } := by kernel_rfl
theorem tl90 : TL Tryz.prog 90 = { ok := true, size := 4, bytes := 32, agg := true, ofs := [0, 2, 3], osz := [2, 1, 1], oagg := [some true, some false, some false], pls := some [(0, 2), (2, 1), (3, 1)], zero := some [AV.d (D.int IntKind.i64 (0)), AV.d (D.int IntKind.i64 (0)), AV.d (D.int IntKind.i64 (0)), AV.d (D.int IntKind.u64 (0))] } := by kernel_rfl
theorem tl91 : TL Tryz.prog 91 = { ok := true, size := 1, bytes := 8, zero := some [AV.any] } := by kernel_rfl
theorem tl92 : TL Tryz.prog 92 = { ok := true, size := 1, bytes := 8, zero := some [AV.any] } := by kernel_rfl
theorem tl93 : TL Tryz.prog 93 = { ok := true, size := 1, bytes := 8, zero := some [AV.any] } := by kernel_rfl
theorem tl94 : TL Tryz.prog 94 = { ok := true, size := 1, bytes := 8, zero := some [AV.any] } := by kernel_rfl
theorem tl95 : TL Tryz.prog 95 = { ok := true, size := 1, bytes := 8, zero := some [AV.any] } := by kernel_rfl
theorem tl96 : TL Tryz.prog 96 = { ok := true, size := 1, bytes := 8, zero := some [AV.any] } := by kernel_rfl
theorem tl97 : TL Tryz.prog 97 = { ok := true, size := 1, bytes := 8, zero := some [AV.any] } := by kernel_rfl
theorem tl98 : TL Tryz.prog 98 = { ok := true, size := 1, bytes := 8, ik := some IntKind.u64, zero := some [AV.d (D.int IntKind.u64 (0))] } := by kernel_rfl
theorem tl99 : TL Tryz.prog 99 = { ok := true, size := 1, bytes := 8, zero := some [AV.any] } := by kernel_rfl
theorem tl100 : TL Tryz.prog 100 = { ok := true, size := 1, bytes := 8, zero := some [AV.any] } := by kernel_rfl
theorem tl101 : TL Tryz.prog 101 = { ok := true, size := 3, bytes := 40, agg := true, ofs := [0, 1, 2], osz := [1, 1, 1], oagg := [some false, some false, some false], pls := some [(0, 1), (1, 1), (2, 1)], zero := some [AV.d (D.str { data := { toList := [] } }), AV.d (D.str { data := { toList := [] } }), AV.any] } := by kernel_rfl
theorem tl102 : TL Tryz.prog 102 = { ok := true, size := 3, bytes := 40, agg := true, ofs := [0, 1, 2], osz := [1, 1, 1], oagg := [some false, some false, some false], pls := some [(0, 1), (1, 1), (2, 1)], zero := some [AV.d (D.str { data := { toList := [] } }), AV.d (D.str { data := { toList := [] } }), AV.any] } := by kernel_rfl
theorem tl103 : TL Tryz.prog 103 = { ok := true, size := 36, bytes := 480, agg := true, aelem := some (12, 102), zero := some [AV.d (D.str { data := { toList := [] } }), AV.d (D.str { data := { toList := [] } }), AV.any, AV.d (D.str { data := { toList := [] } }), AV.d (D.str { data := { toList := [] } }), AV.any, AV.d (D.str { data := { toList := [] } }), AV.d (D.str { data := { toList := [] } }), AV.any, AV.d (D.str { data := { toList := [] } }), AV.d (D.str { data := { toList := [] } }), AV.any, AV.d (D.str { data := { toList := [] } }), AV.d (D.str { data := { toList := [] } }), AV.any, AV.d (D.str { data := { toList := [] } }), AV.d (D.str { data := { toList := [] } }), AV.any, AV.d (D.str { data := { toList := [] } }), AV.d (D.str { data := { toList := [] } }), AV.any, AV.d (D.str { data := { toList := [] } }), AV.d (D.str { data := { toList := [] } }), AV.any, AV.d (D.str { data := { toList := [] } }), AV.d (D.str { data := { toList := [] } }), AV.any, AV.d (D.str { data := { toList := [] } }), AV.d (D.str { data := { toList := [] } }), AV.any, AV.d (D.str { data := { toList := [] } }), AV.d (D.str { data := { toList := [] } }), AV.any, AV.d (D.str { data := { toList := [] } }), AV.d (D.str { data := { toList := [] } }), AV.any] } := by kernel_rfl
theorem tl104 : TL Tryz.prog 104 = { ok := true, size := 1, bytes := 8, zero := some [AV.any] } := by kernel_rfl
theorem tl105 : TL Tryz.prog 105 = { ok := true, size := 7, bytes := 56, agg := true, ofs := [0, 1, 2, 3, 4, 5, 6], osz := [1, 1, 1, 1, 1, 1, 1], oagg := [some false, some false, some false, some false, some false, some false, some false], pls := some [(0, 1), (1, 1), (2, 1), (3, 1), (4, 1), (5, 1), (6, 1)], zero := some [AV.d (D.int IntKind.i64 (0)), AV.d (D.int IntKind.i64 (0)), AV.d (D.int IntKind.i64 (0)), AV.d (D.int IntKind.i64 (0)), AV.d (D.int IntKind.i64 (0)), AV.d (D.int IntKind.u64 (0)), AV.d (D.int IntKind.u64 (0))] } := by kernel_rfl
theorem tl106 : TL Tryz.prog 106 = { ok := true, size := 1, bytes := 8, zero := some [AV.any] } := by kernel_rfl
theorem tl107 : TL Tryz.prog 107 = { ok := true, size := 1, bytes := 8, zero := some [AV.any] } := by kernel_rfl
theorem tl108 : TL Tryz.prog 108 = { ok := true, size := 1, bytes := 8, zero := some [AV.any] } := by kernel_rfl
theorem tl109 : TL Tryz.prog 109 = { ok := true, size := 1, bytes := 8, zero := some [AV.any] } := by kernel_rfl
theorem tl110 : TL Tryz.prog 110 = { ok := true, size := 1 } := by kernel_rfl
theorem tl111 : TL Tryz.prog 111 = { ok := true, size := 1, bytes := 8, zero := some [AV.any] } := by kernel_rfl
theorem tl112 : TL Tryz.prog 112 = { ok := true, size := 1, bytes := 8, zero := some [AV.any] } := by kernel_rfl
theorem tl113 : TL Tryz.prog 113 = { ok := true, size := 1, bytes := 8, zero := some [AV.any] } := by kernel_rfl
theorem tl114 : TL Tryz.prog 114 = { ok := true, size := 3, bytes := 24, agg := true, ofs := [0, 2], osz := [2, 1], oagg := [some true, some false], pls := some [(0, 2), (2, 1)], zero := some [AV.d (D.int IntKind.i64 (0)), AV.d (D.int IntKind.i64 (0)), AV.d (D.int IntKind.i64 (0))] } := by kernel_rfl
theorem tl115 : TL Tryz.prog 115 = { ok := true, size := 3, bytes := 24, agg := true, ofs := [0, 2], osz := [2, 1], oagg := [some true, some false], pls := some [(0, 2), (2, 1)], zero := some [AV.d (D.int IntKind.i64 (0)), AV.d (D.int IntKind.i64 (0)), AV.d (D.int IntKind.i64 (0))] } := by kernel_rfl
theorem tl116 : TL Tryz.prog 116 = { ok := true, size := 1, bytes := 8, zero := some [AV.any] } := by kernel_rfl
theorem tl117 : TL Tryz.prog 117 = { ok := true, size := 1, bytes := 8, zero := some [AV.any] } := by kernel_rfl
theorem tl118 : TL Tryz.prog 118 = { ok := true, size := 1, bytes := 8, zero := some [AV.any] } := by kernel_rfl
theorem tl119 : TL Tryz.prog 119 = { ok := true, size := 1, bytes := 8, zero := some [AV.any] } := by kernel_rfl
theorem tl120 : TL Tryz.prog 120 = { ok := true, size := 1, bytes := 8, zero := some [AV.any] } := by kernel_rfl
theorem tl121 : TL Tryz.prog 121 = { ok := true, size := 1, bytes := 8, zero := some [AV.any] } := by kernel_rfl
theorem tl122 : TL Tryz.prog 122 = { ok := true, size := 1, bytes := 8, zero := some [AV.any] } := by kernel_rfl
theorem tl123 : TL Tryz.prog 123 = { ok := true, size := 1, bytes := 8, ik := some IntKind.i64, zero := some [AV.d (D.int IntKind.i64 (0))] } := by kernel_rfl
theorem tl124 : TL Tryz.prog 124 = { ok := true, size := 1 } := by kernel_rfl
theorem tl125 : TL Tryz.prog 125 = { ok := true, size := 1, bytes := 8, zero := some [AV.any] } := by kernel_rfl
theorem tl126 : TL Tryz.prog 126 = { ok := true, size := 1, bytes := 8, zero := some [AV.any] } := by kernel_rfl
theorem tl127 : TL Tryz.prog 127 = { ok := true, size := 1, bytes := 8, zero := some [AV.any] } := by kernel_rfl
theorem tl128 : TL Tryz.prog 128 = { ok := true, size := 1 } := by kernel_rfl
theorem tl129 : TL Tryz.prog 129 = { ok := true, size := 1, bytes := 8, zero := some [AV.any] } := by kernel_rfl
theorem tl130 : TL Tryz.prog 130 = { ok := true, size := 1, bytes := 8, zero := some [AV.any] } := by kernel_rfl
theorem tl131 : TL Tryz.prog 131 = { ok := true, size := 1, bytes := 4, ik := some IntKind.u32, zero := some [AV.d (D.int IntKind.u32 (0))] } := by kernel_rfl
theorem tl132 : TL Tryz.prog 132 = { ok := true, size := 1, bytes := 8, zero := some [AV.any] } := by kernel_rfl
theorem tl133 : TL Tryz.prog 133 = { ok := true, size := 1, bytes := 8, zero := some [AV.any] } := by kernel_rfl
theorem tl134 : TL Tryz.prog 134 = { ok := true, size := 1, bytes := 8, zero := some [AV.any] } := by kernel_rfl
theorem tl135 : TL Tryz.prog 135 = { ok := true, size := 1 } := by kernel_rfl
theorem tl136 : TL Tryz.prog 136 = { ok := true, size := 1, bytes := 8, zero := some [AV.any] } := by kernel_rfl
theorem tl137 : TL Tryz.prog 137 = { ok := true, size := 1 } := by kernel_rfl
theorem tl138 : TL Tryz.prog 138 = { ok := true, size := 1, bytes := 8, zero := some [AV.any] } := by kernel_rfl
theorem tl139 : TL Tryz.prog 139 = { ok := true, size := 1, bytes := 8, zero := some [AV.any] } := by kernel_rfl
theorem tl140 : TL Tryz.prog 140 = { ok := true, size := 1, bytes := 8, zero := some [AV.any] } := by kernel_rfl
theorem tl141 : TL Tryz.prog 141 = { ok := true, size := 1, bytes := 8, zero := some [AV.any] } := by kernel_rfl
theorem tl142 : TL Tryz.prog 142 = { ok := true, size := 1, bytes := 8, zero := some [AV.any] } := by kernel_rfl
theorem tl143 : TL Tryz.prog 143 = { ok := true, size := 1, bytes := 8, zero := some [AV.any] } := by kernel_rfl
theorem tl144 : TL Tryz.prog 144 = { ok := true, size := 1, bytes := 8, zero := some [AV.any] } := by kernel_rfl
theorem tl145 : TL Tryz.prog 145 = { ok := true, size := 1, bytes := 24, selem := some 9, zero := some [AV.nil] } := by kernel_rfl
theorem tl146 : TL Tryz.prog 146 = { ok := true, size := 1, bytes := 8, zero := some [AV.any] } := by kernel_rfl
theorem tl147 : TL Tryz.prog 147 = { ok := true, size := 1, bytes := 8, zero := some [AV.any] } := by kernel_rfl
theorem tl148 : TL Tryz.prog 148 = { ok := true, size := 1, bytes := 8, zero := some [AV.any] } := by kernel_rfl
theorem tl149 : TL Tryz.prog 149 = { ok := true, size := 1, bytes := 8, ik := some IntKind.u64, zero := some [AV.d (D.int IntKind.u64 (0))] } := by kernel_rfl
theorem tl150 : TL Tryz.prog 150 = { ok := true, size := 1, bytes := 8, zero := some [AV.any] } := by kernel_rfl
theorem tl151 : TL Tryz.prog 151 = { ok := true, size := 1, bytes := 8, zero := some [AV.any] } := by kernel_rfl
theorem tl152 : TL Tryz.prog 152 = { ok := true, size := 1, bytes := 8, zero := some [AV.any] } := by kernel_rfl
theorem tl153 : TL Tryz.prog 153 = { ok := true, size := 1, bytes := 8, zero := some [AV.nilp] } := by kernel_rfl
theorem tl154 : TL Tryz.prog 154 = { ok := true, size := 1, bytes := 8, zero := some [AV.any] } := by kernel_rfl
theorem tl155 : TL Tryz.prog 155 = { ok := true, size := 1 } := by kernel_rfl
theorem tl156 : TL Tryz.prog 156 = { ok := true, size := 1, bytes := 8, zero := some [AV.any] } := by kernel_rfl
theorem tl157 : TL Tryz.prog 157 = { ok := true, size := 1, bytes := 8, zero := some [AV.any] } := by kernel_rfl
theorem tl158 : TL Tryz.prog 158 = { ok := true, size := 3, bytes := 56, agg := true, ofs := [0, 1, 2], osz := [1, 1, 1], oagg := [some false, some false, some false], pls := some [(0, 1), (1, 1), (2, 1)], zero := some [AV.nil, AV.nil, AV.any] } := by kernel_rfl
theorem tl159 : TL Tryz.prog 159 = { ok := true, size := 3, bytes := 56, agg := true, ofs := [0, 1, 2], osz := [1, 1, 1], oagg := [some false, some false, some false], pls := some [(0, 1), (1, 1), (2, 1)], zero := some [AV.nil, AV.nil, AV.any] } := by kernel_rfl
theorem tl160 : TL Tryz.prog 160 = { ok := true, size := 1, bytes := 8, zero := some [AV.any] } := by kernel_rfl
theorem tl161 : TL Tryz.prog 161 = { ok := true, size := 1, bytes := 8, zero := some [AV.any] } := by kernel_rfl
theorem tl162 : TL Tryz.prog 162 = { ok := true, size := 1, bytes := 8, zero := some [AV.any] } := by kernel_rfl
theorem tl163 : TL Tryz.prog 163 = { ok := true, size := 1, bytes := 8, zero := some [AV.any] } := by kernel_rfl
theorem tl164 : TL Tryz.prog 164 = { ok := true, size := 1, bytes := 8, zero := some [AV.any] } := by kernel_rfl
theorem tl165 : TL Tryz.prog 165 = { ok := true, size := 1, bytes := 8, zero := some [AV.any] } := by kernel_rfl
theorem tl166 : TL Tryz.prog 166 = { ok := true, size := 1, bytes := 8, zero := some [AV.any] } := by kernel_rfl
theorem tl167 : TL Tryz.prog 167 = { ok := true, size := 1, bytes := 8, zero := some [AV.nilp] } := by kernel_rfl
theorem tl168 : TL Tryz.prog 168 = { ok := true, size := 1 } := by kernel_rfl
theorem tl169 : TL Tryz.prog 169 = { ok := true, size := 1, bytes := 8, zero := some [AV.any] } := by kernel_rfl
theorem tl170 : TL Tryz.prog 170 = { ok := true, size := 1, bytes := 8, zero := some [AV.any] } := by kernel_rfl
theorem tl171 : TL Tryz.prog 171 = { ok := true, size := 1, bytes := 8, zero := some [AV.any] } := by kernel_rfl
theorem tl172 : TL Tryz.prog 172 = { ok := true, size := 1, bytes := 8, zero := some [AV.any] } := by kernel_rfl
theorem tl173 : TL Tryz.prog 173 = { ok := true, size := 1, bytes := 8, zero := some [AV.any] } := by kernel_rfl
theorem tl174 : TL Tryz.prog 174 = { ok := true, size := 1, bytes := 8, zero := some [AV.any] } := by kernel_rfl
theorem tl175 : TL Tryz.prog 175 = { ok := true, size := 1, bytes := 8, zero := some [AV.any] } := by kernel_rfl
theorem tl176 : TL Tryz.prog 176 = { ok := true, size := 1, bytes := 8, zero := some [AV.any] } := by kernel_rfl
theorem tl177 : TL Tryz.prog 177 = { ok := true, size := 1, bytes := 24, selem := some 115, zero := some [AV.nil] } := by kernel_rfl
theorem tl178 : TL Tryz.prog 178 = { ok := true, size := 1, bytes := 8, zero := some [AV.any] } := by kernel_rfl
theorem tl179 : TL Tryz.prog 179 = { ok := true, size := 1, bytes := 8, zero := some [AV.any] } := by kernel_rfl
theorem tl180 : TL Tryz.prog 180 = { ok := true, size := 1, bytes := 8, zero := some [AV.any] } := by kernel_rfl
theorem tl181 : TL Tryz.prog 181 = { ok := true, size := 1, bytes := 8, zero := some [AV.any] } := by kernel_rfl
theorem tl182 : TL Tryz.prog 182 = { ok := true, size := 1, bytes := 8, zero := some [AV.any] } := by kernel_rfl
theorem tl183 : TL Tryz.prog 183 = { ok := true, size := 1, bytes := 8, zero := some [AV.any] } := by kernel_rfl
theorem tl184 : TL Tryz.prog 184 = { ok := true, size := 1, bytes := 8, zero := some [AV.any] } := by kernel_rfl
theorem tl185 : TL Tryz.prog 185 = { ok := true, size := 1, bytes := 8, zero := some [AV.any] } := by kernel_rfl
theorem tl186 : TL Tryz.prog 186 = { ok := true, size := 1, bytes := 8, zero := some [AV.any] } := by kernel_rfl
theorem tl187 : TL Tryz.prog 187 = { ok := true, size := 1, bytes := 8, zero := some [AV.any] } := by kernel_rfl
theorem tl188 : TL Tryz.prog 188 = { ok := true, size := 1, bytes := 8, zero := some [AV.any] } := by kernel_rfl
theorem tl189 : TL Tryz.prog 189 = { ok := true, size := 1, bytes := 8, zero := some [AV.any] } := by kernel_rfl
theorem tl190 : TL Tryz.prog 190 = { ok := true, size := 1, bytes := 8, zero := some [AV.any] } := by kernel_rfl
theorem tl191 : TL Tryz.prog 191 = { ok := true, size := 1, bytes := 8, zero := some [AV.any] } := by kernel_rfl
theorem tl192 : TL Tryz.prog 192 = { ok := true, size := 1, bytes := 8, zero := some [AV.any] } := by kernel_rfl
theorem tl193 : TL Tryz.prog 193 = { ok := true, size := 4, bytes := 40, agg := true, ofs := [0, 1, 2, 3], osz := [1, 1, 1, 1], oagg := [some false, some false, some false, some false], pls := some [(0, 1), (1, 1), (2, 1), (3, 1)], zero := some [AV.nilp, AV.nilp, AV.nilp, AV.d (D.str { data := { toList := [] } })] } := by kernel_rfl
theorem tl194 : TL Tryz.prog 194 = { ok := true, size := 4, bytes := 40, agg := true, ofs := [0, 1, 2, 3], osz := [1, 1, 1, 1], oagg := [some false, some false, some false, some false], pls := some [(0, 1), (1, 1), (2, 1), (3, 1)], zero := some [AV.nilp, AV.nilp, AV.nilp, AV.d (D.str { data := { toList := [] } })] } := by kernel_rfl
theorem tl195 : TL Tryz.prog 195 = { ok := true, agg := true, aelem := some (0, 16), zero := some [] } := by kernel_rfl
theorem tl196 : TL Tryz.prog 196 = { ok := true, agg := true, ofs := [0], osz := [0], oagg := [some true], pls := some [(0, 0)], zero := some [] } := by kernel_rfl
theorem tl197 : TL Tryz.prog 197 = { ok := true, agg := true, ofs := [0], osz := [0], oagg := [some true], pls := some [(0, 0)], zero := some [] } := by kernel_rfl
theorem tl198 : TL Tryz.prog 198 = { ok := true, size := 1, bytes := 8, zero := some [AV.any] } := by kernel_rfl
theorem tl199 : TL Tryz.prog 199 = { ok := true, size := 1, bytes := 1, ik := some IntKind.u8, zero := some [AV.d (D.int IntKind.u8 (0))] } := by kernel_rfl
theorem tl200 : TL Tryz.prog 200 = { ok := true, size := 1, bytes := 1, ik := some IntKind.u8, zero := some [AV.d (D.int IntKind.u8 (0))] } := by kernel_rfl
theorem tl201 : TL Tryz.prog 201 = { ok := true, size := 1, bytes := 8, zero := some [AV.any] } := by kernel_rfl
theorem tl202 : TL Tryz.prog 202 = { ok := true, size := 1, bytes := 8, zero := some [AV.nilp] } := by kernel_rfl
theorem tl203 : TL Tryz.prog 203 = { ok := true, size := 1, bytes := 4, ik := some IntKind.i32, zero := some [AV.d (D.int IntKind.i32 (0))] } := by kernel_rfl
theorem tl204 : TL Tryz.prog 204 = { ok := true, size := 1, bytes := 4, ik := some IntKind.i32, zero := some [AV.d (D.int IntKind.i32 (0))] } := by kernel_rfl
theorem tl205 : TL Tryz.prog 205 = { ok := true, size := 11, bytes := 48, agg := true, ofs := [0, 1, 2, 3, 4, 5, 6, 7, 8, 9, 10], osz := [1, 1, 1, 1, 1, 1, 1, 1, 1, 1, 1], oagg := [some false, some false, some false, some false, some false, some false, some false, some false, some false, some false, some false], pls := some [(0, 1), (1, 1), (2, 1), (3, 1), (4, 1), (5, 1), (6, 1), (7, 1), (8, 1), (9, 1), (10, 1)], zero := some [AV.d (D.int IntKind.u64 (0)), AV.d (D.int IntKind.u64 (0)), AV.d (D.int IntKind.u32 (0)), AV.d (D.int IntKind.u8 (0)), AV.d (D.int IntKind.u8 (0)), AV.d (D.int IntKind.u8 (0)), AV.d (D.int IntKind.u8 (0)), AV.any, AV.nilp, AV.d (D.int IntKind.i32 (0)), AV.d (D.int IntKind.i32 (0))] } := by kernel_rfl
theorem tl206 : TL Tryz.prog 206 = { ok := true, size := 11, bytes := 48, agg := true, ofs := [0, 1, 2, 3, 4, 5, 6, 7, 8, 9, 10], osz := [1, 1, 1, 1, 1, 1, 1, 1, 1, 1, 1], oagg := [some false, some false, some false, some false, some false, some false, some false, some false, some false, some false, some false], pls := some [(0, 1), (1, 1), (2, 1), (3, 1), (4, 1), (5, 1), (6, 1), (7, 1), (8, 1), (9, 1), (10, 1)], zero := some [AV.d (D.int IntKind.u64 (0)), AV.d (D.int IntKind.u64 (0)), AV.d (D.int IntKind.u32 (0)), AV.d (D.int IntKind.u8 (0)), AV.d (D.int IntKind.u8 (0)), AV.d (D.int IntKind.u8 (0)), AV.d (D.int IntKind.u8 (0)), AV.any, AV.nilp, AV.d (D.int IntKind.i32 (0)), AV.d (D.int IntKind.i32 (0))] } := by kernel_rfl
theorem tl207 : TL Tryz.prog 207 = { ok := true, size := 1, bytes := 8, zero := some [AV.nilp] } := by kernel_rfl
attribute [go_sem] tl0 tl1 tl2 tl3 tl4 tl5 tl6 tl7 tl8 tl9 tl10 tl11 tl12 tl13 tl14 tl15 tl16 tl17 tl18 tl19 tl20 tl21 tl22 tl23 tl24 tl25 tl26 tl27 tl28 tl29 tl30 tl31 tl32 tl33 tl34 tl35 tl36 tl37 tl38 tl39 tl40 tl41 tl42 tl43 tl44 tl45 tl46 tl47 tl48 tl49 tl50 tl51 tl52 tl53 tl54 tl55 tl56 tl57 tl58 tl59 tl60 tl61 tl62 tl63 tl64 tl65 tl66 tl67 tl68 tl69 tl70 tl71 tl72 tl73 tl74 tl75 tl76 tl77 tl78 tl79 tl80 tl81 tl82 tl83 tl84 tl85 tl86 tl87 tl88 tl89 tl90 tl91 tl92 tl93 tl94 tl95 tl96 tl97 tl98 tl99 tl100 tl101 tl102 tl103 tl104 tl105 tl106 tl107 tl108 tl109 tl110 tl111 tl112 tl113 tl114 tl115 tl116 tl117 tl118 tl119 tl120 tl121 tl122 tl123 tl124 tl125 tl126 tl127 tl128 tl129 tl130 tl131 tl132 tl133 tl134 tl135 tl136 tl137 tl138 tl139 tl140 tl141 tl142 tl143 tl144 tl145 tl146 tl147 tl148 tl149 tl150 tl151 tl152 tl153 tl154 tl155 tl156 tl157 tl158 tl159 tl160 tl161 tl162 tl163 tl164 tl165 tl166 tl167 tl168 tl169 tl170 tl171 tl172 tl173 tl174 tl175 tl176 tl177 tl178 tl179 tl180 tl181 tl182 tl183 tl184 tl185 tl186 tl187 tl188 tl189 tl190 tl191 tl192 tl193 tl194 tl195 tl196 tl197 tl198 tl199 tl200 tl201 tl202 tl203 tl204 tl205 tl206 tl207
end Go.Proofs.YtpocnjliigjidaaGreat
