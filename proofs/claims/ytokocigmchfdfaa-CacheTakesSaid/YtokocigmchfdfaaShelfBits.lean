/- The kit's contracts of math/bits at this program. -/
import Derived.Shelf.Small.Bits
import Derived.Test.YtokocigmchfdfaaProg
namespace Go.Proofs.Ytokocigmchfdfaa
open Go.Shelf
def lays135_ren : Go.Shelf.Ren := ⟨fun | 135 => 57 | n => n, fun | 5 => 5 | 3 => 3 | 9 => 9 | n => n, fun | n => n⟩
theorem lays135 : Go.Proofs.Lays.n135 Try.prog lays135_ren := {
  mixed := by kernel_rfl
  f135 := Try.func57.trans (congrArg some (by kernel_rfl))
  t3 := Try.underlying3
  a3 := Try.isAgg3
  z3 := Try.sizeOf3
  v3 := Try.zeroValue3
  t5 := Try.underlying5
  a5 := Try.isAgg5
  z5 := Try.sizeOf5
  v5 := Try.zeroValue5
  t9 := Try.underlying9
  a9 := Try.isAgg9
  z9 := Try.sizeOf9
  v9 := Try.zeroValue9 }
theorem bits_OnesCount8 (x : Int) (w : World) (h0 : 0 ≤ x) (h1 : x ≤ 255) :
    Calls Try.prog 57 #[.int .u8 x] w fun e w' => e = .returned (.int .i64 (Lib.onesCount x.toNat)) ∧ w = w' := (Any.bits_OnesCount8 lays135 x w h0 h1).mono fun _ _ ⟨h, k⟩ => ⟨h, k.symm⟩
def lays136_ren : Go.Shelf.Ren := ⟨fun | 136 => 54 | n => n, fun | 5 => 5 | 3 => 3 | 9 => 9 | n => n, fun | n => n⟩
theorem lays136 : Go.Proofs.Lays.n136 Try.prog lays136_ren := {
  mixed := by kernel_rfl
  f136 := Try.func54.trans (congrArg some (by kernel_rfl))
  t3 := Try.underlying3
  a3 := Try.isAgg3
  z3 := Try.sizeOf3
  v3 := Try.zeroValue3
  t5 := Try.underlying5
  a5 := Try.isAgg5
  z5 := Try.sizeOf5
  v5 := Try.zeroValue5
  t9 := Try.underlying9
  a9 := Try.isAgg9
  z9 := Try.sizeOf9
  v9 := Try.zeroValue9 }
theorem bits_TrailingZeros8 (x : Int) (w : World) (h0 : 0 ≤ x) (h1 : x ≤ 255) :
    Calls Try.prog 54 #[.int .u8 x] w fun e w' => e = .returned (.int .i64 (Lib.trailingZeros8 x.toNat)) ∧ w = w' := (Any.bits_TrailingZeros8 lays136 x w h0 h1).mono fun _ _ ⟨h, k⟩ => ⟨h, k.symm⟩
def lays126_ren : Go.Shelf.Ren := ⟨fun | 126 => 53 | n => n, fun | 5 => 5 | 3 => 3 | 9 => 9 | n => n, fun | n => n⟩
theorem lays126 : Go.Proofs.Lays.n126 Try.prog lays126_ren := {
  mixed := by kernel_rfl
  f126 := Try.func53.trans (congrArg some (by kernel_rfl))
  t3 := Try.underlying3
  a3 := Try.isAgg3
  z3 := Try.sizeOf3
  v3 := Try.zeroValue3
  t5 := Try.underlying5
  a5 := Try.isAgg5
  z5 := Try.sizeOf5
  v5 := Try.zeroValue5
  t9 := Try.underlying9
  a9 := Try.isAgg9
  z9 := Try.sizeOf9
  v9 := Try.zeroValue9 }
theorem bits_Len8 (x : Int) (w : World) (h0 : 0 ≤ x) (h1 : x ≤ 255) :
    Calls Try.prog 53 #[.int .u8 x] w fun e w' => e = .returned (.int .i64 (Lib.bitLen x.toNat)) ∧ w = w' := (Any.bits_Len8 lays126 x w h0 h1).mono fun _ _ ⟨h, k⟩ => ⟨h, k.symm⟩
end Go.Proofs.Ytokocigmchfdfaa
