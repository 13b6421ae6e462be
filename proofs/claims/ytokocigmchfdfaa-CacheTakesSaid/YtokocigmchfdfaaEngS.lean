/- Engine, part S: the object of a call's first argument is lent. -/
import Derived.Test.YtokocigmchfdfaaEngQ
set_option linter.unusedSimpArgs false
set_option linter.unusedVariables false
namespace Go.Proofs.Ytokocigmchfdfaa
open Go.RowKit

theorem callV_row {P : Program} {n : Nat} {oo : Oper} {σ : St} {f : FuncId} {caps xs : List AV} {K : Eff → Prop} {i sz o len : Nat} (s : Spec) (hok : Ok P f s)
    (h : lendAs [i] σ.H ((.row i sz o len :: xs) ++ caps) fun ys rd => insV [i] σ.H [i] fun ins => alOk s rd ∧ disj [i] rd = true ∧ ∃ res outs, s.rel ys ins res outs ∧ K (lendE σ.h.length [i] s.dead res outs rd)) : callV P n oo σ (.fn f caps) (.row i sz o len :: xs) K := callV_lend s [i] hok (by simp [distinct]) h
theorem callV_ptr {P : Program} {n : Nat} {oo : Oper} {σ : St} {f : FuncId} {caps xs : List AV} {K : Eff → Prop} {i off : Nat} (s : Spec) (hok : Ok P f s)
    (h : lendAs [i] σ.H ((.ptr i off :: xs) ++ caps) fun ys rd => insV [i] σ.H [i] fun ins => alOk s rd ∧ disj [i] rd = true ∧ ∃ res outs, s.rel ys ins res outs ∧ K (lendE σ.h.length [i] s.dead res outs rd)) : callV P n oo σ (.fn f caps) (.ptr i off :: xs) K := callV_lend s [i] hok (by simp [distinct]) h
end Go.Proofs.Ytokocigmchfdfaa
