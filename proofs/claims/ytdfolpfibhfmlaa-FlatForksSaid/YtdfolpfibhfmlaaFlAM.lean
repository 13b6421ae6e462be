/- A flat memory: what the laws need of the operations' answers. -/
import Derived.Test.YtdfolpfibhfmlaaFlAL
namespace Go.Proofs.Ytdfolpfibhfmlaa
open Go.RowKit
set_option maxRecDepth 100000
set_option linter.unusedSimpArgs false
set_option linter.unusedVariables false

abbrev SmfRS : Spec := SmfS
theorem SmfR_ok : Ok Try.prog 15 SmfRS := Smf_ok
theorem SmfR_at (al : List Bool) (mp : List Nat) (cs : List Cl) (h1 : al.length ≤ 1000000) (h2 : mp.length ≤ 1000000) (h3 : cs.length ≤ 1000000) : SmfRS.rel [fm al mp cs, fm al mp cs] [] (bv true) [] := by
  have := Smf_at al al mp mp cs cs h1 h1 h2 h2 h3 h3
  rw [decide_eq_true (⟨rfl, rfl, rfl⟩ : al = al ∧ mp = mp ∧ cs = cs)] at this
  exact this
theorem pcO_len8 (al : List Bool) (mp : List Nat) (cs : List Cl) (p g : Int) : (pcO al mp cs p g).length = 8 := by
  by_cases h : mapE al mp cs p g 0 = 0
  · exact pcO_len (flchk_wrd (lvs_zero (mapE_zero h).1).1) p g
  · unfold pcO; rw [if_neg h]; rfl
abbrev Pg8S : Spec := PgS
theorem Pg8_ok : Ok Try.prog 20 Pg8S := Pg_ok
theorem Pg8_at (al : List Bool) (mp : List Nat) (cs : List Cl) (p g : Int) (a b c d e f x y : Nat) (M : Int) (h : U64 mp) (h1 : al.length ≤ 1000000) (h2 : mp.length ≤ 1000000) (h3 : cs.length ≤ 1000000) (hC : pcO al mp cs p g = [a, b, c, d, e, f, x, y]) (hM : mapE al mp cs p g 0 = M) :
    Pg8S.rel [fm al mp cs, iv p, iv g] [] (.tup [.agg [wv (a : Int), wv (b : Int), wv (c : Int), wv (d : Int), wv (e : Int), wv (f : Int), wv (x : Int), wv (y : Int)], iv M]) [] := rPg8_at al mp cs p g a b c d e f x y M h h1 h2 h3 hC hM
abbrev rSmeS : Spec := SmeS
theorem rSme_at (al : List Bool) (mp : List Nat) (cs : List Cl) (p q : Int) (hu : U64 mp) (h1 : al.length ≤ 1000000) (h2 : mp.length ≤ 1000000) (h3 : cs.length ≤ 900000) : rSmeS.rel [fm al mp cs, iv p, iv q] [] (.tup [bv (if lvsE al mp cs [p, q] = 0 then smB mp cs p q else false), iv (lvsE al mp cs [p, q])]) [] := Sme_at al mp cs p q hu h1 h2 h3
end Go.Proofs.Ytdfolpfibhfmlaa
