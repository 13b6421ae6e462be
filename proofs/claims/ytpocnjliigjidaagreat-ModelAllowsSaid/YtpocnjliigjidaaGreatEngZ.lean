import Derived.Test.YtpocnjliigjidaaGreatEngY
import Derived.Laws.BitsAllLaws
/- A flat memory: small functions of both sides, by the engine. -/
namespace Go.Proofs.YtpocnjliigjidaaGreat
open Go.RowKit
set_option maxRecDepth 100000
set_option linter.unusedSimpArgs false
set_option linter.unusedVariables false
abbrev lv131FlA : List (Nat × List Nat) := [(0, [0]), (1, [0, 3]), (2, [3, 6, 7, 8]), (3, [3, 6, 7, 8, 9]), (4, [3, 5, 6, 7, 8]), (5, [3, 5, 6, 7, 8, 14]), (6, [2]), (7, [3, 6, 7, 8]), (8, [2])]
abbrev lv132FlA : List (Nat × List Nat) := [(0, [0, 1]), (1, [0, 1, 5]), (2, [0, 1, 5, 6]), (3, [0, 1, 6, 11]), (4, [12]), (5, [4]), (6, [4]), (7, [0, 1, 13]), (8, [4]), (9, [0, 1, 16]), (10, [4]), (11, [19]), (12, [4]), (13, [4])]
abbrev lv87FlA : List (Nat × List Nat) := [(0, [2, 3]), (1, [2, 3, 11]), (2, [4]), (3, [2, 3, 25]), (4, [4]), (5, [4])]
abbrev Cl := Int × Int × Int × Nat
def encU (n : Nat) : List D := [.int .u64 (n : Int)]
def encCl (c : Cl) : List D := [.int .i64 c.1, .int .i64 c.2.1, .int .i64 c.2.2.1, .int .u64 (c.2.2.2 : Int)]
theorem encUe : Enc encU 1 := ⟨fun _ => rfl, fun x d hd => by simp only [encU, List.mem_singleton] at hd; subst hd; rfl⟩
theorem encCle : Enc encCl 4 := ⟨fun _ => rfl, fun x d hd => by simp only [encCl, List.mem_cons, List.not_mem_nil, or_false] at hd; rcases hd with rfl | rfl | rfl | rfl <;> rfl⟩
abbrev fm (al : List Bool) (mp : List Nat) (cs : List Cl) : AV := .agg [.d (.sl (al.map encDB)), .d (.sl (mp.map encU)), .d (.sl (cs.map encCl))]
abbrev cellA (c : Cl) : AV := .agg [iv c.1, iv c.2.1, iv c.2.2.1, wv (c.2.2.2 : Int)]
abbrev keyA (p g w : Int) : AV := .agg [iv p, iv g, iv w]
def Prc (n : Int) : Prop := 1 ≤ n ∧ n ≤ 8
def Pgs (n : Int) : Prop := 0 ≤ n ∧ n < 64
def Wrd (n : Int) : Prop := 0 ≤ n ∧ n < 8
instance (n : Int) : Decidable (Prc n) := by unfold Prc; infer_instance
instance (n : Int) : Decidable (Pgs n) := by unfold Pgs; infer_instance
instance (n : Int) : Decidable (Wrd n) := by unfold Wrd; infer_instance
def prcS : Spec := { rel := fun args ins res outs => ∃ n : Int, args = [iv n] ∧ ins = [] ∧ res = bv (decide (Prc n)) ∧ outs = [] }
theorem prc_at (n : Int) : prcS.rel [iv n] [] (bv (decide (Prc n))) [] := ⟨n, rfl, rfl, rfl, rfl⟩
abbrev rprcS : Spec := prcS
theorem rprc_at (n : Int) : rprcS.rel [iv n] [] (bv (decide (Prc n))) [] := ⟨n, rfl, rfl, rfl, rfl⟩
theorem prc_ok : Ok Tryz.prog 78 prcS := by
  refine fn_ok prcS Tryz.func78 rfl rfl ?_
  rintro args ins res outs ⟨n, rfl, rfl, rfl, rfl⟩
  refine ⟨by simp [Tryz.ntmps78], fun w0 V Bo mu0 => ?_⟩
  by_cases h1 : 1 ≤ n
  · by_cases h2 : n ≤ 8
    · rw [decide_eq_true (show Prc n from ⟨h1, h2⟩)]
      repeat' (first | refine sA ?_ | ((with_reducible first | refine hK _ ?_ | refine hK _ _ ?_); clear hK K) | ((first | refine sB ?_ | (with_reducible first | refine ops_cons (fun K hK => ?_) | refine W_reg [(0, [0]), (1, [2])] ?_) | with_reducible refine And.intro (fun h => ?_) (fun h => ?_) | with_reducible refine And.intro (by omega) ?_); (try simp only [go_sem, seval, reduceCtorEq, h1, h2, Tryz.ntmps78, Tryz.results78, prcS])) | fail)
    · rw [decide_eq_false (fun h : Prc n => h2 h.2)]
      repeat' (first | refine sA ?_ | ((with_reducible first | refine hK _ ?_ | refine hK _ _ ?_); clear hK K) | ((first | refine sB ?_ | (with_reducible first | refine ops_cons (fun K hK => ?_) | refine W_reg [(0, [0]), (1, [2])] ?_) | with_reducible refine And.intro (fun h => ?_) (fun h => ?_) | with_reducible refine And.intro (by omega) ?_); (try simp only [go_sem, seval, reduceCtorEq, h1, h2, Tryz.ntmps78, Tryz.results78, prcS])) | fail)
  · rw [decide_eq_false (fun h : Prc n => h1 h.1)]
    repeat' (first | refine sA ?_ | ((with_reducible first | refine hK _ ?_ | refine hK _ _ ?_); clear hK K) | ((first | refine sB ?_ | (with_reducible first | refine ops_cons (fun K hK => ?_) | refine W_reg [(0, [0]), (1, [2])] ?_) | with_reducible refine And.intro (fun h => ?_) (fun h => ?_) | with_reducible refine And.intro (by omega) ?_); (try simp only [go_sem, seval, reduceCtorEq, h1, Tryz.ntmps78, Tryz.results78, prcS])) | fail)
theorem rprc_ok : Ok Tryz.prog 85 prcS := by
  refine fn_ok prcS Tryz.func85 rfl rfl ?_
  rintro args ins res outs ⟨n, rfl, rfl, rfl, rfl⟩
  refine ⟨by simp [Tryz.ntmps85], fun w0 V Bo mu0 => ?_⟩
  by_cases h1 : 1 ≤ n
  · by_cases h2 : n ≤ 8
    · rw [decide_eq_true (show Prc n from ⟨h1, h2⟩)]
      repeat' (first | refine sA ?_ | ((with_reducible first | refine hK _ ?_ | refine hK _ _ ?_); clear hK K) | ((first | refine sB ?_ | (with_reducible first | refine ops_cons (fun K hK => ?_) | refine W_reg [(0, [0]), (1, [2])] ?_) | with_reducible refine And.intro (fun h => ?_) (fun h => ?_) | with_reducible refine And.intro (by omega) ?_); (try simp only [go_sem, seval, reduceCtorEq, h1, h2, Tryz.ntmps85, Tryz.results85, prcS])) | fail)
    · rw [decide_eq_false (fun h : Prc n => h2 h.2)]
      repeat' (first | refine sA ?_ | ((with_reducible first | refine hK _ ?_ | refine hK _ _ ?_); clear hK K) | ((first | refine sB ?_ | (with_reducible first | refine ops_cons (fun K hK => ?_) | refine W_reg [(0, [0]), (1, [2])] ?_) | with_reducible refine And.intro (fun h => ?_) (fun h => ?_) | with_reducible refine And.intro (by omega) ?_); (try simp only [go_sem, seval, reduceCtorEq, h1, h2, Tryz.ntmps85, Tryz.results85, prcS])) | fail)
  · rw [decide_eq_false (fun h : Prc n => h1 h.1)]
    repeat' (first | refine sA ?_ | ((with_reducible first | refine hK _ ?_ | refine hK _ _ ?_); clear hK K) | ((first | refine sB ?_ | (with_reducible first | refine ops_cons (fun K hK => ?_) | refine W_reg [(0, [0]), (1, [2])] ?_) | with_reducible refine And.intro (fun h => ?_) (fun h => ?_) | with_reducible refine And.intro (by omega) ?_); (try simp only [go_sem, seval, reduceCtorEq, h1, Tryz.ntmps85, Tryz.results85, prcS])) | fail)
def pgsS : Spec := { rel := fun args ins res outs => ∃ n : Int, args = [iv n] ∧ ins = [] ∧ res = bv (decide (Pgs n)) ∧ outs = [] }
theorem pgs_at (n : Int) : pgsS.rel [iv n] [] (bv (decide (Pgs n))) [] := ⟨n, rfl, rfl, rfl, rfl⟩
abbrev rpgsS : Spec := pgsS
theorem rpgs_at (n : Int) : rpgsS.rel [iv n] [] (bv (decide (Pgs n))) [] := ⟨n, rfl, rfl, rfl, rfl⟩
theorem pgs_ok : Ok Tryz.prog 79 pgsS := by
  refine fn_ok pgsS Tryz.func79 rfl rfl ?_
  rintro args ins res outs ⟨n, rfl, rfl, rfl, rfl⟩
  refine ⟨by simp [Tryz.ntmps79], fun w0 V Bo mu0 => ?_⟩
  by_cases h1 : 0 ≤ n
  · by_cases h2 : n < 64
    · rw [decide_eq_true (show Pgs n from ⟨h1, h2⟩)]
      repeat' (first | refine sA ?_ | ((with_reducible first | refine hK _ ?_ | refine hK _ _ ?_); clear hK K) | ((first | refine sB ?_ | (with_reducible first | refine ops_cons (fun K hK => ?_) | refine W_reg [(0, [0]), (1, [2])] ?_) | with_reducible refine And.intro (fun h => ?_) (fun h => ?_) | with_reducible refine And.intro (by omega) ?_); (try simp only [go_sem, seval, reduceCtorEq, h1, h2, Tryz.ntmps79, Tryz.results79, pgsS])) | fail)
    · rw [decide_eq_false (fun h : Pgs n => h2 h.2)]
      repeat' (first | refine sA ?_ | ((with_reducible first | refine hK _ ?_ | refine hK _ _ ?_); clear hK K) | ((first | refine sB ?_ | (with_reducible first | refine ops_cons (fun K hK => ?_) | refine W_reg [(0, [0]), (1, [2])] ?_) | with_reducible refine And.intro (fun h => ?_) (fun h => ?_) | with_reducible refine And.intro (by omega) ?_); (try simp only [go_sem, seval, reduceCtorEq, h1, h2, Tryz.ntmps79, Tryz.results79, pgsS])) | fail)
  · rw [decide_eq_false (fun h : Pgs n => h1 h.1)]
    repeat' (first | refine sA ?_ | ((with_reducible first | refine hK _ ?_ | refine hK _ _ ?_); clear hK K) | ((first | refine sB ?_ | (with_reducible first | refine ops_cons (fun K hK => ?_) | refine W_reg [(0, [0]), (1, [2])] ?_) | with_reducible refine And.intro (fun h => ?_) (fun h => ?_) | with_reducible refine And.intro (by omega) ?_); (try simp only [go_sem, seval, reduceCtorEq, h1, Tryz.ntmps79, Tryz.results79, pgsS])) | fail)
theorem rpgs_ok : Ok Tryz.prog 53 pgsS := by
  refine fn_ok pgsS Tryz.func53 rfl rfl ?_
  rintro args ins res outs ⟨n, rfl, rfl, rfl, rfl⟩
  refine ⟨by simp [Tryz.ntmps53], fun w0 V Bo mu0 => ?_⟩
  by_cases h1 : 0 ≤ n
  · by_cases h2 : n < 64
    · rw [decide_eq_true (show Pgs n from ⟨h1, h2⟩)]
      repeat' (first | refine sA ?_ | ((with_reducible first | refine hK _ ?_ | refine hK _ _ ?_); clear hK K) | ((first | refine sB ?_ | (with_reducible first | refine ops_cons (fun K hK => ?_) | refine W_reg [(0, [0]), (1, [2])] ?_) | with_reducible refine And.intro (fun h => ?_) (fun h => ?_) | with_reducible refine And.intro (by omega) ?_); (try simp only [go_sem, seval, reduceCtorEq, h1, h2, Tryz.ntmps53, Tryz.results53, pgsS])) | fail)
    · rw [decide_eq_false (fun h : Pgs n => h2 h.2)]
      repeat' (first | refine sA ?_ | ((with_reducible first | refine hK _ ?_ | refine hK _ _ ?_); clear hK K) | ((first | refine sB ?_ | (with_reducible first | refine ops_cons (fun K hK => ?_) | refine W_reg [(0, [0]), (1, [2])] ?_) | with_reducible refine And.intro (fun h => ?_) (fun h => ?_) | with_reducible refine And.intro (by omega) ?_); (try simp only [go_sem, seval, reduceCtorEq, h1, h2, Tryz.ntmps53, Tryz.results53, pgsS])) | fail)
  · rw [decide_eq_false (fun h : Pgs n => h1 h.1)]
    repeat' (first | refine sA ?_ | ((with_reducible first | refine hK _ ?_ | refine hK _ _ ?_); clear hK K) | ((first | refine sB ?_ | (with_reducible first | refine ops_cons (fun K hK => ?_) | refine W_reg [(0, [0]), (1, [2])] ?_) | with_reducible refine And.intro (fun h => ?_) (fun h => ?_) | with_reducible refine And.intro (by omega) ?_); (try simp only [go_sem, seval, reduceCtorEq, h1, Tryz.ntmps53, Tryz.results53, pgsS])) | fail)
def wrdS : Spec := { rel := fun args ins res outs => ∃ n : Int, args = [iv n] ∧ ins = [] ∧ res = bv (decide (Wrd n)) ∧ outs = [] }
theorem wrd_at (n : Int) : wrdS.rel [iv n] [] (bv (decide (Wrd n))) [] := ⟨n, rfl, rfl, rfl, rfl⟩
abbrev rwrdS : Spec := wrdS
theorem rwrd_at (n : Int) : rwrdS.rel [iv n] [] (bv (decide (Wrd n))) [] := ⟨n, rfl, rfl, rfl, rfl⟩
theorem wrd_ok : Ok Tryz.prog 80 wrdS := by
  refine fn_ok wrdS Tryz.func80 rfl rfl ?_
  rintro args ins res outs ⟨n, rfl, rfl, rfl, rfl⟩
  refine ⟨by simp [Tryz.ntmps80], fun w0 V Bo mu0 => ?_⟩
  by_cases h1 : 0 ≤ n
  · by_cases h2 : n < 8
    · rw [decide_eq_true (show Wrd n from ⟨h1, h2⟩)]
      repeat' (first | refine sA ?_ | ((with_reducible first | refine hK _ ?_ | refine hK _ _ ?_); clear hK K) | ((first | refine sB ?_ | (with_reducible first | refine ops_cons (fun K hK => ?_) | refine W_reg [(0, [0]), (1, [2])] ?_) | with_reducible refine And.intro (fun h => ?_) (fun h => ?_) | with_reducible refine And.intro (by omega) ?_); (try simp only [go_sem, seval, reduceCtorEq, h1, h2, Tryz.ntmps80, Tryz.results80, wrdS])) | fail)
    · rw [decide_eq_false (fun h : Wrd n => h2 h.2)]
      repeat' (first | refine sA ?_ | ((with_reducible first | refine hK _ ?_ | refine hK _ _ ?_); clear hK K) | ((first | refine sB ?_ | (with_reducible first | refine ops_cons (fun K hK => ?_) | refine W_reg [(0, [0]), (1, [2])] ?_) | with_reducible refine And.intro (fun h => ?_) (fun h => ?_) | with_reducible refine And.intro (by omega) ?_); (try simp only [go_sem, seval, reduceCtorEq, h1, h2, Tryz.ntmps80, Tryz.results80, wrdS])) | fail)
  · rw [decide_eq_false (fun h : Wrd n => h1 h.1)]
    repeat' (first | refine sA ?_ | ((with_reducible first | refine hK _ ?_ | refine hK _ _ ?_); clear hK K) | ((first | refine sB ?_ | (with_reducible first | refine ops_cons (fun K hK => ?_) | refine W_reg [(0, [0]), (1, [2])] ?_) | with_reducible refine And.intro (fun h => ?_) (fun h => ?_) | with_reducible refine And.intro (by omega) ?_); (try simp only [go_sem, seval, reduceCtorEq, h1, Tryz.ntmps80, Tryz.results80, wrdS])) | fail)
theorem rwrd_ok : Ok Tryz.prog 86 wrdS := by
  refine fn_ok wrdS Tryz.func86 rfl rfl ?_
  rintro args ins res outs ⟨n, rfl, rfl, rfl, rfl⟩
  refine ⟨by simp [Tryz.ntmps86], fun w0 V Bo mu0 => ?_⟩
  by_cases h1 : 0 ≤ n
  · by_cases h2 : n < 8
    · rw [decide_eq_true (show Wrd n from ⟨h1, h2⟩)]
      repeat' (first | refine sA ?_ | ((with_reducible first | refine hK _ ?_ | refine hK _ _ ?_); clear hK K) | ((first | refine sB ?_ | (with_reducible first | refine ops_cons (fun K hK => ?_) | refine W_reg [(0, [0]), (1, [2])] ?_) | with_reducible refine And.intro (fun h => ?_) (fun h => ?_) | with_reducible refine And.intro (by omega) ?_); (try simp only [go_sem, seval, reduceCtorEq, h1, h2, Tryz.ntmps86, Tryz.results86, wrdS])) | fail)
    · rw [decide_eq_false (fun h : Wrd n => h2 h.2)]
      repeat' (first | refine sA ?_ | ((with_reducible first | refine hK _ ?_ | refine hK _ _ ?_); clear hK K) | ((first | refine sB ?_ | (with_reducible first | refine ops_cons (fun K hK => ?_) | refine W_reg [(0, [0]), (1, [2])] ?_) | with_reducible refine And.intro (fun h => ?_) (fun h => ?_) | with_reducible refine And.intro (by omega) ?_); (try simp only [go_sem, seval, reduceCtorEq, h1, h2, Tryz.ntmps86, Tryz.results86, wrdS])) | fail)
  · rw [decide_eq_false (fun h : Wrd n => h1 h.1)]
    repeat' (first | refine sA ?_ | ((with_reducible first | refine hK _ ?_ | refine hK _ _ ?_); clear hK K) | ((first | refine sB ?_ | (with_reducible first | refine ops_cons (fun K hK => ?_) | refine W_reg [(0, [0]), (1, [2])] ?_) | with_reducible refine And.intro (fun h => ?_) (fun h => ?_) | with_reducible refine And.intro (by omega) ?_); (try simp only [go_sem, seval, reduceCtorEq, h1, Tryz.ntmps86, Tryz.results86, wrdS])) | fail)
def pgM (f t : Nat) : Nat := (2 ^ (t - f + 1) - 1) * 2 ^ f
theorem pgM_one (g : Nat) : pgM g g = 2 ^ g := by simp [pgM]
theorem pgM_lt {f t : Nat} (h1 : f ≤ t) (h2 : t < 64) : pgM f t < 18446744073709551616 := by
  unfold pgM
  rw [Nat.sub_mul, Nat.one_mul, ← Nat.pow_add, show t - f + 1 + f = t + 1 by omega]
  have : 2 ^ (t + 1) ≤ 2 ^ 64 := Nat.pow_le_pow_right (by decide) (by omega)
  have := Nat.one_le_two_pow (n := f)
  omega
theorem ones_shr : ∀ d : Fin 64, (18446744073709551615 : Int) / 2 ^ (63 - d.1) = ((2 ^ (d.1 + 1) - 1 : Nat) : Int) := by decide +kernel
def pagesS : Spec := { rel := fun args ins res outs => ∃ f t : Nat, f ≤ t ∧ t < 64 ∧ args = [iv f, iv t] ∧ ins = [] ∧ res = wv (pgM f t : Int) ∧ outs = [] }
theorem pages_at (f t : Nat) (h1 : f ≤ t) (h2 : t < 64) : pagesS.rel [iv f, iv t] [] (wv (pgM f t : Int)) [] := ⟨f, t, h1, h2, rfl, rfl, rfl, rfl⟩
theorem pages_ok : Ok Tryz.prog 81 pagesS := by
  refine fn_ok pagesS Tryz.func81 rfl rfl ?_
  rintro args ins res outs ⟨f, t, h1, h2, rfl, rfl, rfl, rfl⟩
  refine ⟨by simp [Tryz.ntmps81], fun w0 V Bo mu0 => ?_⟩
  have hs := ones_shr ⟨t - f, by omega⟩
  have e1 : (63 : Int) - ((t : Int) - (f : Int)) = ((63 - (t - f) : Nat) : Int) := by omega
  have e2 : (((2 ^ (t - f + 1) - 1 : Nat) : Int)) * 2 ^ f = (pgM f t : Int) := by unfold pgM; push_cast; rfl
  have hlt := pgM_lt h1 h2
  dsimp only at hs
  repeat' (first | refine sA ?_ | ((with_reducible first | refine hK _ ?_ | refine hK _ _ ?_); clear hK K) | ((first | refine sB ?_ | (with_reducible first | refine ops_cons (fun K hK => ?_) | refine W_reg [(0, [0, 1]), (1, [4])] ?_) | with_reducible refine And.intro (fun h => ?_) (fun h => ?_) | with_reducible refine And.intro (by omega) ?_); (try simp only [go_sem, seval, reduceCtorEq, e1, Int.toNat_natCast, hs, e2, Tryz.ntmps81, Tryz.results81, pagesS])) | fail)
def Bef (a b : Cl) : Prop := a.1 < b.1 ∨ (a.1 = b.1 ∧ (a.2.1 < b.2.1 ∨ (a.2.1 = b.2.1 ∧ a.2.2.1 < b.2.2.1)))
instance (a b : Cl) : Decidable (Bef a b) := by unfold Bef; infer_instance
def befS : Spec := { rel := fun args ins res outs => ∃ a b : Cl, args = [cellA a, cellA b] ∧ ins = [] ∧ res = bv (decide (Bef a b)) ∧ outs = [] }
theorem bef_at (a b : Cl) : befS.rel [cellA a, cellA b] [] (bv (decide (Bef a b))) [] := ⟨a, b, rfl, rfl, rfl, rfl⟩
theorem bef_ok : Ok Tryz.prog 87 befS := by
  refine fn_ok befS Tryz.func87 rfl rfl ?_
  rintro args ins res outs ⟨a, b, rfl, rfl, rfl, rfl⟩
  refine ⟨by simp [Tryz.ntmps87], fun w0 V Bo mu0 => ?_⟩
  obtain ⟨p, g, w, v⟩ := a
  obtain ⟨p', g', w', v'⟩ := b
  by_cases h1 : p = p'
  · subst h1
    by_cases h2 : g = g'
    · subst h2
      rw [show decide (Bef (p, g, w, v) (p, g, w', v')) = decide (w < w') by unfold Bef; simp]
      by_cases h3 : w < w'
      · rw [decide_eq_true h3]
        repeat' (first | refine sA ?_ | with_reducible refine W_tf rfl (fun h => ?_) (fun h => ?_) | ((with_reducible first | refine hK _ ?_ | refine hK _ _ ?_); clear hK K) | ((first | refine sB ?_ | (with_reducible first | refine ops_cons (fun K hK => ?_) | refine W_reg lv87FlA ?_) | with_reducible refine And.intro (fun h => ?_) (fun h => ?_) | with_reducible refine And.intro (by omega) ?_); (try simp only [go_sem, seval, reduceCtorEq, h3, lv87FlA, Tryz.ntmps87, Tryz.results87, befS])) | fail)
      · rw [decide_eq_false h3]
        repeat' (first | refine sA ?_ | with_reducible refine W_tf rfl (fun h => ?_) (fun h => ?_) | ((with_reducible first | refine hK _ ?_ | refine hK _ _ ?_); clear hK K) | ((first | refine sB ?_ | (with_reducible first | refine ops_cons (fun K hK => ?_) | refine W_reg lv87FlA ?_) | with_reducible refine And.intro (fun h => ?_) (fun h => ?_) | with_reducible refine And.intro (by omega) ?_); (try simp only [go_sem, seval, reduceCtorEq, h3, lv87FlA, Tryz.ntmps87, Tryz.results87, befS])) | fail)
    · rw [show decide (Bef (p, g, w, v) (p, g', w', v')) = decide (g < g') by unfold Bef; simp [h2]]
      by_cases h3 : g < g'
      · rw [decide_eq_true h3]
        repeat' (first | refine sA ?_ | with_reducible refine W_tf rfl (fun h => ?_) (fun h => ?_) | ((with_reducible first | refine hK _ ?_ | refine hK _ _ ?_); clear hK K) | ((first | refine sB ?_ | (with_reducible first | refine ops_cons (fun K hK => ?_) | refine W_reg lv87FlA ?_) | with_reducible refine And.intro (fun h => ?_) (fun h => ?_) | with_reducible refine And.intro (by omega) ?_); (try simp only [go_sem, seval, reduceCtorEq, h2, h3, lv87FlA, Tryz.ntmps87, Tryz.results87, befS])) | fail)
      · rw [decide_eq_false h3]
        repeat' (first | refine sA ?_ | with_reducible refine W_tf rfl (fun h => ?_) (fun h => ?_) | ((with_reducible first | refine hK _ ?_ | refine hK _ _ ?_); clear hK K) | ((first | refine sB ?_ | (with_reducible first | refine ops_cons (fun K hK => ?_) | refine W_reg lv87FlA ?_) | with_reducible refine And.intro (fun h => ?_) (fun h => ?_) | with_reducible refine And.intro (by omega) ?_); (try simp only [go_sem, seval, reduceCtorEq, h2, h3, lv87FlA, Tryz.ntmps87, Tryz.results87, befS])) | fail)
  · rw [show decide (Bef (p, g, w, v) (p', g', w', v')) = decide (p < p') by unfold Bef; simp [h1]]
    by_cases h3 : p < p'
    · rw [decide_eq_true h3]
      repeat' (first | refine sA ?_ | with_reducible refine W_tf rfl (fun h => ?_) (fun h => ?_) | ((with_reducible first | refine hK _ ?_ | refine hK _ _ ?_); clear hK K) | ((first | refine sB ?_ | (with_reducible first | refine ops_cons (fun K hK => ?_) | refine W_reg lv87FlA ?_) | with_reducible refine And.intro (fun h => ?_) (fun h => ?_) | with_reducible refine And.intro (by omega) ?_); (try simp only [go_sem, seval, reduceCtorEq, h1, h3, lv87FlA, Tryz.ntmps87, Tryz.results87, befS])) | fail)
    · rw [decide_eq_false h3]
      repeat' (first | refine sA ?_ | with_reducible refine W_tf rfl (fun h => ?_) (fun h => ?_) | ((with_reducible first | refine hK _ ?_ | refine hK _ _ ?_); clear hK K) | ((first | refine sB ?_ | (with_reducible first | refine ops_cons (fun K hK => ?_) | refine W_reg lv87FlA ?_) | with_reducible refine And.intro (fun h => ?_) (fun h => ?_) | with_reducible refine And.intro (by omega) ?_); (try simp only [go_sem, seval, reduceCtorEq, h1, h3, lv87FlA, Tryz.ntmps87, Tryz.results87, befS])) | fail)
def cm3 (a b : Int) : Int := if a < b then -1 else if b < a then 1 else 0
def isNaNS : Spec := { rel := fun args ins res outs => ∃ a : Int, args = [iv a] ∧ ins = [] ∧ res = bv false ∧ outs = [] }
theorem isNaN_at (a : Int) : isNaNS.rel [iv a] [] (bv false) [] := ⟨a, rfl, rfl, rfl, rfl⟩
theorem isNaN_ok : Ok Tryz.prog 153 isNaNS := by
  refine fn_ok isNaNS Tryz.func153 rfl rfl ?_
  rintro args ins res outs ⟨a, rfl, rfl, rfl, rfl⟩
  refine ⟨by simp [Tryz.ntmps153], fun w0 V Bo mu0 => ?_⟩
  repeat' (first | refine sA ?_ | ((with_reducible first | refine hK _ ?_ | refine hK _ _ ?_); clear hK K) | ((first | refine sB ?_ | (with_reducible first | refine ops_cons (fun K hK => ?_) | refine W_reg [(0, [0]), (1, [2])] ?_) | with_reducible refine And.intro (fun h => ?_) (fun h => ?_) | with_reducible refine And.intro (by omega) ?_); (try simp only [go_sem, seval, reduceCtorEq, Tryz.ntmps153, Tryz.results153, isNaNS])) | fail)
def cmpS : Spec := { rel := fun args ins res outs => ∃ a b : Int, args = [iv a, iv b] ∧ ins = [] ∧ res = iv (cm3 a b) ∧ outs = [] }
theorem cmp_at (a b : Int) : cmpS.rel [iv a, iv b] [] (iv (cm3 a b)) [] := ⟨a, b, rfl, rfl, rfl, rfl⟩
theorem cmp_ok : Ok Tryz.prog 132 cmpS := by
  refine fn_ok cmpS Tryz.func132 rfl rfl ?_
  rintro args ins res outs ⟨a, b, rfl, rfl, rfl, rfl⟩
  refine ⟨by simp [Tryz.ntmps132], fun w0 V Bo mu0 => ?_⟩
  unfold cm3
  by_cases h1 : a < b
  · rw [if_pos h1]
    repeat' (first | refine sA ?_ | with_reducible refine W_tf rfl (fun h => ?_) (fun h => ?_) | ((with_reducible first | refine hK _ ?_ | refine hK _ _ ?_); clear hK K) | ((first | refine sB ?_ | (with_reducible first | refine ops_cons (fun K hK => ?_) | refine W_reg lv132FlA ?_) | with_reducible refine callV_snap ?_ | ((with_reducible refine call_go isNaNS isNaN_ok ?_); refine ⟨alk, _, _, isNaN_at a, ?_⟩) | ((with_reducible refine call_go isNaNS isNaN_ok ?_); refine ⟨alk, _, _, isNaN_at b, ?_⟩) | with_reducible refine And.intro (fun h => ?_) (fun h => ?_) | with_reducible refine And.intro (by omega) ?_); (try simp only [go_sem, seval, reduceCtorEq, h1, lv132FlA, Tryz.ntmps132, Tryz.results132, cmpS])) | fail)
  · rw [if_neg h1]
    by_cases h2 : b < a
    · rw [if_pos h2]
      repeat' (first | refine sA ?_ | with_reducible refine W_tf rfl (fun h => ?_) (fun h => ?_) | ((with_reducible first | refine hK _ ?_ | refine hK _ _ ?_); clear hK K) | ((first | refine sB ?_ | (with_reducible first | refine ops_cons (fun K hK => ?_) | refine W_reg lv132FlA ?_) | with_reducible refine callV_snap ?_ | ((with_reducible refine call_go isNaNS isNaN_ok ?_); refine ⟨alk, _, _, isNaN_at a, ?_⟩) | ((with_reducible refine call_go isNaNS isNaN_ok ?_); refine ⟨alk, _, _, isNaN_at b, ?_⟩) | with_reducible refine And.intro (fun h => ?_) (fun h => ?_) | with_reducible refine And.intro (by omega) ?_); (try simp only [go_sem, seval, reduceCtorEq, h1, h2, lv132FlA, Tryz.ntmps132, Tryz.results132, cmpS])) | fail)
    · rw [if_neg h2]
      repeat' (first | refine sA ?_ | with_reducible refine W_tf rfl (fun h => ?_) (fun h => ?_) | ((with_reducible first | refine hK _ ?_ | refine hK _ _ ?_); clear hK K) | ((first | refine sB ?_ | (with_reducible first | refine ops_cons (fun K hK => ?_) | refine W_reg lv132FlA ?_) | with_reducible refine callV_snap ?_ | ((with_reducible refine call_go isNaNS isNaN_ok ?_); refine ⟨alk, _, _, isNaN_at a, ?_⟩) | ((with_reducible refine call_go isNaNS isNaN_ok ?_); refine ⟨alk, _, _, isNaN_at b, ?_⟩) | with_reducible refine And.intro (fun h => ?_) (fun h => ?_) | with_reducible refine And.intro (by omega) ?_); (try simp only [go_sem, seval, reduceCtorEq, h1, h2, lv132FlA, Tryz.ntmps132, Tryz.results132, cmpS])) | fail)
def orS : Spec := { rel := fun args ins res outs => ∃ a b c : Int, args = [.d (.sl [[.int .i64 a], [.int .i64 b], [.int .i64 c]])] ∧ ins = [] ∧ res = iv (if a ≠ 0 then a else if b ≠ 0 then b else c) ∧ outs = [] }
theorem or_at (a b c : Int) : orS.rel [.d (.sl [[.int .i64 a], [.int .i64 b], [.int .i64 c]])] [] (iv (if a ≠ 0 then a else if b ≠ 0 then b else c)) [] := ⟨a, b, c, rfl, rfl, rfl, rfl⟩
theorem or_ok : Ok Tryz.prog 131 orS := by
  refine fn_ok orS Tryz.func131 rfl rfl ?_
  rintro args ins res outs ⟨a, b, c, rfl, rfl, rfl, rfl⟩
  refine ⟨by simp [Tryz.ntmps131], fun w0 V Bo mu0 => ?_⟩
  by_cases h1 : a = 0
  · rw [if_neg (by simpa using h1)]
    by_cases h2 : b = 0
    · rw [if_neg (by simpa using h2)]
      by_cases h3 : c = 0
      · skip
        repeat' (first | refine sA ?_ | with_reducible refine W_tf rfl (fun h => ?_) (fun h => ?_) | ((with_reducible first | refine hK _ ?_ | refine hK _ _ ?_); clear hK K) | (with_reducible refine W_rounds 4 ?_) | (with_reducible refine Wn_succ ?_) | ((first | refine sB ?_ | (with_reducible first | refine ops_cons (fun K hK => ?_) | refine W_reg lv131FlA ?_) | with_reducible refine callV_snap ?_ | with_reducible refine And.intro (fun h => ?_) (fun h => ?_) | with_reducible refine And.intro (by omega) ?_); (try simp only [go_sem, seval, reduceCtorEq, h1, h2, h3, lv131FlA, Tryz.ntmps131, Tryz.results131, orS])) | fail)
      · skip
        repeat' (first | refine sA ?_ | with_reducible refine W_tf rfl (fun h => ?_) (fun h => ?_) | ((with_reducible first | refine hK _ ?_ | refine hK _ _ ?_); clear hK K) | (with_reducible refine W_rounds 4 ?_) | (with_reducible refine Wn_succ ?_) | ((first | refine sB ?_ | (with_reducible first | refine ops_cons (fun K hK => ?_) | refine W_reg lv131FlA ?_) | with_reducible refine callV_snap ?_ | with_reducible refine And.intro (fun h => ?_) (fun h => ?_) | with_reducible refine And.intro (by omega) ?_); (try simp only [go_sem, seval, reduceCtorEq, h1, h2, h3, lv131FlA, Tryz.ntmps131, Tryz.results131, orS])) | fail)
    · rw [if_pos h2]
      repeat' (first | refine sA ?_ | with_reducible refine W_tf rfl (fun h => ?_) (fun h => ?_) | ((with_reducible first | refine hK _ ?_ | refine hK _ _ ?_); clear hK K) | (with_reducible refine W_rounds 4 ?_) | (with_reducible refine Wn_succ ?_) | ((first | refine sB ?_ | (with_reducible first | refine ops_cons (fun K hK => ?_) | refine W_reg lv131FlA ?_) | with_reducible refine callV_snap ?_ | with_reducible refine And.intro (fun h => ?_) (fun h => ?_) | with_reducible refine And.intro (by omega) ?_); (try simp only [go_sem, seval, reduceCtorEq, h1, h2, lv131FlA, Tryz.ntmps131, Tryz.results131, orS])) | fail)
  · rw [if_pos h1]
    repeat' (first | refine sA ?_ | with_reducible refine W_tf rfl (fun h => ?_) (fun h => ?_) | ((with_reducible first | refine hK _ ?_ | refine hK _ _ ?_); clear hK K) | (with_reducible refine W_rounds 4 ?_) | (with_reducible refine Wn_succ ?_) | ((first | refine sB ?_ | (with_reducible first | refine ops_cons (fun K hK => ?_) | refine W_reg lv131FlA ?_) | with_reducible refine callV_snap ?_ | with_reducible refine And.intro (fun h => ?_) (fun h => ?_) | with_reducible refine And.intro (by omega) ?_); (try simp only [go_sem, seval, reduceCtorEq, h1, lv131FlA, Tryz.ntmps131, Tryz.results131, orS])) | fail)
def cmK (p g w p' g' w' : Int) : Int := if cm3 p p' ≠ 0 then cm3 p p' else if cm3 g g' ≠ 0 then cm3 g g' else cm3 w w'
def compareS : Spec := { rel := fun args ins res outs => ∃ p g w p' g' w' : Int, args = [keyA p g w, keyA p' g' w'] ∧ ins = [] ∧ res = iv (cmK p g w p' g' w') ∧ outs = [] }
theorem compare_at (p g w p' g' w' : Int) : compareS.rel [keyA p g w, keyA p' g' w'] [] (iv (cmK p g w p' g' w')) [] := ⟨p, g, w, p', g', w', rfl, rfl, rfl, rfl⟩
theorem compare_ok : Ok Tryz.prog 82 compareS := by
  refine fn_ok compareS Tryz.func82 rfl rfl ?_
  rintro args ins res outs ⟨p, g, w, p', g', w', rfl, rfl, rfl, rfl⟩
  refine ⟨by simp [Tryz.ntmps82], fun w0 V Bo mu0 => ?_⟩
  unfold cmK
  repeat' (first | refine sA ?_ | ((with_reducible first | refine hK _ ?_ | refine hK _ _ ?_); clear hK K) | ((first | refine sB ?_ | (with_reducible first | refine ops_cons (fun K hK => ?_) | refine opsd_cons (fun K hK => ?_) | refine W_reg [(0, [2, 3]), (1, [4])] ?_ | refine W_drw [(0, [2, 3]), (1, [4])] (by kernel_rfl) ?_) | ((with_reducible refine opsd_nil ?_); refine And.intro (by kernel_rfl) ?_) | with_reducible refine callV_snap ?_ | ((with_reducible refine call_go cmpS cmp_ok ?_); refine ⟨alk, _, _, cmp_at p p', ?_⟩) | ((with_reducible refine call_go cmpS cmp_ok ?_); refine ⟨alk, _, _, cmp_at g g', ?_⟩) | ((with_reducible refine call_go cmpS cmp_ok ?_); refine ⟨alk, _, _, cmp_at w w', ?_⟩) | ((with_reducible refine call_go orS or_ok ?_); refine ⟨alk, _, _, or_at _ _ _, ?_⟩) | with_reducible refine And.intro (fun h => ?_) (fun h => ?_) | with_reducible refine And.intro (by omega) ?_); (try simp only [go_sem, seval, reduceCtorEq, Tryz.ntmps82, Tryz.results82, compareS])) | fail)
def keyOfS : Spec := { rel := fun args ins res outs => ∃ c : Cl, args = [cellA c] ∧ ins = [] ∧ res = keyA c.1 c.2.1 c.2.2.1 ∧ outs = [] }
theorem keyOf_at (c : Cl) : keyOfS.rel [cellA c] [] (keyA c.1 c.2.1 c.2.2.1) [] := ⟨c, rfl, rfl, rfl, rfl⟩
theorem keyOf_ok : Ok Tryz.prog 83 keyOfS := by
  refine fn_ok keyOfS Tryz.func83 rfl rfl ?_
  rintro args ins res outs ⟨c, rfl, rfl, rfl, rfl⟩
  refine ⟨by simp [Tryz.ntmps83], fun w0 V Bo mu0 => ?_⟩
  repeat' (first | refine sA ?_ | ((with_reducible first | refine hK _ ?_ | refine hK _ _ ?_); clear hK K) | ((first | refine sB ?_ | (with_reducible first | refine ops_cons (fun K hK => ?_) | refine W_reg [(0, [1, 2]), (1, [2])] ?_) | with_reducible refine And.intro (fun h => ?_) (fun h => ?_) | with_reducible refine And.intro (by omega) ?_); (try simp only [go_sem, seval, reduceCtorEq, Tryz.ntmps83, Tryz.results83, keyOfS])) | fail)
theorem cmK_bef (a b : Cl) : (0 ≤ cmK a.1 a.2.1 a.2.2.1 b.1 b.2.1 b.2.2.1) ↔ ¬ Bef a b := by
  unfold cmK cm3 Bef
  by_cases h1 : a.1 < b.1
  · simp [h1]
  · by_cases h2 : b.1 < a.1
    · simp [h1, h2] <;> omega
    · have : a.1 = b.1 := by omega
      by_cases h3 : a.2.1 < b.2.1
      · simp [h1, h2, h3] <;> omega
      · by_cases h4 : b.2.1 < a.2.1
        · simp [h1, h2, h3, h4] <;> omega
        · by_cases h5 : a.2.2.1 < b.2.2.1
          · simp [h1, h2, h3, h4, h5] <;> omega
          · by_cases h6 : b.2.2.1 < a.2.2.1
            · simp [h1, h2, h3, h4, h5, h6] <;> omega
            · simp [h1, h2, h3, h4, h5, h6] <;> omega
end Go.Proofs.YtpocnjliigjidaaGreat
namespace Go.Proofs.YtpocnjliigjidaaGreat
open Go.RowKit
set_option linter.unusedSimpArgs false
set_option linter.unusedVariables false
end Go.Proofs.YtpocnjliigjidaaGreat
