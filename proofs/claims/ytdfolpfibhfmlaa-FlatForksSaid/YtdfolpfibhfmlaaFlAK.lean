/- A flat memory: known values, by the engine. -/
import Derived.Test.YtdfolpfibhfmlaaFlAJ
import Derived.Test.YtdfolpfibhfmlaaFlAH
namespace Go.Proofs.Ytdfolpfibhfmlaa
open Go.RowKit
set_option maxRecDepth 100000
set_option linter.unusedSimpArgs false
set_option linter.unusedVariables false

def rdsB (al : List Bool) (mp : List Nat) (cs : List Cl) (p g w : Int) (v : Nat) : Bool := decide (mapE al mp cs p g w = 0 ∧ rdV cs p g w.toNat = v)
def rdsS : Spec := { rel := fun args ins res outs => ∃ (al : List Bool) (mp : List Nat) (cs : List Cl) (p g w : Int) (v : Nat), U64 mp ∧ al.length ≤ 1000000 ∧ mp.length ≤ 1000000 ∧ cs.length ≤ 1000000 ∧ args = [fm al mp cs, iv p, iv g, iv w, wv (v : Int)] ∧ ins = [] ∧ res = bv (rdsB al mp cs p g w v) ∧ outs = [] }
theorem rds_at (al : List Bool) (mp : List Nat) (cs : List Cl) (p g w : Int) (v : Nat) (hu : U64 mp) (la : al.length ≤ 1000000) (lm : mp.length ≤ 1000000) (lc : cs.length ≤ 1000000) : rdsS.rel [fm al mp cs, iv p, iv g, iv w, wv (v : Int)] [] (bv (rdsB al mp cs p g w v)) [] := ⟨al, mp, cs, p, g, w, v, hu, la, lm, lc, rfl, rfl, rfl, rfl⟩
set_option maxHeartbeats 1000000 in
theorem rds_ok : Ok Try.prog 29 rdsS := by
  refine fn_ok rdsS Try.func29 rfl rfl ?_
  rintro args ins res outs ⟨al, mp, cs, p, g, w, v, hu, la, lm, lc, rfl, rfl, rfl, rfl⟩
  refine ⟨by simp [Try.ntmps29], fun w0 V Bo mu0 => ?_⟩
  have L0 := Rd_at al mp cs p g w hu la lm lc
  unfold rdsB
  generalize mapE al mp cs p g w = E at *
  generalize rdV cs p g w.toNat = r at *
  by_cases h0 : E = 0
  · subst h0
    have Rd_at : RdS.rel [fm al mp cs, iv p, iv g, iv w] [] (.tup [wv (r : Int), iv 0]) [] := L0
    by_cases hv : r = v
    · rw [decide_eq_true (⟨rfl, hv⟩ : (0 : Int) = 0 ∧ r = v)]
      subst hv
      repeat' (first
        | (with_reducible first | refine W_seq ?_ | refine endQ_ret ?_ | refine endQ_normal ?_)
        | ((with_reducible first | refine hK _ ?_ | refine hK _ _ ?_); clear hK K)
        | ((first | (with_reducible first | refine ops_cons (fun K hK => ?_) | refine ops_nil ?_) | with_reducible refine callV_snap ?_ | ((with_reducible refine call_go RdS Rd_ok ?_); refine ⟨(by first | exact alOk_nil _ | exact alOk_f rfl), _, _, Rd_at , ?_⟩) | (with_reducible first | refine W_reg [(0, [1, 2, 3, 4, 5]), (1, [4, 11, 12]), (2, [10])] ?_ | refine W_ret ?_ | refine end_at0 ?_) | (with_reducible refine And.intro (fun h => ?_) (fun h => ?_)) | (with_reducible refine And.intro (by omega) ?_)); (try simp only [go_sem, seval, reduceCtorEq, Try.ntmps29, Try.results29, rdsS]))
        | fail)
    · rw [decide_eq_false (fun h : (0 : Int) = 0 ∧ r = v => hv h.2)]
      have hv' : ¬ (r : Int) = (v : Int) := by omega
      repeat' (first
        | (with_reducible first | refine W_seq ?_ | refine endQ_ret ?_ | refine endQ_normal ?_)
        | ((with_reducible first | refine hK _ ?_ | refine hK _ _ ?_); clear hK K)
        | ((first | (with_reducible first | refine ops_cons (fun K hK => ?_) | refine ops_nil ?_) | with_reducible refine callV_snap ?_ | ((with_reducible refine call_go RdS Rd_ok ?_); refine ⟨(by first | exact alOk_nil _ | exact alOk_f rfl), _, _, Rd_at , ?_⟩) | (with_reducible first | refine W_reg [(0, [1, 2, 3, 4, 5]), (1, [4, 11, 12]), (2, [10])] ?_ | refine W_ret ?_ | refine end_at0 ?_) | (with_reducible refine And.intro (fun h => ?_) (fun h => ?_)) | (with_reducible refine And.intro (by omega) ?_)); (try simp only [go_sem, seval, reduceCtorEq, hv', Try.ntmps29, Try.results29, rdsS]))
        | fail)
  · rw [if_neg h0] at L0
    have Rd_at : RdS.rel [fm al mp cs, iv p, iv g, iv w] [] (.tup [wv ((0 : Nat) : Int), iv E]) [] := L0
    rw [decide_eq_false (fun h : E = 0 ∧ r = v => h0 h.1)]
    repeat' (first
      | (with_reducible first | refine W_seq ?_ | refine endQ_ret ?_ | refine endQ_normal ?_)
      | ((with_reducible first | refine hK _ ?_ | refine hK _ _ ?_); clear hK K)
      | ((first | (with_reducible first | refine ops_cons (fun K hK => ?_) | refine ops_nil ?_) | with_reducible refine callV_snap ?_ | ((with_reducible refine call_go RdS Rd_ok ?_); refine ⟨(by first | exact alOk_nil _ | exact alOk_f rfl), _, _, Rd_at , ?_⟩) | (with_reducible first | refine W_reg [(0, [1, 2, 3, 4, 5]), (1, [4, 11, 12]), (2, [10])] ?_ | refine W_ret ?_ | refine end_at0 ?_) | (with_reducible refine And.intro (fun h => ?_) (fun h => ?_)) | (with_reducible refine And.intro (by omega) ?_)); (try simp only [go_sem, seval, reduceCtorEq, h0, Try.ntmps29, Try.results29, rdsS]))
      | fail)
def ka0 : List Bool := [false, false, false, false, false, false, false, false]
theorem ka0_len : ka0.length = 8 := rfl
def ka1 : List Bool := [true, false, false, false, false, false, false, false]
theorem ka1_len : ka1.length = 8 := rfl
def ka4 : List Bool := [true, true, false, false, false, false, false, false]
theorem ka4_len : ka4.length = 8 := rfl
def kan : List Bool := []
theorem kan_len : kan.length = 0 := rfl
def km0 : List Nat := [0, 0, 0, 0, 0, 0, 0, 0]
theorem km0_len : km0.length = 8 := rfl
def km2 : List Nat := [12, 0, 0, 0, 0, 0, 0, 0]
theorem km2_len : km2.length = 8 := rfl
def km4 : List Nat := [12, 12, 0, 0, 0, 0, 0, 0]
theorem km4_len : km4.length = 8 := rfl
def km6 : List Nat := [4, 12, 0, 0, 0, 0, 0, 0]
theorem km6_len : km6.length = 8 := rfl
def kmn : List Nat := []
theorem kmn_len : kmn.length = 0 := rfl
def kc0 : List Cl := []
theorem kc0_len : kc0.length = 0 := rfl
def kc3 : List Cl := [(1, 3, 7, 9)]
theorem kc3_len : kc3.length = 1 := rfl
def kc4 : List Cl := [(1, 3, 7, 9), (2, 3, 7, 9)]
theorem kc4_len : kc4.length = 2 := rfl
def kc5 : List Cl := [(1, 3, 7, 9), (2, 3, 7, 8)]
theorem kc5_len : kc5.length = 2 := rfl
def kc6 : List Cl := [(2, 3, 7, 9)]
theorem kc6_len : kc6.length = 1 := rfl
theorem kU64 (l : List Nat) (h : l.all (fun n => decide (n < 18446744073709551616)) = true) : U64 l := fun n hn => by simpa using List.all_eq_true.1 h n hn
abbrev kSpnS : Spec := SpnFS
theorem kSpn_ok : Ok Try.prog 27 kSpnS := SpnF_ok
theorem kSpn_val : spnF ka0 km0 kc0 1 = ((ka1, km0, kc0), 0) := by kernel_rfl
theorem kSpn_at : kSpnS.rel [fm ka0 km0 kc0, iv 1] [] (.tup [fm ka1 km0 kc0, iv 0]) [] := by
  have := SpnF_at ka0 km0 kc0 1 (kU64 _ rfl) (by decide) (by decide) (by decide)
  rw [kSpn_val] at this
  exact this
abbrev kMapS : Spec := MapFS
theorem kMap_ok : Ok Try.prog 26 kMapS := MapF_ok
theorem kMap_val : mapF ka1 km0 kc0 1 2 3 = ((ka1, km2, kc0), 0) := by kernel_rfl
theorem kMap_at : kMapS.rel [fm ka1 km0 kc0, iv 1, iv 2, iv 3] [] (.tup [fm ka1 km2 kc0, iv 0]) [] := by
  have := MapF_at ka1 km0 kc0 1 2 3 (kU64 _ rfl) (by decide) (by decide) (by decide)
  rw [kMap_val] at this
  exact this
abbrev kWrtS : Spec := WrtFS
theorem kWrt_ok : Ok Try.prog 13 kWrtS := WrtF_ok
theorem kWrt_val : wrtF ka1 km2 kc0 1 3 7 9 = ((ka1, km2, kc3), 0) := by kernel_rfl
theorem kWrt_at : kWrtS.rel [fm ka1 km2 kc0, iv 1, iv 3, iv 7, wv ((9 : Nat) : Int)] [] (.tup [fm ka1 km2 kc3, iv 0]) [] := by
  have := WrtF_at ka1 km2 kc0 1 3 7 9 (kU64 _ rfl) (by decide) (by decide) (by decide)
  rw [kWrt_val] at this
  exact this
abbrev kFrkS : Spec := FrkFS
theorem kFrk_ok : Ok Try.prog 28 kFrkS := FrkF_ok
theorem kFrk_val : frkF ka1 km2 kc3 1 2 = ((ka4, km4, kc4), 0) := by kernel_rfl
theorem kFrk_at : kFrkS.rel [fm ka1 km2 kc3, iv 1, iv 2] [] (.tup [fm ka4 km4 kc4, iv 0]) [] := by
  have := FrkF_at ka1 km2 kc3 1 2 (kU64 _ rfl) (by decide) (by decide) (by decide)
  rw [kFrk_val] at this
  exact this
abbrev kWrBS : Spec := WrtFS
theorem kWrB_ok : Ok Try.prog 13 kWrBS := WrtF_ok
theorem kWrB_val : wrtF ka4 km4 kc4 2 3 7 8 = ((ka4, km4, kc5), 0) := by kernel_rfl
theorem kWrB_at : kWrBS.rel [fm ka4 km4 kc4, iv 2, iv 3, iv 7, wv ((8 : Nat) : Int)] [] (.tup [fm ka4 km4 kc5, iv 0]) [] := by
  have := WrtF_at ka4 km4 kc4 2 3 7 8 (kU64 _ rfl) (by decide) (by decide) (by decide)
  rw [kWrB_val] at this
  exact this
abbrev kUnBS : Spec := UnmFS
theorem kUnB_ok : Ok Try.prog 25 kUnBS := UnmF_ok
theorem kUnB_val : unmF ka4 km4 kc4 1 3 3 = ((ka4, km6, kc6), 0) := by kernel_rfl
theorem kUnB_at : kUnBS.rel [fm ka4 km4 kc4, iv 1, iv 3, iv 3] [] (.tup [fm ka4 km6 kc6, iv 0]) [] := by
  have := UnmF_at ka4 km4 kc4 1 3 3 (kU64 _ rfl) (by decide) (by decide) (by decide)
  rw [kUnB_val] at this
  exact this
abbrev kMaBS : Spec := MapFS
theorem kMaB_ok : Ok Try.prog 26 kMaBS := MapF_ok
theorem kMaB_val : mapF ka4 km6 kc6 1 3 3 = ((ka4, km4, kc6), 0) := by kernel_rfl
theorem kMaB_at : kMaBS.rel [fm ka4 km6 kc6, iv 1, iv 3, iv 3] [] (.tup [fm ka4 km4 kc6, iv 0]) [] := by
  have := MapF_at ka4 km6 kc6 1 3 3 (kU64 _ rfl) (by decide) (by decide) (by decide)
  rw [kMaB_val] at this
  exact this
abbrev kMaCS : Spec := MapFS
theorem kMaC_ok : Ok Try.prog 26 kMaCS := MapF_ok
theorem kMaC_val : mapF ka4 km4 kc4 1 3 4 = ((kan, kmn, kc0), 7) := by kernel_rfl
theorem kMaC_at : kMaCS.rel [fm ka4 km4 kc4, iv 1, iv 3, iv 4] [] (.tup [fm kan kmn kc0, iv 7]) [] := by
  have := MapF_at ka4 km4 kc4 1 3 4 (kU64 _ rfl) (by decide) (by decide) (by decide)
  rw [kMaC_val] at this
  exact this
abbrev kUnCS : Spec := UnmFS
theorem kUnC_ok : Ok Try.prog 25 kUnCS := UnmF_ok
theorem kUnC_val : unmF ka4 km4 kc4 1 1 2 = ((kan, kmn, kc0), 6) := by kernel_rfl
theorem kUnC_at : kUnCS.rel [fm ka4 km4 kc4, iv 1, iv 1, iv 2] [] (.tup [fm kan kmn kc0, iv 6]) [] := by
  have := UnmF_at ka4 km4 kc4 1 1 2 (kU64 _ rfl) (by decide) (by decide) (by decide)
  rw [kUnC_val] at this
  exact this
abbrev kMaDS : Spec := MapFS
theorem kMaD_ok : Ok Try.prog 26 kMaDS := MapF_ok
theorem kMaD_val : mapF ka4 km4 kc4 1 4 3 = ((kan, kmn, kc0), 2) := by kernel_rfl
theorem kMaD_at : kMaDS.rel [fm ka4 km4 kc4, iv 1, iv 4, iv 3] [] (.tup [fm kan kmn kc0, iv 2]) [] := by
  have := MapF_at ka4 km4 kc4 1 4 3 (kU64 _ rfl) (by decide) (by decide) (by decide)
  rw [kMaD_val] at this
  exact this
abbrev kWrCS : Spec := WrtFS
theorem kWrC_ok : Ok Try.prog 13 kWrCS := WrtF_ok
theorem kWrC_val : wrtF ka4 km4 kc4 1 3 7 0 = ((ka4, km4, kc6), 0) := by kernel_rfl
theorem kWrC_at : kWrCS.rel [fm ka4 km4 kc4, iv 1, iv 3, iv 7, wv ((0 : Nat) : Int)] [] (.tup [fm ka4 km4 kc6, iv 0]) [] := by
  have := WrtF_at ka4 km4 kc4 1 3 7 0 (kU64 _ rfl) (by decide) (by decide) (by decide)
  rw [kWrC_val] at this
  exact this
abbrev kSpBS : Spec := SpnFS
theorem kSpB_ok : Ok Try.prog 27 kSpBS := SpnF_ok
theorem kSpB_val : spnF ka4 km4 kc4 1 = ((kan, kmn, kc0), 7) := by kernel_rfl
theorem kSpB_at : kSpBS.rel [fm ka4 km4 kc4, iv 1] [] (.tup [fm kan kmn kc0, iv 7]) [] := by
  have := SpnF_at ka4 km4 kc4 1 (kU64 _ rfl) (by decide) (by decide) (by decide)
  rw [kSpB_val] at this
  exact this
abbrev kFrBS : Spec := FrkFS
theorem kFrB_ok : Ok Try.prog 28 kFrBS := FrkF_ok
theorem kFrB_val : frkF ka4 km4 kc4 1 1 = ((kan, kmn, kc0), 2) := by kernel_rfl
theorem kFrB_at : kFrBS.rel [fm ka4 km4 kc4, iv 1, iv 1] [] (.tup [fm kan kmn kc0, iv 2]) [] := by
  have := FrkF_at ka4 km4 kc4 1 1 (kU64 _ rfl) (by decide) (by decide) (by decide)
  rw [kFrB_val] at this
  exact this
abbrev kFrCS : Spec := FrkFS
theorem kFrC_ok : Ok Try.prog 28 kFrCS := FrkF_ok
theorem kFrC_val : frkF ka4 km4 kc4 1 2 = ((kan, kmn, kc0), 7) := by kernel_rfl
theorem kFrC_at : kFrCS.rel [fm ka4 km4 kc4, iv 1, iv 2] [] (.tup [fm kan kmn kc0, iv 7]) [] := by
  have := FrkF_at ka4 km4 kc4 1 2 (kU64 _ rfl) (by decide) (by decide) (by decide)
  rw [kFrC_val] at this
  exact this
abbrev kRdBS : Spec := RdS
theorem kRdB_ok : Ok Try.prog 16 kRdBS := Rd_ok
theorem kRdB_at : kRdBS.rel [fm ka4 km4 kc4, iv 1, iv 4, iv 0] [] (.tup [wv ((0 : Nat) : Int), iv 12]) [] := by
  have := Rd_at ka4 km4 kc4 1 4 0 (kU64 _ rfl) (by decide) (by decide) (by decide)
  rw [show mapE ka4 km4 kc4 1 4 0 = 12 from by decide +kernel] at this
  exact this
abbrev kRdCS : Spec := RdS
theorem kRdC_ok : Ok Try.prog 16 kRdCS := Rd_ok
theorem kRdC_at : kRdCS.rel [fm ka4 km4 kc4, iv 3, iv 0, iv 0] [] (.tup [wv ((0 : Nat) : Int), iv 11]) [] := by
  have := Rd_at ka4 km4 kc4 3 0 0 (kU64 _ rfl) (by decide) (by decide) (by decide)
  rw [show mapE ka4 km4 kc4 3 0 0 = 11 from by decide +kernel] at this
  exact this
abbrev kRdDS : Spec := RdS
theorem kRdD_ok : Ok Try.prog 16 kRdDS := Rd_ok
theorem kRdD_at : kRdDS.rel [fm ka4 km4 kc4, iv 9, iv 0, iv 0] [] (.tup [wv ((0 : Nat) : Int), iv 2]) [] := by
  have := Rd_at ka4 km4 kc4 9 0 0 (kU64 _ rfl) (by decide) (by decide) (by decide)
  rw [show mapE ka4 km4 kc4 9 0 0 = 2 from by decide +kernel] at this
  exact this
abbrev kSmAS : Spec := SmeS
theorem kSmA_ok : Ok Try.prog 22 kSmAS := Sme_ok
theorem kSmA_at : kSmAS.rel [fm ka4 km4 kc4, iv 1, iv 2] [] (.tup [bv true, iv 0]) [] := by
  have := Sme_at ka4 km4 kc4 1 2 (kU64 _ rfl) (by decide) (by decide) (by decide)
  rw [show lvsE ka4 km4 kc4 [1, 2] = 0 from by decide +kernel, if_pos rfl, show smB km4 kc4 1 2 = true from by decide +kernel] at this
  exact this
abbrev kSmBS : Spec := SmeS
theorem kSmB_ok : Ok Try.prog 22 kSmBS := Sme_ok
theorem kSmB_at : kSmBS.rel [fm ka4 km4 kc5, iv 1, iv 2] [] (.tup [bv false, iv 0]) [] := by
  have := Sme_at ka4 km4 kc5 1 2 (kU64 _ rfl) (by decide) (by decide) (by decide)
  rw [show lvsE ka4 km4 kc5 [1, 2] = 0 from by decide +kernel, if_pos rfl, show smB km4 kc5 1 2 = false from by decide +kernel] at this
  exact this
abbrev kRsAS : Spec := rdsS
theorem kRsA_ok : Ok Try.prog 29 kRsAS := rds_ok
theorem kRsA_at : kRsAS.rel [fm ka4 km4 kc5, iv 1, iv 3, iv 7, wv ((9 : Nat) : Int)] [] (bv true) [] := by
  have := rds_at ka4 km4 kc5 1 3 7 9 (kU64 _ rfl) (by decide) (by decide) (by decide)
  rw [show rdsB ka4 km4 kc5 1 3 7 9 = true from by decide +kernel] at this
  exact this
abbrev kRsBS : Spec := rdsS
theorem kRsB_ok : Ok Try.prog 29 kRsBS := rds_ok
theorem kRsB_at : kRsBS.rel [fm ka4 km4 kc5, iv 2, iv 3, iv 7, wv ((8 : Nat) : Int)] [] (bv true) [] := by
  have := rds_at ka4 km4 kc5 2 3 7 8 (kU64 _ rfl) (by decide) (by decide) (by decide)
  rw [show rdsB ka4 km4 kc5 2 3 7 8 = true from by decide +kernel] at this
  exact this
abbrev kRsCS : Spec := rdsS
theorem kRsC_ok : Ok Try.prog 29 kRsCS := rds_ok
theorem kRsC_at : kRsCS.rel [fm ka4 km4 kc5, iv 1, iv 2, iv 0, wv ((0 : Nat) : Int)] [] (bv true) [] := by
  have := rds_at ka4 km4 kc5 1 2 0 0 (kU64 _ rfl) (by decide) (by decide) (by decide)
  rw [show rdsB ka4 km4 kc5 1 2 0 0 = true from by decide +kernel] at this
  exact this
abbrev kRsDS : Spec := rdsS
theorem kRsD_ok : Ok Try.prog 29 kRsDS := rds_ok
theorem kRsD_at : kRsDS.rel [fm ka4 km4 kc6, iv 1, iv 3, iv 7, wv ((0 : Nat) : Int)] [] (bv true) [] := by
  have := rds_at ka4 km4 kc6 1 3 7 0 (kU64 _ rfl) (by decide) (by decide) (by decide)
  rw [show rdsB ka4 km4 kc6 1 3 7 0 = true from by decide +kernel] at this
  exact this
abbrev kRsES : Spec := rdsS
theorem kRsE_ok : Ok Try.prog 29 kRsES := rds_ok
theorem kRsE_at : kRsES.rel [fm ka4 km4 kc6, iv 2, iv 3, iv 7, wv ((9 : Nat) : Int)] [] (bv true) [] := by
  have := rds_at ka4 km4 kc6 2 3 7 9 (kU64 _ rfl) (by decide) (by decide) (by decide)
  rw [show rdsB ka4 km4 kc6 2 3 7 9 = true from by decide +kernel] at this
  exact this
end Go.Proofs.Ytdfolpfibhfmlaa
