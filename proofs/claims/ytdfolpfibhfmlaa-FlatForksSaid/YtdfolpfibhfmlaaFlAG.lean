/- A flat memory: slices.Equal at cells; Same, by the engine. -/
import Derived.Test.YtdfolpfibhfmlaaFlAF
import Derived.Test.YtdfolpfibhfmlaaFlAD
namespace Go.Proofs.Ytdfolpfibhfmlaa
open Go.RowKit
set_option maxRecDepth 100000
set_option linter.unusedSimpArgs false
set_option linter.unusedVariables false

abbrev lv22FlAG : List (Nat × List Nat) := [(0, [1, 2, 3]), (1, [1, 2, 3, 8]), (2, [1, 2, 3, 8, 20]), (3, [6, 7]), (4, [1, 2, 3, 34]), (5, [6, 7]), (6, [1, 2, 3, 9]), (7, [3, 9, 37, 38]), (8, [3, 9, 37, 38, 39]), (9, [3, 9, 10, 11, 37, 38]), (10, [3, 9, 10, 11, 37, 38, 43, 44, 45]), (11, [3, 9, 10, 11, 37, 38, 43, 44, 45, 46]), (12, [3, 9, 10, 11, 13, 37, 38, 43, 44, 45]), (13, [3, 9, 10, 11, 13, 37, 38, 43, 44, 45, 53]), (14, [3, 9, 10, 11, 13, 37, 38, 43, 44, 45]), (15, [3, 9, 10, 11, 37, 38, 43, 44, 45]), (16, [3, 9, 10, 11, 37, 38, 43, 44, 45]), (17, [3, 9, 37, 38]), (18, [6, 7])]
abbrev lv64FlAG : List (Nat × List Nat) := [(0, [0, 1]), (1, [0, 1, 10]), (2, [4]), (3, [0, 1, 12, 13]), (4, [0, 1, 12, 13, 14]), (5, [0, 1, 5, 12, 13]), (6, [0, 1, 12, 13, 24]), (7, [4]), (8, [0, 1, 12, 13]), (9, [4])]
theorem rep_two {w : World} {S : Nat → Prop} {μ : Mu} {p q : Int} {v : Value} (h : Rep w S μ (.agg [iv p, iv q]) v) : v = .agg #[.int .i64 p, .int .i64 q] := by
  cases h with
  | agg h1 h2 h3 =>
    rename_i vs
    have := kinds_rep (w := w) (S := S) (μ := μ) [iv p, iv q] [some .i64, some .i64] vs.toList rfl (by simpa using h1) (fun j x v hx hv => h2 j x v hx (by simpa using hv))
    have e : vs = (valL [iv p, iv q]).toArray := by rw [← this]
    rw [e]; rfl
theorem ext_ix2 {n : Nat} {o : Oper} {σ : St} {K : Eff → Prop} {x y : Operand} {a b : Int} (i : Int) (ho : o.op = .index 85 x y) (hd : dstOk n o.dst) (hx : getT σ.T x = some (.agg [iv a, iv b])) (hy : getT σ.T y = some (iv i)) (hi : i = 0 ∨ i = 1)
    (h : K ⟨iv (if i = 0 then a else b), [], [], []⟩) : extV Try.prog n o σ K := by
  refine ⟨_, fun cx hP hcn => ?_, h⟩
  subst hcn
  refine loc_val hd fun H T μ act w hr' he hH => ?_
  have e1 := rep_two (he x _ (by simp [Op.operands, ho]) hx)
  have e2 := he y _ (by simp [Op.operands, ho]) hy
  have hu := Try.underlying85
  have hs := Try.sizeOf3
  have ha := Try.isAgg3
  generalize hpv : act.eval y = pv at e2
  cases e2 with
  | d e2 =>
  cases e2
  have hrun : (Instr.index 85 (.agg #[.int .i64 a, .int .i64 b]) (.int .i64 i)).run Try.prog w = .ok (.int .i64 (if i = 0 then a else b)) w := by
    unfold Instr.index
    simp only [asIntOf, Sem.run_bind, run_underlying hu, Result.andThen_ok, Sem.run_pure]
    rcases hi with rfl | rfl
    · go_simp
    · go_simp
  refine ⟨_, by simp only [execOp, ho, hpv, e1, hP]; exact run_v hrun, .d .int⟩
def EqcS : Spec := { rel := fun args ins res outs => ∃ (a b : List Cl), a.length ≤ 1000000 ∧ b.length ≤ 1000000 ∧ args = [.d (.sl (a.map encCl)), .d (.sl (b.map encCl))] ∧ ins = [] ∧ res = bv (decide (a = b)) ∧ outs = [] }
theorem Eqc_at (a b : List Cl) (h1 : a.length ≤ 1000000) (h2 : b.length ≤ 1000000) : EqcS.rel [.d (.sl (a.map encCl)), .d (.sl (b.map encCl))] [] (bv (decide (a = b))) [] := ⟨a, b, h1, h2, rfl, rfl, rfl, rfl⟩
set_option maxHeartbeats 1000000 in
theorem Eqc_ok : Ok Try.prog 64 EqcS := by
  refine fn_ok EqcS Try.func64 rfl rfl ?_
  rintro args ins res outs ⟨a, b, h1, h2, rfl, rfl, rfl, rfl⟩
  refine ⟨by simp [Try.ntmps64], fun w0 V Bo mu0 => ?_⟩
  by_cases hl : a.length = b.length
  case neg =>
    have hl' : ¬ (a.length : Int) = (b.length : Int) := by omega
    rw [decide_eq_false (fun e : a = b => hl (by rw [e]))]
    repeat' (first
      | (with_reducible first | refine W_seq ?_ | refine W_condT rfl ?_ | refine W_condF rfl ?_ | refine W_tf rfl (fun h => ?_) (fun h => ?_) | refine W_block ?_ | refine endQ_ret ?_ | refine endQ_normal ?_)
      | ((with_reducible first | refine hK _ ?_ | refine hK _ _ ?_); clear hK K)
      | ((first | (with_reducible first | refine ops_cons (fun K hK => ?_) | refine opsd_cons (fun K hK => ?_) | refine ops_nil ?_ | refine fit_i64 (by omega) ?_ | refine fit_any ?_) | ((with_reducible refine opsd_nil ?_); refine And.intro (by kernel_rfl) ?_) | with_reducible refine callV_snap ?_ | (with_reducible first | refine idx_map (by omega) ?_ | refine W_reg lv64FlAG ?_ | refine W_drw lv64FlAG (by kernel_rfl) ?_ | refine W_skip ?_ | refine W_exit ?_ | refine W_ret ?_ | refine end_at0 ?_) | (with_reducible refine And.intro (fun h => ?_) (fun h => ?_)) | (with_reducible refine And.intro (by omega) ?_)); (try simp only [go_sem, seval, reduceCtorEq, hl', lv64FlAG, Try.ntmps64, Try.results64, EqcS]))
      | fail)
  have hl' : (a.length : Int) = (b.length : Int) := by omega
  repeat' (first
    | (with_reducible first | refine W_seq ?_ | refine W_condT rfl ?_ | refine W_condF rfl ?_ | refine W_tf rfl (fun h => ?_) (fun h => ?_) | refine W_block ?_ | refine endQ_ret ?_ | refine endQ_normal ?_)
    | ((with_reducible first | refine hK _ ?_ | refine hK _ _ ?_); clear hK K)
    | ((first | (with_reducible first | refine ops_cons (fun K hK => ?_) | refine opsd_cons (fun K hK => ?_) | refine ops_nil ?_ | refine fit_i64 (by omega) ?_ | refine fit_any ?_) | ((with_reducible refine opsd_nil ?_); refine And.intro (by kernel_rfl) ?_) | with_reducible refine callV_snap ?_ | (with_reducible first | refine idx_map (by omega) ?_ | refine W_reg lv64FlAG ?_ | refine W_drw lv64FlAG (by kernel_rfl) ?_ | refine W_skip ?_ | refine W_exit ?_ | refine W_ret ?_ | refine end_at0 ?_) | (with_reducible refine And.intro (fun h => ?_) (fun h => ?_)) | (with_reducible refine And.intro (by omega) ?_)); (try simp only [go_sem, seval, reduceCtorEq, hl', lv64FlAG, Try.ntmps64, Try.results64, EqcS]))
    | fail)
  refine W_loop (fun i : Nat => ⟨[(0, .d (.sl (a.map encCl))), (1, .d (.sl (b.map encCl))), (12, iv b.length), (13, iv (i : Int))], []⟩) (fun i => i ≤ a.length ∧ ∀ j (g1 : j < a.length) (g2 : j < b.length), j < i → a[j] = b[j]) (fun i => a.length - i) 0 ⟨Nat.zero_le _, fun j _ _ h => absurd h (Nat.not_lt_zero _)⟩ [] ?_ ?_
  · simp [go_sem]
  rintro i ⟨hi, hg⟩
  by_cases hlt : i < a.length
  · have hki : (i : Int) < (b.length : Int) := by omega
    have hki2 : (i : Int) < (a.length : Int) := by omega
    have hlb : i < b.length := by omega
    obtain ⟨x, hx⟩ : ∃ x, a[i] = x := ⟨_, rfl⟩
    obtain ⟨y, hy⟩ : ∃ y, b[i] = y := ⟨_, rfl⟩
    obtain ⟨xp, xg, xw, xv⟩ := x
    obtain ⟨yp, yg, yw, yv⟩ := y
    have e0 : encCl a[i] = [.int .i64 xp, .int .i64 xg, .int .i64 xw, .int .u64 (xv : Int)] := by rw [hx]; rfl
    have e1 : encCl b[i] = [.int .i64 yp, .int .i64 yg, .int .i64 yw, .int .u64 (yv : Int)] := by rw [hy]; rfl
    by_cases he : xp = yp ∧ xg = yg ∧ xw = yw ∧ (xv : Int) = (yv : Int)
    · skip
      repeat' (first
        | (with_reducible first | refine W_seq ?_ | refine W_condT rfl ?_ | refine W_condF rfl ?_ | refine W_tf rfl (fun h => ?_) (fun h => ?_) | refine W_block ?_ | refine endQ_ret ?_ | refine endQ_normal ?_)
        | ((with_reducible first | refine hK _ ?_ | refine hK _ _ ?_); clear hK K)
        | ((with_reducible refine And.intro eqt_cell ?_); (try simp only [go_sem, seval, reduceCtorEq]))
        | ((first | (with_reducible first | refine ops_cons (fun K hK => ?_) | refine opsd_cons (fun K hK => ?_) | refine ops_nil ?_ | refine fit_i64 (by omega) ?_ | refine fit_any ?_) | ((with_reducible refine opsd_nil ?_); refine And.intro (by kernel_rfl) ?_) | with_reducible refine callV_snap ?_ | (with_reducible first | refine idx_map (by omega) ?_ | refine W_reg lv64FlAG ?_ | refine W_drw lv64FlAG (by kernel_rfl) ?_ | refine W_skip ?_ | refine W_exit ?_ | refine W_ret ?_ | refine end_at0 ?_) | (with_reducible refine And.intro (fun h => ?_) (fun h => ?_)) | (with_reducible refine And.intro (by omega) ?_)); (try simp only [go_sem, seval, reduceCtorEq, hki, hki2, hl', e0, e1, he, lv64FlAG, Try.ntmps64, Try.results64, EqcS]))
        | fail)
      refine ⟨i + 1, [], ⟨by omega, fun j g1 g2 h => ?_⟩, by omega, ?_⟩
      · by_cases hj : j = i
        · subst hj
          obtain ⟨q1, q2, q3, q4⟩ := he
          have q5 : xv = yv := by omega
          rw [hx, hy, q1, q2, q3, q5]
        · exact hg j g1 g2 (by omega)
      · simp [go_sem]
    · rw [decide_eq_false (fun h : a = b => ne_take hlt hlb (by
        rw [hx, hy]
        intro e
        simp only [Prod.mk.injEq] at e
        exact he ⟨e.1, e.2.1, e.2.2.1, by rw [e.2.2.2]⟩) h)]
      repeat' (first
        | (with_reducible first | refine W_seq ?_ | refine W_condT rfl ?_ | refine W_condF rfl ?_ | refine W_tf rfl (fun h => ?_) (fun h => ?_) | refine W_block ?_ | refine endQ_ret ?_ | refine endQ_normal ?_)
        | ((with_reducible first | refine hK _ ?_ | refine hK _ _ ?_); clear hK K)
        | ((with_reducible refine And.intro eqt_cell ?_); (try simp only [go_sem, seval, reduceCtorEq]))
        | ((first | (with_reducible first | refine ops_cons (fun K hK => ?_) | refine opsd_cons (fun K hK => ?_) | refine ops_nil ?_ | refine fit_i64 (by omega) ?_ | refine fit_any ?_) | ((with_reducible refine opsd_nil ?_); refine And.intro (by kernel_rfl) ?_) | with_reducible refine callV_snap ?_ | (with_reducible first | refine idx_map (by omega) ?_ | refine W_reg lv64FlAG ?_ | refine W_drw lv64FlAG (by kernel_rfl) ?_ | refine W_skip ?_ | refine W_exit ?_ | refine W_ret ?_ | refine end_at0 ?_) | (with_reducible refine And.intro (fun h => ?_) (fun h => ?_)) | (with_reducible refine And.intro (by omega) ?_)); (try simp only [go_sem, seval, reduceCtorEq, hki, hki2, hl', e0, e1, he, lv64FlAG, Try.ntmps64, Try.results64, EqcS]))
        | fail)
  · have hki : ¬ (i : Int) < (b.length : Int) := by omega
    have hki2 : ¬ (i : Int) < (a.length : Int) := by omega
    rw [decide_eq_true (eq_get hl fun j g1 g2 => hg j g1 g2 (by omega))]
    repeat' (first
      | (with_reducible first | refine W_seq ?_ | refine W_condT rfl ?_ | refine W_condF rfl ?_ | refine W_tf rfl (fun h => ?_) (fun h => ?_) | refine W_block ?_ | refine endQ_ret ?_ | refine endQ_normal ?_)
      | ((with_reducible first | refine hK _ ?_ | refine hK _ _ ?_); clear hK K)
      | ((first | (with_reducible first | refine ops_cons (fun K hK => ?_) | refine opsd_cons (fun K hK => ?_) | refine ops_nil ?_ | refine fit_i64 (by omega) ?_ | refine fit_any ?_) | ((with_reducible refine opsd_nil ?_); refine And.intro (by kernel_rfl) ?_) | with_reducible refine callV_snap ?_ | (with_reducible first | refine idx_map (by omega) ?_ | refine W_reg lv64FlAG ?_ | refine W_drw lv64FlAG (by kernel_rfl) ?_ | refine W_skip ?_ | refine W_exit ?_ | refine W_ret ?_ | refine end_at0 ?_) | (with_reducible refine And.intro (fun h => ?_) (fun h => ?_)) | (with_reducible refine And.intro (by omega) ?_)); (try simp only [go_sem, seval, reduceCtorEq, hki, hki2, lv64FlAG, Try.ntmps64, Try.results64, EqcS]))
      | fail)
/-- the cells of a process, without its number -/
def zC (cs : List Cl) (p : Int) : List Cl := (ofP cs p).map (cpC 0)
theorem zC_yes {cs : List Cl} {p : Int} {i : Nat} (h : i < cs.length) (hp : cs[i].1 = p) : zC (cs.take (i + 1)) p = zC (cs.take i) p ++ [cpC 0 cs[i]] := by
  unfold zC ofP
  rw [take_get cs i h, List.filter_append, List.filter_cons_of_pos (by simpa using hp), List.filter_nil, List.map_append]
  rfl
theorem zC_no {cs : List Cl} {p : Int} {i : Nat} (h : i < cs.length) (hp : cs[i].1 ≠ p) : zC (cs.take (i + 1)) p = zC (cs.take i) p := by
  unfold zC ofP
  rw [take_get cs i h, List.filter_append, List.filter_cons_of_neg (by simpa using hp), List.filter_nil, List.append_nil]
theorem zC_len (cs : List Cl) (p : Int) : (zC cs p).length ≤ cs.length := by
  unfold zC ofP
  rw [List.length_map]
  exact List.length_filter_le _ _
def smB (mp : List Nat) (cs : List Cl) (p q : Int) : Bool := decide (mp[(p - 1).toNat]?.getD 0 = mp[(q - 1).toNat]?.getD 0 ∧ zC cs p = zC cs q)
def SmeS : Spec := { rel := fun args ins res outs => ∃ (al : List Bool) (mp : List Nat) (cs : List Cl) (p q : Int), U64 mp ∧ al.length ≤ 1000000 ∧ mp.length ≤ 1000000 ∧ cs.length ≤ 900000 ∧ args = [fm al mp cs, iv p, iv q] ∧ ins = [] ∧ res = .tup [bv (if lvsE al mp cs [p, q] = 0 then smB mp cs p q else false), iv (lvsE al mp cs [p, q])] ∧ outs = [] }
theorem Sme_at (al : List Bool) (mp : List Nat) (cs : List Cl) (p q : Int) (hu : U64 mp) (h1 : al.length ≤ 1000000) (h2 : mp.length ≤ 1000000) (h3 : cs.length ≤ 900000) : SmeS.rel [fm al mp cs, iv p, iv q] [] (.tup [bv (if lvsE al mp cs [p, q] = 0 then smB mp cs p q else false), iv (lvsE al mp cs [p, q])]) [] := ⟨al, mp, cs, p, q, hu, h1, h2, h3, rfl, rfl, rfl, rfl⟩
theorem lvs2_zero {al : List Bool} {mp : List Nat} {cs : List Cl} {p q : Int} (h : lvsE al mp cs [p, q] = 0) : flchk al mp cs = 0 ∧ (Prc p ∧ Prc q) ∧ alv al p = true ∧ alv al q = true := by
  unfold lvsE at h
  by_cases h0 : flchk al mp cs = 0
  · rw [if_neg (by simpa using h0)] at h
    simp only [List.any_cons, List.any_nil, Bool.or_false] at h
    by_cases h1 : Prc p
    · by_cases h2 : Prc q
      · rw [decide_eq_true h1, decide_eq_true h2, if_neg (by decide)] at h
        cases hb : alv al p with
        | true =>
          cases hc : alv al q with
          | true => exact ⟨h0, ⟨h1, h2⟩, rfl, rfl⟩
          | false => rw [hb, hc] at h; simp at h
        | false => rw [hb] at h; simp at h
      · rw [decide_eq_false h2] at h; simp at h
    · rw [decide_eq_false h1] at h; simp at h
  · rw [if_pos h0] at h; exact absurd h h0
set_option maxHeartbeats 4000000 in
theorem Sme_ok : Ok Try.prog 22 SmeS := by
  refine fn_ok SmeS Try.func22 rfl rfl ?_
  rintro args ins res outs ⟨al, mp, cs, p, q, hu, la, lm, lc, rfl, rfl, rfl, rfl⟩
  refine ⟨by simp [Try.ntmps22], fun w0 V Bo mu0 => ?_⟩
  have L0 := lives_at al mp cs [p, q] hu la lm (by omega) (by simp)
  have hz := @lvs2_zero al mp cs p q
  generalize lvsE al mp cs [p, q] = E at *
  have lives_at : livesS.rel [fm al mp cs, .d (.sl [[.int .i64 p], [.int .i64 q]])] [] (iv E) [] := L0
  by_cases h0 : E = 0
  case neg =>
    rw [if_neg h0]
    repeat' (first
      | (with_reducible first | refine W_seq ?_ | refine W_condT rfl ?_ | refine W_condF rfl ?_ | refine W_tf rfl (fun h => ?_) (fun h => ?_) | refine W_block ?_ | refine endQ_ret ?_ | refine endQ_normal ?_)
      | ((with_reducible first | refine hK _ ?_ | refine hK _ _ ?_); clear hK K)
      | ((first | (with_reducible first | refine ops_cons (fun K hK => ?_) | refine opsd_cons (fun K hK => ?_) | refine ops_nil ?_ | refine fit_i64 (by omega) ?_ | refine fit_any ?_) | ((with_reducible refine opsd_nil ?_); refine And.intro (by kernel_rfl) ?_) | with_reducible refine callV_snap ?_ | ((with_reducible refine call_go livesS lives_ok ?_); refine ⟨(by first | exact alOk_nil _ | exact alOk_f rfl), _, _, lives_at , ?_⟩) | (with_reducible first | refine app_grow ?_ | refine idx_map (by omega) ?_ | refine W_reg lv22FlAG ?_ | refine W_drw lv22FlAG (by kernel_rfl) ?_ | refine W_skip ?_ | refine W_exit ?_ | refine W_ret ?_ | refine end_at0 ?_) | (with_reducible refine And.intro (fun h => ?_) (fun h => ?_)) | (with_reducible refine And.intro (by omega) ?_)); (try simp only [go_sem, seval, reduceCtorEq, h0, lv22FlAG, Try.ntmps22, Try.results22, SmeS]))
      | fail)
  subst h0
  rw [if_pos rfl]
  obtain ⟨z1, ⟨⟨a1, a2⟩, ⟨b1, b2⟩⟩, z3, z4⟩ := hz rfl
  obtain ⟨l1, l2⟩ := flchk_len z1
  obtain ⟨k, rfl⟩ : ∃ k : Nat, p = (k : Int) + 1 := ⟨(p - 1).toNat, by omega⟩
  obtain ⟨j, rfl⟩ : ∃ j : Nat, q = (j : Int) + 1 := ⟨(q - 1).toNat, by omega⟩
  have hkm : k < mp.length := by omega
  have hjm : j < mp.length := by omega
  have hp1 : (k : Int) + 1 - 1 = (k : Int) := by omega
  have hp2 : (j : Int) + 1 - 1 = (j : Int) := by omega
  have eu : encU mp[k] = [.int .u64 (mp[k] : Int)] := rfl
  have eu2 : encU mp[j] = [.int .u64 (mp[j] : Int)] := rfl
  have hsm : smB mp cs ((k : Int) + 1) ((j : Int) + 1) = decide (mp[k] = mp[j] ∧ zC cs ((k : Int) + 1) = zC cs ((j : Int) + 1)) := by
    unfold smB
    rw [hp1, hp2]
    simp [hkm, hjm]
  rw [hsm]
  by_cases hm : mp[k] = mp[j]
  case neg =>
    have hm' : ¬ (mp[k] : Int) = (mp[j] : Int) := by omega
    rw [decide_eq_false (fun h => hm h.1)]
    repeat' (first
      | (with_reducible first | refine W_seq ?_ | refine W_condT rfl ?_ | refine W_condF rfl ?_ | refine W_tf rfl (fun h => ?_) (fun h => ?_) | refine W_block ?_ | refine endQ_ret ?_ | refine endQ_normal ?_)
      | ((with_reducible first | refine hK _ ?_ | refine hK _ _ ?_); clear hK K)
      | ((first | (with_reducible first | refine ops_cons (fun K hK => ?_) | refine opsd_cons (fun K hK => ?_) | refine ops_nil ?_ | refine fit_i64 (by omega) ?_ | refine fit_any ?_) | ((with_reducible refine opsd_nil ?_); refine And.intro (by kernel_rfl) ?_) | with_reducible refine callV_snap ?_ | ((with_reducible refine call_go livesS lives_ok ?_); refine ⟨(by first | exact alOk_nil _ | exact alOk_f rfl), _, _, lives_at , ?_⟩) | (with_reducible first | refine app_grow ?_ | refine idx_map (by omega) ?_ | refine W_reg lv22FlAG ?_ | refine W_drw lv22FlAG (by kernel_rfl) ?_ | refine W_skip ?_ | refine W_exit ?_ | refine W_ret ?_ | refine end_at0 ?_) | (with_reducible refine And.intro (fun h => ?_) (fun h => ?_)) | (with_reducible refine And.intro (by omega) ?_)); (try simp only [go_sem, seval, reduceCtorEq, hp1, hp2, eu, eu2, hm', lv22FlAG, Try.ntmps22, Try.results22, SmeS]))
      | fail)
  have hm' : (mp[k] : Int) = (mp[j] : Int) := by omega
  have hd : decide (mp[k] = mp[j] ∧ zC cs ((k : Int) + 1) = zC cs ((j : Int) + 1)) = decide (zC cs ((k : Int) + 1) = zC cs ((j : Int) + 1)) := by simp [hm]
  rw [hd]
  repeat' (first
    | (with_reducible first | refine W_seq ?_ | refine W_condT rfl ?_ | refine W_condF rfl ?_ | refine W_tf rfl (fun h => ?_) (fun h => ?_) | refine W_block ?_ | refine endQ_ret ?_ | refine endQ_normal ?_)
    | ((with_reducible first | refine hK _ ?_ | refine hK _ _ ?_); clear hK K)
    | ((first | (with_reducible first | refine ops_cons (fun K hK => ?_) | refine opsd_cons (fun K hK => ?_) | refine ops_nil ?_ | refine fit_i64 (by omega) ?_ | refine fit_any ?_) | ((with_reducible refine opsd_nil ?_); refine And.intro (by kernel_rfl) ?_) | with_reducible refine callV_snap ?_ | ((with_reducible refine call_go livesS lives_ok ?_); refine ⟨(by first | exact alOk_nil _ | exact alOk_f rfl), _, _, lives_at , ?_⟩) | (with_reducible first | refine app_grow ?_ | refine idx_map (by omega) ?_ | refine W_reg lv22FlAG ?_ | refine W_drw lv22FlAG (by kernel_rfl) ?_ | refine W_skip ?_ | refine W_exit ?_ | refine W_ret ?_ | refine end_at0 ?_) | (with_reducible refine And.intro (fun h => ?_) (fun h => ?_)) | (with_reducible refine And.intro (by omega) ?_)); (try simp only [go_sem, seval, reduceCtorEq, hp1, hp2, eu, eu2, hm', lv22FlAG, Try.ntmps22, Try.results22, SmeS]))
    | fail)
  refine W_adoptC (t := 54) (sz := 4) 2 0 (by decide) (by simp only [go_sem, seval, reduceCtorEq]; rfl) rfl ?_
  refine W_adoptC (t := 54) (sz := 4) 2 1 (by decide) (by simp only [go_sem, seval, reduceCtorEq]; rfl) rfl ?_
  refine W_loop (fun i : Nat => ⟨[(3, .ptr 0 0), (9, .ptr 2 0), (37, .agg [iv ((k : Int) + 1), iv ((j : Int) + 1)]), (38, iv (i : Int))], [some (.box 26 [.d (.sl (al.map encDB)), .d (.sl (mp.map encU)), .d (.sl (cs.map encCl))]), some (.rows 3 1 [[.int .i64 ((k : Int) + 1)], [.int .i64 ((j : Int) + 1)]]), some (.box 84 [.row 3 4 0 (if i = 0 then [] else zC cs ((k : Int) + 1)).length, .row 4 4 0 (if i ≤ 1 then [] else zC cs ((j : Int) + 1)).length]), some (.rows 54 4 ((if i = 0 then [] else zC cs ((k : Int) + 1)).map encCl)), some (.rows 54 4 ((if i ≤ 1 then [] else zC cs ((j : Int) + 1)).map encCl))]⟩) (fun i => i ≤ 2) (fun i => 2 - i) 0 (Nat.zero_le _) [0, 1, 2, 3, 4] ?_ ?_
  · simp [go_sem]
  intro i hi
  have hi3 : i = 0 ∨ i = 1 ∨ i = 2 := by omega
  have hn0 : ((0 : Nat) : Int) = 0 := rfl
  have hn1 : ((1 : Nat) : Int) = 1 := rfl
  have hn2 : ((2 : Nat) : Int) = 2 := rfl
  have zl := zC_len cs ((k : Int) + 1)
  have zl2 := zC_len cs ((j : Int) + 1)
  rcases hi3 with rfl | rfl | rfl
  · simp only [if_true, Nat.zero_le, List.length_nil, List.map_nil]
    repeat' (first
      | (with_reducible first | refine W_seq ?_ | refine W_condT rfl ?_ | refine W_condF rfl ?_ | refine W_tf rfl (fun h => ?_) (fun h => ?_) | refine W_block ?_ | refine endQ_ret ?_ | refine endQ_normal ?_)
      | ((with_reducible first | refine hK _ ?_ | refine hK _ _ ?_); clear hK K)
      | ((refine ext_ix2 0 rfl ?_ rfl rfl (by decide) ?_) <;> simp only [go_sem, seval, reduceCtorEq])
      | ((first | (with_reducible first | refine ops_cons (fun K hK => ?_) | refine opsd_cons (fun K hK => ?_) | refine ops_nil ?_ | refine fit_i64 (by omega) ?_ | refine fit_any ?_) | ((with_reducible refine opsd_nil ?_); refine And.intro (by kernel_rfl) ?_) | with_reducible refine callV_snap ?_ | (with_reducible first | refine app_grow ?_ | refine idx_map (by omega) ?_ | refine W_reg lv22FlAG ?_ | refine W_drw lv22FlAG (by kernel_rfl) ?_ | refine W_skip ?_ | refine W_exit ?_ | refine W_ret ?_ | refine end_at0 ?_) | (with_reducible refine And.intro (fun h => ?_) (fun h => ?_)) | (with_reducible refine And.intro (by omega) ?_)); (try simp only [go_sem, seval, reduceCtorEq, hn0, lv22FlAG, Try.ntmps22, Try.results22, SmeS]))
      | fail)
    refine W_loop (fun m : Nat => ⟨[(3, .ptr 0 0), (9, .ptr 2 0), (10, iv 0), (11, iv ((k : Int) + 1)), (37, .agg [iv ((k : Int) + 1), iv ((j : Int) + 1)]), (38, iv 0), (43, .d (.sl (cs.map encCl))), (44, iv cs.length), (45, iv (m : Int))], [some (.box 26 [.d (.sl (al.map encDB)), .d (.sl (mp.map encU)), .d (.sl (cs.map encCl))]), some (.rows 3 1 [[.int .i64 ((k : Int) + 1)], [.int .i64 ((j : Int) + 1)]]), some (.box 84 [.row 3 4 0 (zC (cs.take m) ((k : Int) + 1)).length, .row 4 4 0 0]), some (.rows 54 4 ((zC (cs.take m) ((k : Int) + 1)).map encCl)), some (.rows 54 4 [])]⟩) (fun m => m ≤ cs.length) (fun m => cs.length - m) 0 (Nat.zero_le _) [0, 1, 2, 3, 4] ?_ ?_
    · simp [go_sem, zC, ofP]
    intro m hmm
    have zlm := zC_len (cs.take m) ((k : Int) + 1)
    rw [List.length_take] at zlm
    by_cases hlt : m < cs.length
    · have hki : (m : Int) < cs.length := by omega
      have hyes := zC_yes (p := (k : Int) + 1) hlt
      have hno := zC_no (p := (k : Int) + 1) hlt
      obtain ⟨⟨cp, cg, cw, cv⟩, hc⟩ : ∃ c, cs[m] = c := ⟨_, rfl⟩
      rw [hc] at hyes hno
      dsimp only at hyes hno
      have e0 : encCl cs[m] = [.int .i64 cp, .int .i64 cg, .int .i64 cw, .int .u64 (cv : Int)] := by rw [hc]; rfl
      by_cases hb : cp = (k : Int) + 1
      · have hy := hyes hb
        generalize hZ : zC (cs.take m) ((k : Int) + 1) = Z at *
        have htl : List.take Z.length (Z.map encCl) = Z.map encCl := List.take_of_length_le (by simp)
        have hy1 : (zC (cs.take (m + 1)) ((k : Int) + 1)).length = Z.length + 1 := by rw [hy]; simp
        have hy2 : (zC (cs.take (m + 1)) ((k : Int) + 1)).map encCl = Z.map encCl ++ [[.int .i64 0, .int .i64 cg, .int .i64 cw, .int .u64 (cv : Int)]] := by rw [hy]; simp [cpC, encCl]
        repeat' (first
          | (with_reducible first | refine W_seq ?_ | refine W_condT rfl ?_ | refine W_condF rfl ?_ | refine W_tf rfl (fun h => ?_) (fun h => ?_) | refine W_block ?_ | refine endQ_ret ?_ | refine endQ_normal ?_)
          | ((with_reducible first | refine hK _ ?_ | refine hK _ _ ?_); clear hK K)
          | ((first | (with_reducible first | refine ops_cons (fun K hK => ?_) | refine opsd_cons (fun K hK => ?_) | refine ops_nil ?_ | refine fit_i64 (by omega) ?_ | refine fit_any ?_) | ((with_reducible refine opsd_nil ?_); refine And.intro (by kernel_rfl) ?_) | with_reducible refine callV_snap ?_ | (with_reducible first | refine app_grow ?_ | refine idx_map (by omega) ?_ | refine W_reg lv22FlAG ?_ | refine W_drw lv22FlAG (by kernel_rfl) ?_ | refine W_skip ?_ | refine W_exit ?_ | refine W_ret ?_ | refine end_at0 ?_) | (with_reducible refine And.intro (fun h => ?_) (fun h => ?_)) | (with_reducible refine And.intro (by omega) ?_)); (try simp only [go_sem, seval, reduceCtorEq, hki, e0, hb, List.drop_succ_cons, List.drop_zero, lv22FlAG, Try.ntmps22, Try.results22, SmeS]))
          | fail)
        refine ⟨m + 1, [0, 1, 2, 7, 4], by omega, by omega, ?_⟩
        simp [go_sem, hy1, hy2, htl]
      · have hn := hno hb
        repeat' (first
          | (with_reducible first | refine W_seq ?_ | refine W_condT rfl ?_ | refine W_condF rfl ?_ | refine W_tf rfl (fun h => ?_) (fun h => ?_) | refine W_block ?_ | refine endQ_ret ?_ | refine endQ_normal ?_)
          | ((with_reducible first | refine hK _ ?_ | refine hK _ _ ?_); clear hK K)
          | ((first | (with_reducible first | refine ops_cons (fun K hK => ?_) | refine opsd_cons (fun K hK => ?_) | refine ops_nil ?_ | refine fit_i64 (by omega) ?_ | refine fit_any ?_) | ((with_reducible refine opsd_nil ?_); refine And.intro (by kernel_rfl) ?_) | with_reducible refine callV_snap ?_ | (with_reducible first | refine app_grow ?_ | refine idx_map (by omega) ?_ | refine W_reg lv22FlAG ?_ | refine W_drw lv22FlAG (by kernel_rfl) ?_ | refine W_skip ?_ | refine W_exit ?_ | refine W_ret ?_ | refine end_at0 ?_) | (with_reducible refine And.intro (fun h => ?_) (fun h => ?_)) | (with_reducible refine And.intro (by omega) ?_)); (try simp only [go_sem, seval, reduceCtorEq, hki, e0, hb, lv22FlAG, Try.ntmps22, Try.results22, SmeS]))
          | fail)
        refine ⟨m + 1, [0, 1, 2, 3, 4], by omega, by omega, ?_⟩
        simp [go_sem, hn]
    · have hki : ¬ (m : Int) < cs.length := by omega
      obtain rfl : m = cs.length := by omega
      rw [List.take_length]
      repeat' (first
        | (with_reducible first | refine W_seq ?_ | refine W_condT rfl ?_ | refine W_condF rfl ?_ | refine W_tf rfl (fun h => ?_) (fun h => ?_) | refine W_block ?_ | refine endQ_ret ?_ | refine endQ_normal ?_)
        | ((with_reducible first | refine hK _ ?_ | refine hK _ _ ?_); clear hK K)
        | ((first | (with_reducible first | refine ops_cons (fun K hK => ?_) | refine opsd_cons (fun K hK => ?_) | refine ops_nil ?_ | refine fit_i64 (by omega) ?_ | refine fit_any ?_) | ((with_reducible refine opsd_nil ?_); refine And.intro (by kernel_rfl) ?_) | with_reducible refine callV_snap ?_ | (with_reducible first | refine app_grow ?_ | refine idx_map (by omega) ?_ | refine W_reg lv22FlAG ?_ | refine W_drw lv22FlAG (by kernel_rfl) ?_ | refine W_skip ?_ | refine W_exit ?_ | refine W_ret ?_ | refine end_at0 ?_) | (with_reducible refine And.intro (fun h => ?_) (fun h => ?_)) | (with_reducible refine And.intro (by omega) ?_)); (try simp only [go_sem, seval, reduceCtorEq, hki, lv22FlAG, Try.ntmps22, Try.results22, SmeS]))
        | fail)
      refine ⟨1, [0, 1, 2, 3, 4], by omega, by omega, ?_⟩
      simp [go_sem]
  · simp only [if_neg (show ¬ 1 = 0 by decide), Nat.le_refl, if_true, List.length_nil, List.map_nil]
    repeat' (first
      | (with_reducible first | refine W_seq ?_ | refine W_condT rfl ?_ | refine W_condF rfl ?_ | refine W_tf rfl (fun h => ?_) (fun h => ?_) | refine W_block ?_ | refine endQ_ret ?_ | refine endQ_normal ?_)
      | ((with_reducible first | refine hK _ ?_ | refine hK _ _ ?_); clear hK K)
      | ((refine ext_ix2 1 rfl ?_ rfl rfl (by decide) ?_) <;> simp only [go_sem, seval, reduceCtorEq])
      | ((first | (with_reducible first | refine ops_cons (fun K hK => ?_) | refine opsd_cons (fun K hK => ?_) | refine ops_nil ?_ | refine fit_i64 (by omega) ?_ | refine fit_any ?_) | ((with_reducible refine opsd_nil ?_); refine And.intro (by kernel_rfl) ?_) | with_reducible refine callV_snap ?_ | (with_reducible first | refine app_grow ?_ | refine idx_map (by omega) ?_ | refine W_reg lv22FlAG ?_ | refine W_drw lv22FlAG (by kernel_rfl) ?_ | refine W_skip ?_ | refine W_exit ?_ | refine W_ret ?_ | refine end_at0 ?_) | (with_reducible refine And.intro (fun h => ?_) (fun h => ?_)) | (with_reducible refine And.intro (by omega) ?_)); (try simp only [go_sem, seval, reduceCtorEq, hn1, lv22FlAG, Try.ntmps22, Try.results22, SmeS]))
      | fail)
    refine W_loop (fun m : Nat => ⟨[(3, .ptr 0 0), (9, .ptr 2 0), (10, iv 1), (11, iv ((j : Int) + 1)), (37, .agg [iv ((k : Int) + 1), iv ((j : Int) + 1)]), (38, iv 1), (43, .d (.sl (cs.map encCl))), (44, iv cs.length), (45, iv (m : Int))], [some (.box 26 [.d (.sl (al.map encDB)), .d (.sl (mp.map encU)), .d (.sl (cs.map encCl))]), some (.rows 3 1 [[.int .i64 ((k : Int) + 1)], [.int .i64 ((j : Int) + 1)]]), some (.box 84 [.row 3 4 0 (zC cs ((k : Int) + 1)).length, .row 4 4 0 (zC (cs.take m) ((j : Int) + 1)).length]), some (.rows 54 4 ((zC cs ((k : Int) + 1)).map encCl)), some (.rows 54 4 ((zC (cs.take m) ((j : Int) + 1)).map encCl))]⟩) (fun m => m ≤ cs.length) (fun m => cs.length - m) 0 (Nat.zero_le _) [0, 1, 2, 3, 4] ?_ ?_
    · simp [go_sem, zC, ofP]
    intro m hmm
    have zlm := zC_len (cs.take m) ((j : Int) + 1)
    rw [List.length_take] at zlm
    by_cases hlt : m < cs.length
    · have hki : (m : Int) < cs.length := by omega
      have hyes := zC_yes (p := (j : Int) + 1) hlt
      have hno := zC_no (p := (j : Int) + 1) hlt
      obtain ⟨⟨cp, cg, cw, cv⟩, hc⟩ : ∃ c, cs[m] = c := ⟨_, rfl⟩
      rw [hc] at hyes hno
      dsimp only at hyes hno
      have e0 : encCl cs[m] = [.int .i64 cp, .int .i64 cg, .int .i64 cw, .int .u64 (cv : Int)] := by rw [hc]; rfl
      by_cases hb : cp = (j : Int) + 1
      · have hy := hyes hb
        generalize hZ : zC (cs.take m) ((j : Int) + 1) = Z at *
        have htl : List.take Z.length (Z.map encCl) = Z.map encCl := List.take_of_length_le (by simp)
        have hy1 : (zC (cs.take (m + 1)) ((j : Int) + 1)).length = Z.length + 1 := by rw [hy]; simp
        have hy2 : (zC (cs.take (m + 1)) ((j : Int) + 1)).map encCl = Z.map encCl ++ [[.int .i64 0, .int .i64 cg, .int .i64 cw, .int .u64 (cv : Int)]] := by rw [hy]; simp [cpC, encCl]
        repeat' (first
          | (with_reducible first | refine W_seq ?_ | refine W_condT rfl ?_ | refine W_condF rfl ?_ | refine W_tf rfl (fun h => ?_) (fun h => ?_) | refine W_block ?_ | refine endQ_ret ?_ | refine endQ_normal ?_)
          | ((with_reducible first | refine hK _ ?_ | refine hK _ _ ?_); clear hK K)
          | ((first | (with_reducible first | refine ops_cons (fun K hK => ?_) | refine opsd_cons (fun K hK => ?_) | refine ops_nil ?_ | refine fit_i64 (by omega) ?_ | refine fit_any ?_) | ((with_reducible refine opsd_nil ?_); refine And.intro (by kernel_rfl) ?_) | with_reducible refine callV_snap ?_ | (with_reducible first | refine app_grow ?_ | refine idx_map (by omega) ?_ | refine W_reg lv22FlAG ?_ | refine W_drw lv22FlAG (by kernel_rfl) ?_ | refine W_skip ?_ | refine W_exit ?_ | refine W_ret ?_ | refine end_at0 ?_) | (with_reducible refine And.intro (fun h => ?_) (fun h => ?_)) | (with_reducible refine And.intro (by omega) ?_)); (try simp only [go_sem, seval, reduceCtorEq, hki, e0, hb, List.drop_succ_cons, List.drop_zero, lv22FlAG, Try.ntmps22, Try.results22, SmeS]))
          | fail)
        refine ⟨m + 1, [0, 1, 2, 3, 7], by omega, by omega, ?_⟩
        simp [go_sem, hy1, hy2, htl]
      · have hn := hno hb
        repeat' (first
          | (with_reducible first | refine W_seq ?_ | refine W_condT rfl ?_ | refine W_condF rfl ?_ | refine W_tf rfl (fun h => ?_) (fun h => ?_) | refine W_block ?_ | refine endQ_ret ?_ | refine endQ_normal ?_)
          | ((with_reducible first | refine hK _ ?_ | refine hK _ _ ?_); clear hK K)
          | ((first | (with_reducible first | refine ops_cons (fun K hK => ?_) | refine opsd_cons (fun K hK => ?_) | refine ops_nil ?_ | refine fit_i64 (by omega) ?_ | refine fit_any ?_) | ((with_reducible refine opsd_nil ?_); refine And.intro (by kernel_rfl) ?_) | with_reducible refine callV_snap ?_ | (with_reducible first | refine app_grow ?_ | refine idx_map (by omega) ?_ | refine W_reg lv22FlAG ?_ | refine W_drw lv22FlAG (by kernel_rfl) ?_ | refine W_skip ?_ | refine W_exit ?_ | refine W_ret ?_ | refine end_at0 ?_) | (with_reducible refine And.intro (fun h => ?_) (fun h => ?_)) | (with_reducible refine And.intro (by omega) ?_)); (try simp only [go_sem, seval, reduceCtorEq, hki, e0, hb, lv22FlAG, Try.ntmps22, Try.results22, SmeS]))
          | fail)
        refine ⟨m + 1, [0, 1, 2, 3, 4], by omega, by omega, ?_⟩
        simp [go_sem, hn]
    · have hki : ¬ (m : Int) < cs.length := by omega
      obtain rfl : m = cs.length := by omega
      rw [List.take_length]
      repeat' (first
        | (with_reducible first | refine W_seq ?_ | refine W_condT rfl ?_ | refine W_condF rfl ?_ | refine W_tf rfl (fun h => ?_) (fun h => ?_) | refine W_block ?_ | refine endQ_ret ?_ | refine endQ_normal ?_)
        | ((with_reducible first | refine hK _ ?_ | refine hK _ _ ?_); clear hK K)
        | ((first | (with_reducible first | refine ops_cons (fun K hK => ?_) | refine opsd_cons (fun K hK => ?_) | refine ops_nil ?_ | refine fit_i64 (by omega) ?_ | refine fit_any ?_) | ((with_reducible refine opsd_nil ?_); refine And.intro (by kernel_rfl) ?_) | with_reducible refine callV_snap ?_ | (with_reducible first | refine app_grow ?_ | refine idx_map (by omega) ?_ | refine W_reg lv22FlAG ?_ | refine W_drw lv22FlAG (by kernel_rfl) ?_ | refine W_skip ?_ | refine W_exit ?_ | refine W_ret ?_ | refine end_at0 ?_) | (with_reducible refine And.intro (fun h => ?_) (fun h => ?_)) | (with_reducible refine And.intro (by omega) ?_)); (try simp only [go_sem, seval, reduceCtorEq, hki, lv22FlAG, Try.ntmps22, Try.results22, SmeS]))
        | fail)
      refine ⟨2, [0, 1, 2, 3, 4], by omega, by omega, ?_⟩
      simp [go_sem]
  · simp only [if_neg (show ¬ 2 = 0 by decide), if_neg (show ¬ 2 ≤ 1 by decide)]
    generalize zC cs ((k : Int) + 1) = A at *
    generalize zC cs ((j : Int) + 1) = B at *
    have htA : (A.map encCl).take A.length = A.map encCl := List.take_of_length_le (by simp)
    have htB : (B.map encCl).take B.length = B.map encCl := List.take_of_length_le (by simp)
    repeat' (first
      | (with_reducible first | refine W_seq ?_ | refine W_condT rfl ?_ | refine W_condF rfl ?_ | refine W_tf rfl (fun h => ?_) (fun h => ?_) | refine W_block ?_ | refine endQ_ret ?_ | refine endQ_normal ?_)
      | ((with_reducible first | refine hK _ ?_ | refine hK _ _ ?_); clear hK K)
      | ((first | (with_reducible first | refine ops_cons (fun K hK => ?_) | refine opsd_cons (fun K hK => ?_) | refine ops_nil ?_ | refine fit_i64 (by omega) ?_ | refine fit_any ?_) | ((with_reducible refine opsd_nil ?_); refine And.intro (by kernel_rfl) ?_) | with_reducible refine callV_snap ?_ | ((with_reducible refine call_go EqcS Eqc_ok ?_); refine ⟨(by first | exact alOk_nil _ | exact alOk_f rfl), _, _, Eqc_at A B (by omega) (by omega), ?_⟩) | (with_reducible first | refine app_grow ?_ | refine idx_map (by omega) ?_ | refine W_reg lv22FlAG ?_ | refine W_drw lv22FlAG (by kernel_rfl) ?_ | refine W_skip ?_ | refine W_exit ?_ | refine W_ret ?_ | refine end_at0 ?_) | (with_reducible refine And.intro (fun h => ?_) (fun h => ?_)) | (with_reducible refine And.intro (by omega) ?_)); (try simp only [go_sem, seval, reduceCtorEq, hn2, htA, htB, List.drop_zero, lv22FlAG, Try.ntmps22, Try.results22, SmeS]))
      | fail)
end Go.Proofs.Ytdfolpfibhfmlaa
