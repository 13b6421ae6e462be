import Derived.Test.YtnclclpfmldocaaGreatMdQ
import Derived.Test.YtnclclpfmldocaaGreatMdM

/- A trace behind one of other processes, with greater tickets. -/
namespace Go.Proofs.YtnclclpfmldocaaGreat
open Go.RowKit
set_option maxRecDepth 100000
set_option linter.unusedSimpArgs false
set_option linter.unusedVariables false

abbrev lv5MdT3 : List (Nat × List Nat) := [(0, [0, 1]), (1, [1, 5, 6, 7]), (2, [5, 6, 7, 8, 10]), (3, [5, 6, 8, 31]), (4, [4]), (5, [6, 8, 11]), (6, [6, 8, 11, 12]), (7, [6, 8, 11, 12, 37]), (8, [6, 8, 11, 12]), (9, [6, 8, 11, 12, 13]), (10, [6, 8, 11, 12, 13, 46]), (11, [6, 8, 11, 12, 13]), (12, [6, 8, 11, 12]), (13, [4])]
def tkO (A : Nat) (x : Oc) : Oc := if x.t = 0 then x else { x with t := x.t + A }
def tkW (A w : Nat) : Nat := if w = 0 then 0 else w + A
theorem tkO_f (A : Nat) (x : Oc) : (tkO A x).k = x.k ∧ (tkO A x).p = x.p ∧ (tkO A x).t = tkW A x.t ∧ opO (tkO A x) = opO x := by
  unfold tkO tkW
  by_cases h : x.t = 0
  · rw [if_pos h, if_pos h]; exact ⟨rfl, rfl, h, rfl⟩
  · rw [if_neg h, if_neg h]; exact ⟨rfl, rfl, rfl, rfl⟩
theorem oc_of {x : Oc} (h1 : 1 ≤ x.k) (h2 : x.k ≤ 11) (h3 : 1 ≤ x.p) (h4 : x.p ≤ 8) (h5 : fitO x = true) (h6 : unuO x = true) : ocE x = 0 := by
  unfold ocE
  rw [if_neg (by omega), if_neg (fun hh => hh ⟨h3, h4, h5⟩), if_neg (by rw [h6]; decide)]
theorem tkO_val {A : Nat} {x : Oc} (h : ocE x = 0) (hA : x.t + A ≤ mxT) : ocE (tkO A x) = 0 := by
  unfold tkO
  by_cases h0 : x.t = 0
  · rw [if_pos h0]; exact h
  rw [if_neg h0]
  obtain ⟨k1, k2, p1, p2, hf, hu⟩ := oc_kind h
  obtain ⟨n, hn⟩ : ∃ n : Nat, x.k = (n : Int) := ⟨x.k.toNat, by omega⟩
  refine oc_of k1 k2 p1 p2 ?_ ?_
  · rcases (show n = 1 ∨ n = 2 ∨ n = 3 ∨ n = 4 ∨ n = 5 ∨ n = 6 ∨ n = 7 ∨ n = 8 ∨ n = 9 ∨ n = 10 ∨ n = 11 by omega) with rfl | rfl | rfl | rfl | rfl | rfl | rfl | rfl | rfl | rfl | rfl
    all_goals (simp [fitO, unuO, hn] at hf hu ⊢; try omega)
  · rcases (show n = 1 ∨ n = 2 ∨ n = 3 ∨ n = 4 ∨ n = 5 ∨ n = 6 ∨ n = 7 ∨ n = 8 ∨ n = 9 ∨ n = 10 ∨ n = 11 by omega) with rfl | rfl | rfl | rfl | rfl | rfl | rfl | rfl | rfl | rfl | rfl
    all_goals (simp [fitO, unuO, hn] at hf hu ⊢; try omega)
structure Rl (A : Nat) (u t : Sy) : Prop where
  vu : Vs u
  vt : Vs t
  vw : ∀ k, 4 ≤ k → k < 8 → vw u.m k = vw t.m k
  W : ∀ k, 4 ≤ k → k < 8 → u.W[k]?.getD 0 = tkW A (t.W[k]?.getD 0)
  L : u.L = A + t.L
theorem rl_step {A : Nat} {u t t' : Sy} {x : Oc} (hR : Rl A u t) (h : ocE x = 0) (hs : ocE (tkO A x) = 0) (h5 : x.k ≠ 5) (hp5 : 5 ≤ x.p) (hn : nx t x = some t') : ∃ u', nx u (tkO A x) = some u' ∧ Rl A u' t' := by
  obtain ⟨k1, k2, p1, p2, hf, hu⟩ := oc_kind h
  obtain ⟨hq, hp⟩ := ix_lt p1 p2
  obtain ⟨e1, e2, e3, e4⟩ := tkO_f A x
  have hq4 : 4 ≤ ix x.p := by omega
  have hv' := nx_vs hR.vt h hn
  have lu : ix x.p < u.W.length := by rw [hR.vu.lw]; exact hq
  have lt : ix x.p < t.W.length := by rw [hR.vt.lw]; exact hq
  have hW := hR.W (ix x.p) hq4 hq
  have main : ∀ u', nx u (tkO A x) = some u' → (∀ k, 4 ≤ k → k < 8 → Go.Proofs.YtnclclpfmldocaaGreat.vw u'.m k = Go.Proofs.YtnclclpfmldocaaGreat.vw t'.m k) → (∀ k, 4 ≤ k → k < 8 → u'.W[k]?.getD 0 = tkW A (t'.W[k]?.getD 0)) → u'.L = A + t'.L → ∃ u', nx u (tkO A x) = some u' ∧ Rl A u' t' := fun u' a b c d => ⟨u', a, nx_vs hR.vu hs a, hv', b, c, d⟩
  unfold nx at hn
  by_cases h9 : x.k = 9
  · rw [if_pos h9] at hn
    by_cases hc : t.W[ix x.p]?.getD 0 = 0 ∧ t.L < x.t
    case neg => rw [if_neg hc] at hn; cases hn
    rw [if_pos hc] at hn
    injection hn with hn
    subst hn
    have ht : (tkO A x).t = x.t + A := by rw [e3]; unfold tkW; rw [if_neg (by omega)]
    refine main ⟨u.m, u.W.set (ix x.p) (x.t + A), x.t + A⟩ ?_ hR.vw (fun k a b => ?_) (Nat.add_comm _ _)
    · unfold nx
      rw [e1, e2, ht, if_pos h9, if_pos]
      refine ⟨?_, by rw [hR.L]; omega⟩
      rw [hW, hc.1]; rfl
    · dsimp only
      rw [get_set lu, get_set lt]
      by_cases hk : k = ix x.p
      · rw [if_pos hk, if_pos hk]; unfold tkW; rw [if_neg (by omega)]
      · rw [if_neg hk, if_neg hk]; exact hR.W k a b
  rw [if_neg h9] at hn
  by_cases hc : t.W[ix x.p]?.getD 0 = x.t ∧ (opO x t.m).2 = 0
  case neg => rw [if_neg hc] at hn; cases hn
  rw [if_pos hc] at hn
  injection hn with hn
  subst hn
  have hL := opO_loc h h5
  obtain ⟨l1, l2⟩ := hL.loc hR.vu.v hR.vt.v (hR.vw _ hq4 hq)
  have l3 : (opO x u.m).2 = 0 := l1.trans hc.2
  refine main ⟨(opO x u.m).1, u.W.set (ix x.p) 0, u.L⟩ ?_ (fun k a b => ?_) (fun k a b => ?_) hR.L
  · unfold nx
    rw [e1, e2, e3, e4, if_neg h9, if_pos]
    exact ⟨by rw [hW, hc.1], l3⟩
  · dsimp only
    by_cases hk : k = ix x.p
    · rw [hk]; exact l2 l3
    · rw [hL.oth hR.vu.v l3 k b hk, hL.oth hR.vt.v hc.2 k b hk]; exact hR.vw k a b
  · dsimp only
    rw [get_set lu, get_set lt]
    by_cases hk : k = ix x.p
    · rw [if_pos hk, if_pos hk]; rfl
    · rw [if_neg hk, if_neg hk]; exact hR.W k a b
theorem rl_run {A : Nat} : ∀ (l : List Oc) {u t t' : Sy}, Rl A u t → (∀ x ∈ l, ocE x = 0 ∧ ocE (tkO A x) = 0 ∧ x.k ≠ 5 ∧ 5 ≤ x.p) → run t l = some t' → ∃ u', run u (l.map (tkO A)) = some u'
  | [], u, t, t', hR, _, h => ⟨u, rfl⟩
  | x :: l, u, t, t', hR, hl, h => by
    rw [run] at h
    cases hn : nx t x with
    | none => rw [hn] at h; cases h
    | some s =>
      rw [hn] at h
      obtain ⟨a, b, c, d⟩ := hl x (by simp)
      obtain ⟨v, hv, hR'⟩ := rl_step hR a b c d hn
      obtain ⟨u', hu⟩ := rl_run l hR' (fun y hy => hl y (by simp [hy])) h
      exact ⟨u', by rw [List.map_cons, run, hv]; exact hu⟩
theorem far_run : ∀ (l : List Oc) {s t : Sy}, Vs s → (∀ x ∈ l, ocE x = 0 ∧ x.k ≠ 5 ∧ x.p ≤ 4) → run s l = some t → ∀ k, 4 ≤ k → k < 8 → vw t.m k = vw s.m k ∧ t.W[k]?.getD 0 = s.W[k]?.getD 0
  | [], s, t, _, _, h, k, _, _ => by injection h with h; subst h; exact ⟨rfl, rfl⟩
  | x :: l, s, t, hs, hl, h, k, a, b => by
    rw [run] at h
    cases hn : nx s x with
    | none => rw [hn] at h; cases h
    | some s' =>
      rw [hn] at h
      obtain ⟨h0, h5, hp4⟩ := hl x (by simp)
      obtain ⟨k1, k2, p1, p2, hf, hu⟩ := oc_kind h0
      obtain ⟨hq, hp⟩ := ix_lt p1 p2
      have hv' := nx_vs hs h0 hn
      obtain ⟨r1, r2⟩ := far_run l hv' (fun y hy => hl y (by simp [hy])) h k a b
      rw [r1, r2]
      have hlw : ix x.p < s.W.length := by rw [hs.lw]; exact hq
      unfold nx at hn
      by_cases h9 : x.k = 9
      · rw [if_pos h9] at hn
        by_cases hc : s.W[ix x.p]?.getD 0 = 0 ∧ s.L < x.t
        case neg => rw [if_neg hc] at hn; cases hn
        rw [if_pos hc] at hn
        injection hn with hn
        subst hn
        refine ⟨rfl, ?_⟩
        dsimp only
        rw [get_set hlw, if_neg (by omega)]
      · rw [if_neg h9] at hn
        by_cases hc : s.W[ix x.p]?.getD 0 = x.t ∧ (opO x s.m).2 = 0
        case neg => rw [if_neg hc] at hn; cases hn
        rw [if_pos hc] at hn
        injection hn with hn
        subst hn
        refine ⟨(opO_loc h0 h5).oth hs.v hc.2 k b (by omega), ?_⟩
        dsimp only
        rw [get_set hlw, if_neg (by omega)]
/-- the law of two traces -/
theorem beside {a b : List Oc × Sy} (ha : Mk 0 false a) (hb : Mk 4 false b) (hA : a.2.L + b.2.L ≤ mxT) : (∀ x ∈ a.1 ++ b.1.map (tkO a.2.L), ocE x = 0) ∧ ∃ u, run sy0 (a.1 ++ b.1.map (tkO a.2.L)) = some u := by
  have hsh : ∀ x ∈ b.1, ocE (tkO a.2.L x) = 0 := fun x hx => tkO_val (hb.o x hx) (by have := hb.t x hx; omega)
  constructor
  · intro x hx
    rcases List.mem_append.1 hx with hx | hx
    · exact ha.o x hx
    · obtain ⟨y, hy, rfl⟩ := List.mem_map.1 hx
      exact hsh y hy
  · have hf := far_run a.1 sy0_vs (fun x hx => ⟨ha.o x hx, ha.n rfl x hx, by have := ha.p x hx; omega⟩) ha.r
    have hR : Rl a.2.L a.2 sy0 := ⟨ha.v, sy0_vs, fun k x y => (hf k x y).1, fun k x y => by
      rw [(hf k x y).2]
      have : sy0.W[k]?.getD 0 = 0 := by
        show mp0[k]?.getD 0 = 0
        rcases (show k = 4 ∨ k = 5 ∨ k = 6 ∨ k = 7 by omega) with rfl | rfl | rfl | rfl <;> rfl
      rw [this]; rfl, rfl⟩
    obtain ⟨u, hu⟩ := rl_run b.1 hR (fun x hx => ⟨hb.o x hx, hsh x hx, hb.n rfl x hx, by have := hb.p x hx; omega⟩) hb.r
    exact ⟨u, by rw [run_app, ha.r]; exact hu⟩
end Go.Proofs.YtnclclpfmldocaaGreat

/- ModelBeside, by the engine. -/
namespace Go.Proofs.YtnclclpfmldocaaGreat
open Go.RowKit
set_option maxRecDepth 100000
set_option linter.unusedSimpArgs false
set_option linter.unusedVariables false

def OwoS : Spec := { rel := fun args ins res outs => ∃ c : List Oc, c.length ≤ 1000000 ∧ args = [ocL c] ∧ ins = [] ∧ res = .row 0 7 0 c.length ∧ outs = [.rows 36 7 (c.map encOc)] }
theorem Owo_at (c : List Oc) (h : c.length ≤ 1000000) : OwoS.rel [ocL c] [] (.row 0 7 0 c.length) [.rows 36 7 (c.map encOc)] := ⟨c, h, rfl, rfl, rfl, rfl⟩
theorem Owo_ok : Ok Tryz.prog 14 OwoS := by
  refine fn_ok OwoS Tryz.func14 rfl rfl ?_
  rintro args ins res outs ⟨c, hc, rfl, rfl, rfl, rfl⟩
  refine ⟨by simp [Tryz.ntmps14], fun w0 V Bo mu0 => ?_⟩
  repeat' (first
    | (with_reducible first | refine W_seq ?_ | refine endQ_ret ?_ | refine endQ_normal ?_)
    | ((with_reducible first | refine hK _ ?_ | refine hK _ _ ?_); clear hK K)
    | ((with_reducible refine And.intro (encOce.rows _) ?_))
    | ((first | (with_reducible first | refine ops_cons (fun K hK => ?_) | refine ops_nil ?_) | with_reducible refine callV_snap ?_ | (with_reducible first | refine slice_old ?_ | refine app_grow ?_ | refine W_reg [(0, [0]), (1, [2])] ?_ | refine end_at0 ?_) | (with_reducible refine And.intro (fun h => ?_) (fun h => ?_)) | (with_reducible refine And.intro (by omega) ?_)); (try simp only [go_sem, seval, reduceCtorEq, Tryz.ntmps14, Tryz.results14, OwoS]))
    | fail)
  refine W_ret (endQ_ret (end_at [1] ?_))
  have := encOce.flat c
  simp [go_sem, Tryz.results14, OwoS]
  simpa [flatD] using this
def bsdS : Spec := { al := true, rel := fun args ins res outs => ∃ (l m : List Int), args = [dI l, dI m] ∧ ins = [] ∧ res = bv true ∧ outs = [] }
abbrev madeBFS : Spec := madeFS
theorem madeBF_ok : Ok Tryz.prog 8 madeBFS := madeF_ok
set_option maxHeartbeats 4000000 in
theorem bsd_ok : Ok Tryz.prog 5 bsdS := by
  refine fn_ok bsdS Tryz.func5 rfl rfl ?_
  rintro args ins res outs ⟨l, m, rfl, rfl, rfl, rfl⟩
  refine ⟨by simp [Tryz.ntmps5], fun w0 V Bo mu0 => ?_⟩
  have M0 := madeF_at l 30 0 false (by decide) (by decide)
  have N0 := madeF_at m 30 4 false (by decide) (by decide)
  obtain ⟨hM, hMl, hML⟩ := mk_mad 0 false (l.take 30)
  obtain ⟨hN, hNl, hNL⟩ := mk_mad 4 false (m.take 30)
  have l30 : (l.take 30).length ≤ 30 := by rw [List.length_take]; omega
  have m30 : (m.take 30).length ≤ 30 := by rw [List.length_take]; omega
  have hA : (madO 0 false (l.take 30)).2.L ≤ 90 := by omega
  have hB : (madO 4 false (m.take 30)).2.L ≤ 90 := by omega
  have h60 : (madO 0 false (l.take 30)).1.length ≤ 30 := by omega
  have h61 : (madO 4 false (m.take 30)).1.length ≤ 30 := by omega
  generalize madO 0 false (l.take 30) = a at *
  generalize madO 4 false (m.take 30) = b at *
  clear hMl hML hNl hNL l30 m30
  have madeF_at : madeFS.rel [dI l, iv 30, iv 0, bv false] [] (.tup [ocL a.1, syA a.2, bv true]) [] := M0
  have madeBF_at : madeBFS.rel [dI m, iv 30, iv 4, bv false] [] (.tup [ocL b.1, syA b.2, bv true]) [] := N0
  obtain ⟨hval, u, hrun⟩ := beside hM hN (by unfold mxT; omega)
  have Owo_at := Owo_at a.1 (by omega)
  repeat' (first
    | (with_reducible first | refine W_seq ?_ | refine W_condT rfl ?_ | refine W_condF rfl ?_ | refine W_tf rfl (fun h => ?_) (fun h => ?_) | refine W_block ?_ | refine endQ_ret ?_ | refine endQ_normal ?_)
    | ((with_reducible first | refine hK _ ?_ | refine hK _ _ ?_); clear hK K)
    | ((first | (with_reducible first | refine ops_cons (fun K hK => ?_) | refine ops_nil ?_ | refine fit_i64 (by omega) ?_ | refine fit_u8 (by omega) ?_ | refine fit_u64 (by omega) ?_ | refine fit_u32 (by omega) ?_ | refine fit_any ?_) | with_reducible refine callV_snap ?_ | ((with_reducible refine call_go madeFS madeF_ok ?_); refine ⟨(by first | exact alOk_nil _ | exact alOk_f rfl), _, _, madeF_at , ?_⟩) | ((with_reducible refine call_go madeBFS madeBF_ok ?_); refine ⟨(by first | exact alOk_nil _ | exact alOk_f rfl), _, _, madeBF_at , ?_⟩) | ((with_reducible refine call_go OwoS Owo_ok ?_); refine ⟨(by first | exact alOk_nil _ | exact alOk_f rfl), _, _, Owo_at , ?_⟩) | (with_reducible first | refine app_grow ?_ | refine idx_map (by omega) ?_ | refine W_reg lv5MdT3 ?_ | refine W_skip ?_ | refine W_exit ?_ | refine W_ret ?_ | refine end_at0 ?_) | (with_reducible refine And.intro (fun h => ?_) (fun h => ?_)) | (with_reducible refine And.intro (by omega) ?_)); (try simp only [go_sem, seval, reduceCtorEq, lv5MdT3, Tryz.ntmps5, Tryz.results5, bsdS]))
    | fail)
  have hbt : ∀ x ∈ b.1, x.t ≤ 90 := fun x hx => Nat.le_trans (hN.t x hx) hB
  obtain ⟨A, hAe⟩ : ∃ A, a.2.L = A := ⟨_, rfl⟩
  have hsyA : (a.2.L : Int) = (A : Int) := by omega
  rw [hAe] at hval hrun hA
  obtain ⟨L, hL⟩ : ∃ L, a.1 = L := ⟨_, rfl⟩
  obtain ⟨B, hBe⟩ : ∃ B, b.1 = B := ⟨_, rfl⟩
  rw [hL] at hval hrun h60
  rw [hBe] at hval hrun h61 hbt
  rw [hL, hBe, hAe]
  refine W_loop (fun i : Nat => ⟨[(6, .ptr 0 0), (8, ocL B), (11, .row 1 7 0 (L ++ (B.take i).map (tkO A)).length), (12, iv (i : Int))], [some (.box 31 [.d (.sl (a.2.m.1.map encDB)), .d (.sl (a.2.m.2.1.map encU)), .d (.sl (a.2.m.2.2.map encCl)), .d (.sl (a.2.W.map encU)), wv (A : Int)]), some (.rows 36 7 ((L ++ (B.take i).map (tkO A)).map encOc))]⟩) (fun i => i ≤ B.length) (fun i => B.length - i) 0 (Nat.zero_le _) [0, 2] ?_ ?_
  · simp [go_sem]
  intro i hi
  by_cases hlt : i < B.length
  · have hki : (i : Int) < B.length := by omega
    have hs : L ++ (B.take (i + 1)).map (tkO A) = (L ++ (B.take i).map (tkO A)) ++ [tkO A B[i]] := by rw [take_get _ i hlt, List.map_append, List.append_assoc]; rfl
    have hQl : (L ++ (B.take i).map (tkO A)).length ≤ 100 := by rw [List.length_append, List.length_map, List.length_take]; omega
    have hxt := hbt _ (List.getElem_mem hlt)
    obtain ⟨x, hx⟩ : ∃ x, B[i] = x := ⟨_, rfl⟩
    have e0 : encOc B[i] = [.int .i64 x.k, .int .i64 x.p, .int .i64 x.o, .int .i64 x.g, .int .i64 x.w, .int .u64 (x.t : Int), .int .u64 (x.v : Int)] := by rw [hx]; rfl
    rw [hx] at hs hxt
    generalize L ++ (B.take i).map (tkO A) = Q at *
    by_cases h0 : x.t = 0
    · have h0' : ¬ 0 < (x.t : Int) := by omega
      have ht : tkO A x = x := if_pos h0
      rw [ht] at hs
      repeat' (first
        | (with_reducible first | refine W_seq ?_ | refine W_condT rfl ?_ | refine W_condF rfl ?_ | refine W_tf rfl (fun h => ?_) (fun h => ?_) | refine W_block ?_ | refine endQ_ret ?_ | refine endQ_normal ?_)
        | ((with_reducible first | refine hK _ ?_ | refine hK _ _ ?_); clear hK K)
        | ((first | (with_reducible first | refine ops_cons (fun K hK => ?_) | refine ops_nil ?_ | refine fit_i64 (by omega) ?_ | refine fit_u8 (by omega) ?_ | refine fit_u64 (by omega) ?_ | refine fit_u32 (by omega) ?_ | refine fit_any ?_) | with_reducible refine callV_snap ?_ | (with_reducible first | refine app_grow ?_ | refine idx_map (by omega) ?_ | refine W_reg lv5MdT3 ?_ | refine W_skip ?_ | refine W_exit ?_ | refine W_ret ?_ | refine end_at0 ?_) | (with_reducible refine And.intro (fun h => ?_) (fun h => ?_)) | (with_reducible refine And.intro (by omega) ?_)); (try simp only [go_sem, seval, reduceCtorEq, hki, e0, h0', lv5MdT3, Tryz.ntmps5, Tryz.results5, bsdS]))
        | fail)
      refine ⟨i + 1, [0, 4], by omega, by omega, ?_⟩
      simp only [hs]
      simp [go_sem, encOc]
    · have h0' : 0 < (x.t : Int) := by omega
      have ht : tkO A x = { x with t := x.t + A } := if_neg h0
      rw [ht] at hs
      repeat' (first
        | (with_reducible first | refine W_seq ?_ | refine W_condT rfl ?_ | refine W_condF rfl ?_ | refine W_tf rfl (fun h => ?_) (fun h => ?_) | refine W_block ?_ | refine endQ_ret ?_ | refine endQ_normal ?_)
        | ((with_reducible first | refine hK _ ?_ | refine hK _ _ ?_); clear hK K)
        | ((first | (with_reducible first | refine ops_cons (fun K hK => ?_) | refine ops_nil ?_ | refine fit_i64 (by omega) ?_ | refine fit_u8 (by omega) ?_ | refine fit_u64 (by omega) ?_ | refine fit_u32 (by omega) ?_ | refine fit_any ?_) | with_reducible refine callV_snap ?_ | (with_reducible first | refine app_grow ?_ | refine idx_map (by omega) ?_ | refine W_reg lv5MdT3 ?_ | refine W_skip ?_ | refine W_exit ?_ | refine W_ret ?_ | refine end_at0 ?_) | (with_reducible refine And.intro (fun h => ?_) (fun h => ?_)) | (with_reducible refine And.intro (by omega) ?_)); (try simp only [go_sem, seval, reduceCtorEq, hki, e0, h0', lv5MdT3, Tryz.ntmps5, Tryz.results5, bsdS]))
        | fail)
      refine ⟨i + 1, [0, 4], by omega, by omega, ?_⟩
      simp only [hs]
      simp [go_sem, encOc]
  · have hki : ¬ (i : Int) < B.length := by omega
    obtain rfl : i = B.length := by omega
    rw [List.take_length]
    have hQl : (L ++ B.map (tkO A)).length ≤ 100 := by rw [List.length_append, List.length_map]; omega
    generalize L ++ B.map (tkO A) = Q at *
    have tQ := trE_zero (show Q.length ≤ 5000 by omega) hval
    have nQ : tlN Q = Q.length := by unfold tlN; rw [tQ, wk_run hrun]; rfl
    have all_at := all_at Q.length Q (by omega) nQ (by rw [tQ])
    repeat' (first
      | (with_reducible first | refine W_seq ?_ | refine W_condT rfl ?_ | refine W_condF rfl ?_ | refine W_tf rfl (fun h => ?_) (fun h => ?_) | refine W_block ?_ | refine endQ_ret ?_ | refine endQ_normal ?_)
      | ((with_reducible first | refine hK _ ?_ | refine hK _ _ ?_); clear hK K)
      | ((first | (with_reducible first | refine ops_cons (fun K hK => ?_) | refine ops_nil ?_ | refine fit_i64 (by omega) ?_ | refine fit_u8 (by omega) ?_ | refine fit_u64 (by omega) ?_ | refine fit_u32 (by omega) ?_ | refine fit_any ?_) | with_reducible refine callV_snap ?_ | ((with_reducible refine call_go allS all_ok ?_); refine ⟨(by first | exact alOk_nil _ | exact alOk_f rfl), _, _, all_at , ?_⟩) | ((with_reducible refine call_go awkS awk_ok ?_); refine ⟨(by first | exact alOk_nil _ | exact alOk_f rfl), _, _, awk_at , ?_⟩) | (with_reducible first | refine app_grow ?_ | refine idx_map (by omega) ?_ | refine W_reg lv5MdT3 ?_ | refine W_skip ?_ | refine W_exit ?_ | refine W_ret ?_ | refine end_at0 ?_) | (with_reducible refine And.intro (fun h => ?_) (fun h => ?_)) | (with_reducible refine And.intro (by omega) ?_)); (try simp only [go_sem, seval, reduceCtorEq, hki, lv5MdT3, Tryz.ntmps5, Tryz.results5, bsdS]))
      | fail)
end Go.Proofs.YtnclclpfmldocaaGreat
