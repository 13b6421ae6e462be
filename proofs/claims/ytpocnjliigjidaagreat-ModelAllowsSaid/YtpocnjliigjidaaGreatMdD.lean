import Derived.Test.YtpocnjliigjidaaGreatMdY
import Derived.Test.YtpocnjliigjidaaGreatMdC
/- The reference's next, Next, walk, Allowed, After. -/
namespace Go.Proofs.YtpocnjliigjidaaGreat
open Go.RowKit
set_option maxRecDepth 100000
set_option linter.unusedSimpArgs false
set_option linter.unusedVariables false
abbrev lv34MdZ : List (Nat × List Nat) := [(0, [0, 3]), (1, [0, 3, 4]), (2, [0, 3, 4, 5]), (3, [0, 3, 4, 5, 12]), (4, [0, 3, 4, 5]), (5, [0, 3, 4, 5, 6, 7]), (6, [0, 3, 4, 5, 6, 25]), (7, [2, 3]), (8, [0, 3, 4, 5]), (9, [2, 3])]
abbrev lv45MdZ : List (Nat × List Nat) := [(0, [2, 3, 4]), (1, [2, 3, 4, 6]), (2, [2, 3, 4, 6, 7]), (3, [2, 3, 4, 6, 7, 21]), (4, [2, 3, 4, 6, 7]), (5, [4, 5]), (6, [3, 4, 6, 7, 8, 9]), (7, [3, 4, 6, 7, 9]), (8, [4, 5])]
def rnxS : Spec := { al := true, rel := fun args ins res outs => ∃ (s : Sy) (x : Oc), Vs s ∧ ocE x = 0 ∧ args = [syA s, ocA x] ∧ ins = [] ∧ res = .tup [syR 0 (rnx s x), bv (nx s x).isSome] ∧ outs = [.rows 24 1 ((rnx s x).W.map encU)] }
set_option maxHeartbeats 4000000 in
theorem rnx_ok : Ok Tryz.prog 45 rnxS := by
  refine fn_ok rnxS Tryz.func45 rfl rfl ?_
  rintro args ins res outs ⟨s, x, hv, h0, rfl, rfl, rfl, rfl⟩
  refine ⟨by simp [Tryz.ntmps45], fun w0 V Bo mu0 => ?_⟩
  obtain ⟨k1, k2, _⟩ := oc_kind h0
  obtain ⟨n, hn⟩ : ∃ n : Nat, x.k = (n : Int) := ⟨x.k.toNat, by omega⟩
  have hmem := fun h9 : n ≠ 9 => mem_all (n := n) (by omega) (by omega) h9
  have hM0 : (memS (n := n)).rel [fm s.m.1 s.m.2.1 s.m.2.2, ocA x] [] (.tup [fm (opO x s.m).1.1 (opO x s.m).1.2.1 (opO x s.m).1.2.2, bv (decide ((opO x s.m).2 = 0))]) [] := (⟨s, x, hv, h0, hn, rfl, rfl, rfl, rfl⟩ : MemR n _ _ _ _)
  obtain ⟨al, mp, cs, W, L, q, o, g, w, t, v, rfl, rfl, hq, hW, l2, l3, l1, hu, hf, hz⟩ := ru_pre hv h0 hn
  have rOwK_at := rOwK_at ⟨(al, mp, cs), W, L⟩ (by dsimp only; omega) (by dsimp only; omega) (by dsimp only; omega) (by dsimp only; omega)
  have hqW : q < W.length := by omega
  have hqi : (q : Int) < W.length := by omega
  have hp1 : (q : Int) + 1 - 1 = (q : Int) := by omega
  have e0 : encU W[q] = [.int .u64 (W[q] : Int)] := rfl
  have e2 : W[q]?.getD 0 = W[q] := by simp [hqW]
  by_cases h9 : n = 9
  · subst h9
    have hset : ((W.map encU).set q [.int .u64 (t : Int)]) = (W.set q t).map encU := by rw [List.map_set]; rfl
    have hsl : (W.set q t).length = W.length := List.length_set
    have hr : rnx ⟨(al, mp, cs), W, L⟩ ⟨((9 : Nat) : Int), (q : Int) + 1, o, g, w, t, v⟩ = ⟨(al, mp, cs), W.set q t, t⟩ := by simp [rnx, ix_succ]
    have hnx : (nx ⟨(al, mp, cs), W, L⟩ ⟨((9 : Nat) : Int), (q : Int) + 1, o, g, w, t, v⟩).isSome = decide (W[q] = 0 ∧ L < t) := by
      have : nx ⟨(al, mp, cs), W, L⟩ ⟨((9 : Nat) : Int), (q : Int) + 1, o, g, w, t, v⟩ = if W[q] = 0 ∧ L < t then some ⟨(al, mp, cs), W.set q t, t⟩ else none := by simp [nx, ix_succ, e2]
      rw [this]; split <;> simp_all
    rw [hr, hnx]
    clear hM0 hmem
    by_cases hw : W[q] = 0
    · have hw' : (W[q] : Int) = 0 := by omega
      by_cases hL : L < t
      · have hL' : (L : Int) < (t : Int) := by omega
        rw [decide_eq_true ⟨hw, hL⟩]
        repeat' (first | refine sA ?_ | with_reducible refine W_tf rfl (fun h => ?_) (fun h => ?_) | ((with_reducible first | refine hK _ ?_ | refine hK _ _ ?_); clear hK K) | ((with_reducible refine idx_map2 hqW ?_); simp only [go_sem, seval, reduceCtorEq, encU_len, e0, hset]) | ((first | refine sC ?_ | (with_reducible first | refine ops_cons (fun K hK => ?_) | refine opsd_cons (fun K hK => ?_) | refine W_reg lv45MdZ ?_ | refine W_drw lv45MdZ (by kernel_rfl) ?_) | ((with_reducible refine opsd_nil ?_); refine And.intro (by kernel_rfl) ?_) | with_reducible refine callV_snap ?_ | ((with_reducible refine call_go rOwKS rOwK_ok ?_); refine ⟨alk, _, _, rOwK_at , ?_⟩) | with_reducible refine And.intro (fun h => ?_) (fun h => ?_) | with_reducible refine And.intro (by omega) ?_); (try simp only [go_sem, seval, reduceCtorEq, hp1, hqi, e0, hw', hL', hset, lv45MdZ, Tryz.ntmps45, Tryz.results45, rnxS])) | fail)
        refine W_ret (endQ_ret (end_at [3] ?_))
        simp [go_sem, Tryz.results45, rnxS, hsl]
      · have hL' : ¬ (L : Int) < (t : Int) := by omega
        rw [decide_eq_false (fun h => hL h.2)]
        repeat' (first | refine sA ?_ | with_reducible refine W_tf rfl (fun h => ?_) (fun h => ?_) | ((with_reducible first | refine hK _ ?_ | refine hK _ _ ?_); clear hK K) | ((with_reducible refine idx_map2 hqW ?_); simp only [go_sem, seval, reduceCtorEq, encU_len, e0, hset]) | ((first | refine sC ?_ | (with_reducible first | refine ops_cons (fun K hK => ?_) | refine opsd_cons (fun K hK => ?_) | refine W_reg lv45MdZ ?_ | refine W_drw lv45MdZ (by kernel_rfl) ?_) | ((with_reducible refine opsd_nil ?_); refine And.intro (by kernel_rfl) ?_) | with_reducible refine callV_snap ?_ | ((with_reducible refine call_go rOwKS rOwK_ok ?_); refine ⟨alk, _, _, rOwK_at , ?_⟩) | with_reducible refine And.intro (fun h => ?_) (fun h => ?_) | with_reducible refine And.intro (by omega) ?_); (try simp only [go_sem, seval, reduceCtorEq, hp1, hqi, e0, hw', hL', hset, lv45MdZ, Tryz.ntmps45, Tryz.results45, rnxS])) | fail)
        refine W_ret (endQ_ret (end_at [3] ?_))
        simp [go_sem, Tryz.results45, rnxS, hsl]
    · have hw' : ¬ (W[q] : Int) = 0 := by omega
      rw [decide_eq_false (fun h => hw h.1)]
      repeat' (first | refine sA ?_ | with_reducible refine W_tf rfl (fun h => ?_) (fun h => ?_) | ((with_reducible first | refine hK _ ?_ | refine hK _ _ ?_); clear hK K) | ((with_reducible refine idx_map2 hqW ?_); simp only [go_sem, seval, reduceCtorEq, encU_len, e0, hset]) | ((first | refine sC ?_ | (with_reducible first | refine ops_cons (fun K hK => ?_) | refine opsd_cons (fun K hK => ?_) | refine W_reg lv45MdZ ?_ | refine W_drw lv45MdZ (by kernel_rfl) ?_) | ((with_reducible refine opsd_nil ?_); refine And.intro (by kernel_rfl) ?_) | with_reducible refine callV_snap ?_ | ((with_reducible refine call_go rOwKS rOwK_ok ?_); refine ⟨alk, _, _, rOwK_at , ?_⟩) | with_reducible refine And.intro (fun h => ?_) (fun h => ?_) | with_reducible refine And.intro (by omega) ?_); (try simp only [go_sem, seval, reduceCtorEq, hp1, hqi, e0, hw', hset, lv45MdZ, Tryz.ntmps45, Tryz.results45, rnxS])) | fail)
      refine W_ret (endQ_ret (end_at [3] ?_))
      simp [go_sem, Tryz.results45, rnxS, hsl]
  · have mem_ok := hmem h9
    have hk9 : ¬ (n : Int) = 9 := by omega
    have hset : ((W.map encU).set q [.int .u64 0]) = (W.set q 0).map encU := by rw [List.map_set]; rfl
    have hsl : (W.set q 0).length = W.length := List.length_set
    have hr : rnx ⟨(al, mp, cs), W, L⟩ ⟨(n : Int), (q : Int) + 1, o, g, w, t, v⟩ = ⟨(opO ⟨(n : Int), (q : Int) + 1, o, g, w, t, v⟩ (al, mp, cs)).1, W.set q 0, L⟩ := by unfold rnx; rw [if_neg hk9, ix_succ]
    have hnx : (nx ⟨(al, mp, cs), W, L⟩ ⟨(n : Int), (q : Int) + 1, o, g, w, t, v⟩).isSome = decide (W[q] = t ∧ (opO ⟨(n : Int), (q : Int) + 1, o, g, w, t, v⟩ (al, mp, cs)).2 = 0) := by
      unfold nx
      rw [if_neg hk9, ix_succ, e2]
      split <;> simp_all
    rw [hr, hnx]
    dsimp only at hM0
    generalize opO ⟨(n : Int), (q : Int) + 1, o, g, w, t, v⟩ (al, mp, cs) = R at *
    obtain ⟨⟨A, M, C⟩, e⟩ := R
    dsimp only at hM0 ⊢
    clear hr hnx hmem
    obtain ⟨b, hb⟩ : ∃ b, decide (e = 0) = b := ⟨_, rfl⟩
    rw [hb] at hM0
    have mem_at : (memS (n := n)).rel [fm al mp cs, ocA ⟨(n : Int), (q : Int) + 1, o, g, w, t, v⟩] [] (.tup [fm A M C, bv b]) [] := hM0
    by_cases hw : W[q] = t
    · have hres : decide (W[q] = t ∧ e = 0) = b := by rw [← hb]; simp [hw]
      rw [hres]
      clear hres
      subst hw
      cases b
      all_goals
        repeat' (first | refine sA ?_ | with_reducible refine W_tf rfl (fun h => ?_) (fun h => ?_) | ((with_reducible first | refine hK _ ?_ | refine hK _ _ ?_); clear hK K) | ((with_reducible refine idx_map2 hqW ?_); simp only [go_sem, seval, reduceCtorEq, encU_len, e0, hset]) | ((first | refine sC ?_ | (with_reducible first | refine ops_cons (fun K hK => ?_) | refine opsd_cons (fun K hK => ?_) | refine W_reg lv45MdZ ?_ | refine W_drw lv45MdZ (by kernel_rfl) ?_) | ((with_reducible refine opsd_nil ?_); refine And.intro (by kernel_rfl) ?_) | with_reducible refine callV_snap ?_ | ((with_reducible refine call_go rOwKS rOwK_ok ?_); refine ⟨alk, _, _, rOwK_at , ?_⟩) | ((with_reducible refine call_go memS mem_ok ?_); refine ⟨alk, _, _, mem_at , ?_⟩) | with_reducible refine And.intro (fun h => ?_) (fun h => ?_) | with_reducible refine And.intro (by omega) ?_); (try simp only [go_sem, seval, reduceCtorEq, hk9, hp1, hqi, e0, hset, lv45MdZ, Tryz.ntmps45, Tryz.results45, rnxS])) | fail)
      all_goals
        refine W_ret (endQ_ret (end_at [3] ?_))
        simp [go_sem, Tryz.results45, rnxS, hsl]
    · have hw' : ¬ (t : Int) = (W[q] : Int) := by omega
      rw [decide_eq_false (fun h => hw h.1)]
      cases b
      all_goals
        repeat' (first | refine sA ?_ | with_reducible refine W_tf rfl (fun h => ?_) (fun h => ?_) | ((with_reducible first | refine hK _ ?_ | refine hK _ _ ?_); clear hK K) | ((with_reducible refine idx_map2 hqW ?_); simp only [go_sem, seval, reduceCtorEq, encU_len, e0, hset]) | ((first | refine sC ?_ | (with_reducible first | refine ops_cons (fun K hK => ?_) | refine opsd_cons (fun K hK => ?_) | refine W_reg lv45MdZ ?_ | refine W_drw lv45MdZ (by kernel_rfl) ?_) | ((with_reducible refine opsd_nil ?_); refine And.intro (by kernel_rfl) ?_) | with_reducible refine callV_snap ?_ | ((with_reducible refine call_go rOwKS rOwK_ok ?_); refine ⟨alk, _, _, rOwK_at , ?_⟩) | ((with_reducible refine call_go memS mem_ok ?_); refine ⟨alk, _, _, mem_at , ?_⟩) | with_reducible refine And.intro (fun h => ?_) (fun h => ?_) | with_reducible refine And.intro (by omega) ?_); (try simp only [go_sem, seval, reduceCtorEq, hk9, hp1, hqi, e0, hw', hset, lv45MdZ, Tryz.ntmps45, Tryz.results45, rnxS])) | fail)
      all_goals
        refine W_ret (endQ_ret (end_at [3] ?_))
        simp [go_sem, Tryz.results45, rnxS, hsl]
def rnxFS : Spec := { al := true, rel := fun args ins res outs => ∃ (s : Sy) (x : Oc), Vs s ∧ ocE x = 0 ∧ args = [syA s, ocA x] ∧ ins = [] ∧ res = .tup [syA (rnx s x), bv (nx s x).isSome] ∧ outs = [] }
theorem rnxF_at (s : Sy) (x : Oc) (h1 : Vs s) (h2 : ocE x = 0) : rnxFS.rel [syA s, ocA x] [] (.tup [syA (rnx s x), bv (nx s x).isSome]) [] := ⟨s, x, h1, h2, rfl, rfl, rfl, rfl⟩
theorem rnxF_ok : Ok Tryz.prog 45 rnxFS := by
  refine ok_frz rnx_ok rnxFS rfl ?_
  rintro args ins res outs ⟨s, x, h1, h2, rfl, rfl, rfl, rfl⟩
  refine ⟨rfl, rfl, _, _, ⟨s, x, h1, h2, rfl, rfl, rfl, rfl⟩, ?_⟩
  simp [frz, frzA, frzAL, frzL, frz1, List.take_of_length_le]
def wlkS : Spec := { al := true, rel := fun args ins res outs => ∃ l : List Oc, l.length ≤ 1000000 ∧ (∀ x ∈ l, ocE x = 0) ∧ args = [ocL l] ∧ ins = [] ∧ res = .tup [iv ((wk sy0 l).1 : Int), syA (wk sy0 l).2] ∧ outs = [] }
theorem wlk_at (l : List Oc) (hl : l.length ≤ 1000000) (h : ∀ x ∈ l, ocE x = 0) : wlkS.rel [ocL l] [] (.tup [iv ((wk sy0 l).1 : Int), syA (wk sy0 l).2]) [] := ⟨l, hl, h, rfl, rfl, rfl, rfl⟩
set_option maxHeartbeats 2000000 in
theorem wlk_ok : Ok Tryz.prog 34 wlkS := by
  refine fn_ok wlkS Tryz.func34 rfl rfl ?_
  rintro args ins res outs ⟨l, hl, hval, rfl, rfl, rfl, rfl⟩
  refine ⟨by simp [Tryz.ntmps34], fun w0 V Bo mu0 => ?_⟩
  repeat' (first | refine sA ?_ | with_reducible refine W_tf rfl (fun h => ?_) (fun h => ?_) | ((with_reducible first | refine hK _ ?_ | refine hK _ _ ?_); clear hK K) | ((first | refine sB ?_ | (with_reducible first | refine ops_cons (fun K hK => ?_) | refine opsd_cons (fun K hK => ?_) | refine W_reg lv34MdZ ?_ | refine W_drw lv34MdZ (by kernel_rfl) ?_) | ((with_reducible refine opsd_nil ?_); refine And.intro (by kernel_rfl) ?_) | with_reducible refine callV_snap ?_ | ((with_reducible refine call_go rMNewFS rMNewF_ok ?_); refine ⟨alk, _, _, rMNewF_at , ?_⟩) | with_reducible refine And.intro (fun h => ?_) (fun h => ?_) | with_reducible refine And.intro (by omega) ?_); (try simp only [go_sem, seval, reduceCtorEq, lv34MdZ, Tryz.ntmps34, Tryz.results34, wlkS])) | fail)
  refine W_loop (fun i : Nat => ⟨[(0, ocL l), (3, .ptr 0 0), (4, .ptr 1 0), (5, iv (i : Int))], [some (.box 40 [.nil, .nil, .nil, .nil, wv 0]), some (.box 40 [.d (.sl ((tlG l i).m.1.map encDB)), .d (.sl ((tlG l i).m.2.1.map encU)), .d (.sl ((tlG l i).m.2.2.map encCl)), .d (.sl ((tlG l i).W.map encU)), wv ((tlG l i).L : Int)])]⟩) (fun i => i ≤ l.length ∧ run sy0 (l.take i) = some (tlG l i)) (fun i => l.length - i) 0 ⟨Nat.zero_le _, rfl⟩ [0, 1] ?_ ?_
  · simp [go_sem, tlG, run, sy0]
  rintro i ⟨hi, hT⟩
  by_cases hlt : i < l.length
  · have hki : (i : Int) < l.length := by omega
    have hx := hval _ (List.getElem_mem hlt)
    have hnext := fun u => run_step (u := u) hlt hT
    have hstop := wk_stop hlt hT
    have hv : Vs (tlG l i) := run_vs sy0_vs (fun y hy => hval y (List.mem_of_mem_take hy)) hT
    have hgo := fun u h => tlG_of (i := i + 1) (hnext u h)
    obtain ⟨x, hxe⟩ : ∃ x, l[i] = x := ⟨_, rfl⟩
    have e0 : encOc l[i] = [.int .i64 x.k, .int .i64 x.p, .int .i64 x.o, .int .i64 x.g, .int .i64 x.w, .int .u64 (x.t : Int), .int .u64 (x.v : Int)] := by rw [hxe]; rfl
    rw [hxe] at hx hnext hstop hgo
    have R0 := rnxF_at (tlG l i) x hv hx
    have hR := rnx_eq (tlG l i) x
    cases hnx : (nx (tlG l i) x).isSome with
    | false =>
      rw [hnx] at R0 hR
      rw [if_neg (by decide)] at hR
      rw [hstop hR]
      generalize tlG l i = s at *
      generalize rnx s x = u at *
      have rnxF_at : rnxFS.rel [syA s, ocA x] [] (.tup [syA u, bv false]) [] := R0
      repeat' (first | refine sA ?_ | with_reducible refine W_tf rfl (fun h => ?_) (fun h => ?_) | ((with_reducible first | refine hK _ ?_ | refine hK _ _ ?_); clear hK K) | ((first | refine sB ?_ | (with_reducible first | refine ops_cons (fun K hK => ?_) | refine opsd_cons (fun K hK => ?_) | refine W_reg lv34MdZ ?_ | refine W_drw lv34MdZ (by kernel_rfl) ?_) | ((with_reducible refine opsd_nil ?_); refine And.intro (by kernel_rfl) ?_) | with_reducible refine callV_snap ?_ | ((with_reducible refine call_go rnxFS rnxF_ok ?_); refine ⟨alk, _, _, rnxF_at , ?_⟩) | with_reducible refine And.intro (fun h => ?_) (fun h => ?_) | with_reducible refine And.intro (by omega) ?_); (try simp only [go_sem, seval, reduceCtorEq, hki, e0, lv34MdZ, Tryz.ntmps34, Tryz.results34, wlkS])) | fail)
    | true =>
      rw [hnx] at R0 hR
      rw [if_pos rfl] at hR
      have hg := hgo _ hR
      have hnx' := hnext _ hR
      generalize tlG l i = s at *
      generalize rnx s x = u at *
      have rnxF_at : rnxFS.rel [syA s, ocA x] [] (.tup [syA u, bv true]) [] := R0
      repeat' (first | refine sA ?_ | with_reducible refine W_tf rfl (fun h => ?_) (fun h => ?_) | ((with_reducible first | refine hK _ ?_ | refine hK _ _ ?_); clear hK K) | ((first | refine sB ?_ | (with_reducible first | refine ops_cons (fun K hK => ?_) | refine opsd_cons (fun K hK => ?_) | refine W_reg lv34MdZ ?_ | refine W_drw lv34MdZ (by kernel_rfl) ?_) | ((with_reducible refine opsd_nil ?_); refine And.intro (by kernel_rfl) ?_) | with_reducible refine callV_snap ?_ | ((with_reducible refine call_go rnxFS rnxF_ok ?_); refine ⟨alk, _, _, rnxF_at , ?_⟩) | with_reducible refine And.intro (fun h => ?_) (fun h => ?_) | with_reducible refine And.intro (by omega) ?_); (try simp only [go_sem, seval, reduceCtorEq, hki, e0, lv34MdZ, Tryz.ntmps34, Tryz.results34, wlkS])) | fail)
      refine ⟨i + 1, [0, 1], ⟨by omega, by rw [hg]; exact hnx'⟩, by omega, ?_⟩
      simp [go_sem, hg]
  · have hki : ¬ (i : Int) < l.length := by omega
    obtain rfl : i = l.length := by omega
    rw [List.take_length] at hT
    rw [wk_run hT]
    generalize tlG l l.length = s at *
    repeat' (first | refine sA ?_ | with_reducible refine W_tf rfl (fun h => ?_) (fun h => ?_) | ((with_reducible first | refine hK _ ?_ | refine hK _ _ ?_); clear hK K) | ((first | refine sB ?_ | (with_reducible first | refine ops_cons (fun K hK => ?_) | refine opsd_cons (fun K hK => ?_) | refine W_reg lv34MdZ ?_ | refine W_drw lv34MdZ (by kernel_rfl) ?_) | ((with_reducible refine opsd_nil ?_); refine And.intro (by kernel_rfl) ?_) | with_reducible refine callV_snap ?_ | with_reducible refine And.intro (fun h => ?_) (fun h => ?_) | with_reducible refine And.intro (by omega) ?_); (try simp only [go_sem, seval, reduceCtorEq, hki, lv34MdZ, Tryz.ntmps34, Tryz.results34, wlkS])) | fail)
end Go.Proofs.YtpocnjliigjidaaGreat
namespace Go.Proofs.YtpocnjliigjidaaGreat
open Go.RowKit
set_option maxRecDepth 100000
set_option linter.unusedSimpArgs false
set_option linter.unusedVariables false
abbrev lv135MdD : List (Nat × List Nat) := [(0, [0, 1]), (1, [1, 5]), (2, [1, 5, 6]), (3, [1, 5, 6, 12]), (4, [1, 5, 6]), (5, [1, 5, 6, 19]), (6, [4]), (7, [4])]
def lay2 (n : Nat) : List UInt8 := if n = 1 ∨ n = 2 then [115] else if n = 3 ∨ n = 4 then [112, 119, 118, 116] else if n = 5 then [111, 116] else if n = 8 then [112, 119] else if n = 11 then [118, 116] else if n = 7 then [] else [116]
def inRS : Spec := { rel := fun args ins res outs => ∃ n a b : Int, args = [iv n, iv a, iv b] ∧ ins = [] ∧ res = bv (decide (a ≤ n ∧ n ≤ b)) ∧ outs = [] }
theorem inR_ok : Ok Tryz.prog 134 inRS := by
  refine fn_ok inRS Tryz.func134 rfl rfl ?_
  rintro args ins res outs ⟨n, a, b, rfl, rfl, rfl, rfl⟩
  refine ⟨by simp [Tryz.ntmps134], fun w0 V Bo mu0 => ?_⟩
  repeat' (first | refine sA ?_ | ((with_reducible first | refine hK _ ?_ | refine hK _ _ ?_); clear hK K) | ((first | refine sB ?_ | (with_reducible first | refine ops_cons (fun K hK => ?_) | refine W_reg [(0, [0, 1, 2]), (1, [6])] ?_) | with_reducible refine And.intro (fun h => ?_) (fun h => ?_) | with_reducible refine And.intro (by omega) ?_); (try simp only [go_sem, seval, reduceCtorEq, Tryz.ntmps134, Tryz.results134, inRS])) | fail)
  all_goals first | exact dec_t (by omega) | exact dec_f (by omega)
def lstT (n : Int) : Int := if n = 3 ∨ n = 4 ∨ n = 10 then 0 else 1
def lstTS : Spec := { rel := fun args ins res outs => ∃ n : Int, args = [iv n] ∧ ins = [] ∧ res = wv (lstT n) ∧ outs = [] }
theorem lstT_at (n : Int) {m : Int} (h : lstT n = m) : lstTS.rel [iv n] [] (wv m) [] := ⟨n, rfl, rfl, by rw [h], rfl⟩
theorem lstT_ok : Ok Tryz.prog 136 lstTS := by
  refine fn_ok lstTS Tryz.func136 rfl rfl ?_
  rintro args ins res outs ⟨n, rfl, rfl, rfl, rfl⟩
  refine ⟨by simp [Tryz.ntmps136], fun w0 V Bo mu0 => ?_⟩
  repeat' (first | refine sA ?_ | with_reducible refine W_tf rfl (fun h => ?_) (fun h => ?_) | ((with_reducible first | refine hK _ ?_ | refine hK _ _ ?_); clear hK K) | ((first | refine sB ?_ | (with_reducible first | refine ops_cons (fun K hK => ?_) | refine W_reg [(0, [0]), (1, [12]), (2, [2]), (3, [2])] ?_) | with_reducible refine And.intro (fun h => ?_) (fun h => ?_) | with_reducible refine And.intro (by omega) ?_); (try simp only [go_sem, seval, reduceCtorEq, Tryz.ntmps136, Tryz.results136, lstTS])) | fail)
  all_goals simp [lstT, *]
def fldK (k : Int) : List UInt8 := lay2 k.toNat
def fldsS : Spec := { rel := fun args ins res outs => ∃ k : Int, 1 ≤ k ∧ k ≤ 11 ∧ args = [iv k] ∧ ins = [] ∧ res = .d (.str (sY (fldK k))) ∧ outs = [] }
theorem flds_at (k : Int) (h1 : 1 ≤ k) (h2 : k ≤ 11) : fldsS.rel [iv k] [] (.d (.str (sY (fldK k)))) [] := ⟨k, h1, h2, rfl, rfl, rfl, rfl⟩
theorem flds_ok : Ok Tryz.prog 154 fldsS := by
  refine fn_ok fldsS Tryz.func154 rfl rfl ?_
  rintro args ins res outs ⟨n, h1, h2, rfl, rfl, rfl, rfl⟩
  refine ⟨by simp [Tryz.ntmps154], fun w0 V Bo mu0 => ?_⟩
  rcases (show n = 1 ∨ n = 2 ∨ n = 3 ∨ n = 4 ∨ n = 5 ∨ n = 6 ∨ n = 7 ∨ n = 8 ∨ n = 9 ∨ n = 10 ∨ n = 11 by omega) with rfl | rfl | rfl | rfl | rfl | rfl | rfl | rfl | rfl | rfl | rfl
  all_goals
    repeat' (first | refine sA ?_ | ((with_reducible first | refine hK _ ?_ | refine hK _ _ ?_); clear hK K) | ((first | refine sB ?_ | (with_reducible first | refine ops_cons (fun K hK => ?_) | refine W_reg [(0, [0]), (1, [2])] ?_) | with_reducible refine And.intro (fun h => ?_) (fun h => ?_) | with_reducible refine And.intro (by omega) ?_); (try simp only [go_sem, seval, reduceCtorEq, Tryz.ntmps154, Tryz.results154, fldsS])) | fail)
  all_goals rfl
def usK (k c : Int) : Bool := (fldK k).any fun b => decide ((b.toNat : Int) = c)
def usesS : Spec := { rel := fun args ins res outs => ∃ k c : Int, 1 ≤ k ∧ k ≤ 11 ∧ args = [iv k, .d (.int .u8 c)] ∧ ins = [] ∧ res = bv (usK k c) ∧ outs = [] }
theorem uses_at {k c : Int} {b : Bool} (h1 : 1 ≤ k) (h2 : k ≤ 11) (h : usK k c = b) : usesS.rel [iv k, .d (.int .u8 c)] [] (bv b) [] := ⟨k, c, h1, h2, rfl, rfl, by rw [h], rfl⟩
theorem uses_ok : Ok Tryz.prog 135 usesS := by
  refine fn_ok usesS Tryz.func135 rfl rfl ?_
  rintro args ins res outs ⟨k, c, h1, h2, rfl, rfl, rfl, rfl⟩
  refine ⟨by simp [Tryz.ntmps135], fun w0 V Bo mu0 => ?_⟩
  have us := Tryz.underlying9
  repeat' (first | refine sA ?_ | with_reducible refine W_tf rfl (fun h => ?_) (fun h => ?_) | ((with_reducible first | refine hK _ ?_ | refine hK _ _ ?_); clear hK K) | ((first | refine sB ?_ | (with_reducible first | refine ops_cons (fun K hK => ?_) | refine W_reg lv135MdD ?_) | with_reducible refine callV_snap ?_ | ((with_reducible refine call_go fldsS flds_ok ?_); refine ⟨alk, _, _, flds_at k h1 h2, ?_⟩) | with_reducible refine And.intro (fun h => ?_) (fun h => ?_) | with_reducible refine And.intro (by omega) ?_); (try simp only [go_sem, seval, reduceCtorEq, lv135MdD, Tryz.ntmps135, Tryz.results135, usesS])) | fail)
  unfold usK
  have h4 : (fldK k).length ≤ 4 := by unfold fldK lay2; (repeat' split) <;> decide
  have hsz : (sY (fldK k)).size = (fldK k).length := rfl
  generalize fldK k = l at *
  refine W_loop (fun i : Nat => ⟨[(1, .d (.int .u8 c)), (5, .d (.str (sY l))), (6, iv (i : Int))], []⟩) (fun i => i ≤ l.length ∧ (l.take i).any (fun b => decide ((b.toNat : Int) = c)) = false) (fun i => l.length - i) 0 ⟨Nat.zero_le _, rfl⟩ [] ?_ ?_
  · simp [go_sem]
  rintro i ⟨hi, hT⟩
  by_cases hlt : i < l.length
  · have hki : (i : Int) < l.length := by omega
    have hb := sB_get hlt
    by_cases he : ((l[i]).toNat : Int) = c
    · have hr : l.any (fun b => decide ((b.toNat : Int) = c)) = true := List.any_eq_true.2 ⟨_, List.getElem_mem hlt, by simpa using he⟩
      rw [hr]
      repeat' (first | refine sA ?_ | with_reducible refine W_tf rfl (fun h => ?_) (fun h => ?_) | ((with_reducible first | refine hK _ ?_ | refine hK _ _ ?_); clear hK K) | ((refine ext_sindex rfl ?_ us rfl rfl (by omega) hb ?_) <;> simp only [go_sem, seval, reduceCtorEq]) | ((first | refine sB ?_ | (with_reducible first | refine ops_cons (fun K hK => ?_) | refine W_reg lv135MdD ?_) | with_reducible refine callV_snap ?_ | with_reducible refine And.intro (fun h => ?_) (fun h => ?_) | with_reducible refine And.intro (by omega) ?_); (try simp only [go_sem, seval, reduceCtorEq, hki, hsz, he, lv135MdD, Tryz.ntmps135, Tryz.results135, usesS])) | fail)
    · have hn : (l.take (i + 1)).any (fun b => decide ((b.toNat : Int) = c)) = false := by
        rw [take_get l i hlt, List.any_append, hT]
        simp [he]
      repeat' (first | refine sA ?_ | with_reducible refine W_tf rfl (fun h => ?_) (fun h => ?_) | ((with_reducible first | refine hK _ ?_ | refine hK _ _ ?_); clear hK K) | ((refine ext_sindex rfl ?_ us rfl rfl (by omega) hb ?_) <;> simp only [go_sem, seval, reduceCtorEq]) | ((first | refine sB ?_ | (with_reducible first | refine ops_cons (fun K hK => ?_) | refine W_reg lv135MdD ?_) | with_reducible refine callV_snap ?_ | with_reducible refine And.intro (fun h => ?_) (fun h => ?_) | with_reducible refine And.intro (by omega) ?_); (try simp only [go_sem, seval, reduceCtorEq, hki, hsz, he, lv135MdD, Tryz.ntmps135, Tryz.results135, usesS])) | fail)
      refine ⟨i + 1, [], ⟨by omega, hn⟩, by omega, ?_⟩
      simp [go_sem]
  · have hki : ¬ (i : Int) < l.length := by omega
    obtain rfl : i = l.length := by omega
    rw [List.take_length] at hT
    rw [hT]
    repeat' (first | refine sA ?_ | with_reducible refine W_tf rfl (fun h => ?_) (fun h => ?_) | ((with_reducible first | refine hK _ ?_ | refine hK _ _ ?_); clear hK K) | ((first | refine sB ?_ | (with_reducible first | refine ops_cons (fun K hK => ?_) | refine W_reg lv135MdD ?_) | with_reducible refine callV_snap ?_ | with_reducible refine And.intro (fun h => ?_) (fun h => ?_) | with_reducible refine And.intro (by omega) ?_); (try simp only [go_sem, seval, reduceCtorEq, hki, hsz, lv135MdD, Tryz.ntmps135, Tryz.results135, usesS])) | fail)
def nmN (n : Int) : List UInt8 := if n < 1 ∨ 11 < n then [] else nmB n.toNat
def nmRS : Spec := { rel := fun args ins res outs => ∃ n : Int, args = [iv n] ∧ ins = [] ∧ res = .d (.str (sY (nmN n))) ∧ outs = [] }
theorem nmR_at (n : Int) {l : List UInt8} (h : nmN n = l) : nmRS.rel [iv n] [] (.d (.str (sY l))) [] := ⟨n, rfl, rfl, by rw [h], rfl⟩
set_option maxHeartbeats 2000000 in
theorem nmR_ok : Ok Tryz.prog 90 nmRS := by
  refine fn_ok nmRS Tryz.func90 rfl rfl ?_
  rintro args ins res outs ⟨n, rfl, rfl, rfl, rfl⟩
  refine ⟨by simp [Tryz.ntmps90], fun w0 V Bo mu0 => ?_⟩
  by_cases k1 : n < 1
  · rw [show nmN n = [] from if_pos (.inl k1)]
    repeat' (first | refine sA ?_ | with_reducible refine W_tf rfl (fun h => ?_) (fun h => ?_) | ((with_reducible first | refine hK _ ?_ | refine hK _ _ ?_); clear hK K) | ((first | refine sB ?_ | (with_reducible first | refine ops_cons (fun K hK => ?_) | refine W_reg [(0, [0]), (1, [0, 3]), (2, [0, 3, 12]), (3, [2]), (4, [2])] ?_) | with_reducible refine callV_snap ?_ | with_reducible refine And.intro (fun h => ?_) (fun h => ?_) | with_reducible refine And.intro (by omega) ?_); (try simp only [go_sem, seval, reduceCtorEq, k1, Tryz.ntmps90, Tryz.results90, nmRS])) | fail)
  by_cases k2 : 11 < n
  · rw [show nmN n = [] from if_pos (.inr k2)]
    have k3 : 12 ≤ n := by omega
    repeat' (first | refine sA ?_ | with_reducible refine W_tf rfl (fun h => ?_) (fun h => ?_) | ((with_reducible first | refine hK _ ?_ | refine hK _ _ ?_); clear hK K) | ((first | refine sB ?_ | (with_reducible first | refine ops_cons (fun K hK => ?_) | refine W_reg [(0, [0]), (1, [0, 3]), (2, [0, 3, 12]), (3, [2]), (4, [2])] ?_) | with_reducible refine callV_snap ?_ | with_reducible refine And.intro (fun h => ?_) (fun h => ?_) | with_reducible refine And.intro (by omega) ?_); (try simp only [go_sem, seval, reduceCtorEq, k1, k3, Tryz.ntmps90, Tryz.results90, nmRS])) | fail)
  rw [show nmN n = nmB n.toNat from if_neg (by omega)]
  obtain ⟨m, rfl⟩ : ∃ m : Nat, n = (m : Int) := ⟨n.toNat, by omega⟩
  rcases (show m = 1 ∨ m = 2 ∨ m = 3 ∨ m = 4 ∨ m = 5 ∨ m = 6 ∨ m = 7 ∨ m = 8 ∨ m = 9 ∨ m = 10 ∨ m = 11 by omega) with rfl | rfl | rfl | rfl | rfl | rfl | rfl | rfl | rfl | rfl | rfl
  all_goals
    repeat' (first | refine sA ?_ | with_reducible refine W_tf rfl (fun h => ?_) (fun h => ?_) | ((with_reducible first | refine hK _ ?_ | refine hK _ _ ?_); clear hK K) | ((first | refine sB ?_ | (with_reducible first | refine ops_cons (fun K hK => ?_) | refine W_reg [(0, [0]), (1, [0, 3]), (2, [0, 3, 12]), (3, [2]), (4, [2])] ?_) | with_reducible refine callV_snap ?_ | with_reducible refine And.intro (fun h => ?_) (fun h => ?_) | with_reducible refine And.intro (by omega) ?_); (try simp only [go_sem, seval, reduceCtorEq, Tryz.ntmps90, Tryz.results90, nmRS])) | fail)
  all_goals rfl
theorem tl_go (l : List UInt8) : ∀ (n i : Nat) (r : List UInt8), l.length - i = n → ByteArray.toList.loop (sY l) i r = r.reverse ++ l.drop i := by
  intro n
  induction n with
  | zero =>
    intro i r h
    unfold ByteArray.toList.loop
    have hs : ¬ i < (sY l).size := by show ¬ i < l.length; omega
    rw [if_neg hs, List.drop_eq_nil_of_le (by omega)]
    simp
  | succ n ih =>
    intro i r h
    unfold ByteArray.toList.loop
    have hs : i < (sY l).size := by show i < l.length; omega
    rw [if_pos hs, ih _ _ (by omega)]
    have e : (sY l).get! i = l[i]'(by omega) := by
      unfold ByteArray.get!
      simp [show i < l.length by omega]
    rw [e, List.drop_eq_getElem_cons (show i < l.length by omega)]
    simp
theorem sB_toList (l : List UInt8) : (sY l).toList = l := by
  unfold ByteArray.toList
  rw [tl_go l _ 0 [] rfl]
  simp
theorem nmN_nil {n : Int} (h : n < 1 ∨ 11 < n) : nmN n = [] := if_pos h
theorem nmN_ne {n : Int} (h : ¬ (n < 1 ∨ 11 < n)) : ((sY (nmN n)).toList == (ByteArray.mk #[]).toList) = false := by
  have e : (ByteArray.mk #[]).toList = [] := sB_toList []
  rw [sB_toList, e]
  obtain ⟨m, rfl⟩ : ∃ m : Nat, n = (m : Int) := ⟨n.toNat, by omega⟩
  rcases (show m = 1 ∨ m = 2 ∨ m = 3 ∨ m = 4 ∨ m = 5 ∨ m = 6 ∨ m = 7 ∨ m = 8 ∨ m = 9 ∨ m = 10 ∨ m = 11 by omega) with rfl | rfl | rfl | rfl | rfl | rfl | rfl | rfl | rfl | rfl | rfl
  all_goals decide
def rngB (x : Oc) : Bool := decide (1 ≤ x.p ∧ x.p ≤ 8) && fitO x
def rngOS : Spec := { rel := fun args ins res outs => ∃ x : Oc, 1 ≤ x.k ∧ x.k ≤ 11 ∧ args = [ocA x] ∧ ins = [] ∧ res = bv (rngB x) ∧ outs = [] }
theorem rngO_at (x : Oc) (h1 : 1 ≤ x.k) (h2 : x.k ≤ 11) {b : Bool} (h : rngB x = b) : rngOS.rel [ocA x] [] (bv b) [] := ⟨x, h1, h2, rfl, rfl, by rw [h], rfl⟩
theorem inB_at {n a b : Int} {c : Bool} (h : decide (a ≤ n ∧ n ≤ b) = c) : inRS.rel [iv n, iv a, iv b] [] (bv c) [] := ⟨n, a, b, rfl, rfl, by rw [h], rfl⟩
abbrev inBS : Spec := inRS
theorem inB_ok : Ok Tryz.prog 134 inBS := inR_ok
def rnAS : Spec := { rel := fun args ins res outs => ∃ x : Oc, 1 ≤ x.k ∧ x.k ≤ 4 ∧ args = [ocA x] ∧ ins = [] ∧ res = bv (rngB x) ∧ outs = [] }
def rnBS : Spec := { rel := fun args ins res outs => ∃ x : Oc, 5 ≤ x.k ∧ x.k ≤ 8 ∧ args = [ocA x] ∧ ins = [] ∧ res = bv (rngB x) ∧ outs = [] }
def rnCS : Spec := { rel := fun args ins res outs => ∃ x : Oc, 9 ≤ x.k ∧ x.k ≤ 11 ∧ args = [ocA x] ∧ ins = [] ∧ res = bv (rngB x) ∧ outs = [] }
end Go.Proofs.YtpocnjliigjidaaGreat
