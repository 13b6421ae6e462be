import Derived.Test.YtpocnjliigjidaaGreatFlAD
import Derived.Test.YtpocnjliigjidaaGreatFlAC
/- A flat memory: the specification's Fork, by the engine. -/
namespace Go.Proofs.YtpocnjliigjidaaGreat
open Go.RowKit
set_option maxRecDepth 100000
set_option linter.unusedSimpArgs false
set_option linter.unusedVariables false
abbrev lv130FlAE : List (Nat × List Nat) := [(0, [1, 2, 3, 6]), (1, [1, 2, 3, 6, 8]), (2, [1, 2, 3, 6, 8, 16]), (3, [6, 7]), (4, [1, 2, 3, 6, 21]), (5, [6, 7]), (6, [1, 2, 3, 6, 30]), (7, [6, 7]), (8, [1, 2, 3, 6, 35]), (9, [6, 7]), (10, [1, 2, 3, 6, 9]), (11, [1, 2, 3, 6, 9]), (12, [1, 2, 3, 6, 9]), (13, [1, 2, 3, 6, 9, 10]), (14, [1, 2, 3, 6, 9, 10, 65]), (15, [1, 2, 3, 6, 9, 10]), (16, [1, 2, 3, 6, 9, 10, 11]), (17, [1, 2, 3, 6, 9, 10, 11, 77]), (18, [1, 2, 3, 6, 9, 10, 11]), (19, [1, 2, 3, 6, 9, 10]), (20, [6, 7])]
def frkT (cs : List Cl) (p q : Int) (i : Nat) : List Cl := ((ofP (cs.take i) p).map (cpC q)).foldl putC cs
theorem frkT_zero (cs : List Cl) (p q : Int) : frkT cs p q 0 = cs := by simp [frkT, ofP]
theorem frkT_all (cs : List Cl) (p q : Int) : frkT cs p q cs.length = forkC cs p q := by simp [frkT, forkC]
theorem frkT_yes {cs : List Cl} {p q : Int} {i : Nat} (h : i < cs.length) (hp : cs[i].1 = p) : frkT cs p q (i + 1) = putC (frkT cs p q i) (cpC q cs[i]) := by
  unfold frkT ofP
  rw [take_get cs i h, List.filter_append, List.filter_cons_of_pos (by simpa using hp), List.filter_nil, List.map_append, List.foldl_append]
  rfl
theorem frkT_no {cs : List Cl} {p q : Int} {i : Nat} (h : i < cs.length) (hp : cs[i].1 ≠ p) : frkT cs p q (i + 1) = frkT cs p q i := by
  unfold frkT ofP
  rw [take_get cs i h, List.filter_append, List.filter_cons_of_neg (by simpa using hp), List.filter_nil, List.append_nil]
theorem putC_len (cs : List Cl) (c : Cl) : (putC cs c).length = cs.length + 1 := by
  have := (putC_perm cs c).length_eq
  simpa using this
theorem frkT_len (cs : List Cl) (p q : Int) (i : Nat) : (frkT cs p q i).length ≤ cs.length + i := by
  have key : ∀ (l acc : List Cl), (l.foldl putC acc).length = acc.length + l.length := by
    intro l
    induction l with
    | nil => intro acc; simp
    | cons c l ih => intro acc; rw [List.foldl_cons, ih, putC_len, List.length_cons]; omega
  unfold frkT ofP
  rw [key, List.length_map]
  have := List.length_filter_le (fun c : Cl => decide (c.1 = p)) (cs.take i)
  rw [List.length_take] at this
  omega
abbrev rFrkS : Spec := FrkS
set_option maxHeartbeats 8000000 in
theorem rFrk_ok : Ok Tryz.prog 130 rFrkS := by
  refine fn_ok rFrkS Tryz.func130 rfl rfl ?_
  rintro args ins res outs (⟨al, mp, cs, p, q, hu, la, lm, lc, he, rfl, rfl, rfl, rfl⟩ | ⟨al, mp, cs, k, j, hu, lc, h0, rfl, rfl, rfl, rfl⟩)
  all_goals refine ⟨by simp [Tryz.ntmps130], fun w0 V Bo mu0 => ?_⟩
  · have L0 := ask_at al mp cs p q hu la lm lc
    obtain ⟨R, hR⟩ : ∃ R, frkE al mp cs p q = R := ⟨_, rfl⟩
    rw [hR] at he ⊢
    have hl := @flchk_len al mp cs
    unfold frkE at hR
    unfold askE29 at L0
    generalize flchk al mp cs = E at *
    by_cases h0 : E = 0
    case neg =>
      rw [if_pos h0] at hR L0
      subst hR
      have ask_at : askS.rel [fm al mp cs, iv p, iv q] [] (iv E) [] := L0
      repeat' (first | refine sA ?_ | with_reducible refine W_tf rfl (fun h => ?_) (fun h => ?_) | ((with_reducible first | refine hK _ ?_ | refine hK _ _ ?_); clear hK K) | ((first | refine sB ?_ | (with_reducible first | refine ops_cons (fun K hK => ?_) | refine opsd_cons (fun K hK => ?_) | refine W_reg lv130FlAE ?_ | refine W_drw lv130FlAE (by kernel_rfl) ?_) | ((with_reducible refine opsd_nil ?_); refine And.intro (by kernel_rfl) ?_) | with_reducible refine callV_snap ?_ | ((with_reducible refine call_go askS ask_ok ?_); refine ⟨alk, _, _, ask_at , ?_⟩) | with_reducible refine And.intro (fun h => ?_) (fun h => ?_) | with_reducible refine And.intro (by omega) ?_); (try simp only [go_sem, seval, reduceCtorEq, h0, lv130FlAE, Tryz.ntmps130, Tryz.results130, rFrkS])) | fail)
    subst h0
    rw [if_neg (by decide)] at hR L0
    obtain ⟨l1, l2⟩ := hl rfl
    by_cases hpq : Prc p ∧ Prc q
    case neg =>
      rw [if_pos hpq] at hR L0
      subst hR
      have ask_at : askS.rel [fm al mp cs, iv p, iv q] [] (iv 2) [] := L0
      repeat' (first | refine sA ?_ | with_reducible refine W_tf rfl (fun h => ?_) (fun h => ?_) | ((with_reducible first | refine hK _ ?_ | refine hK _ _ ?_); clear hK K) | ((first | refine sB ?_ | (with_reducible first | refine ops_cons (fun K hK => ?_) | refine opsd_cons (fun K hK => ?_) | refine W_reg lv130FlAE ?_ | refine W_drw lv130FlAE (by kernel_rfl) ?_) | ((with_reducible refine opsd_nil ?_); refine And.intro (by kernel_rfl) ?_) | with_reducible refine callV_snap ?_ | ((with_reducible refine call_go askS ask_ok ?_); refine ⟨alk, _, _, ask_at , ?_⟩) | with_reducible refine And.intro (fun h => ?_) (fun h => ?_) | with_reducible refine And.intro (by omega) ?_); (try simp only [go_sem, seval, reduceCtorEq, lv130FlAE, Tryz.ntmps130, Tryz.results130, rFrkS])) | fail)
    rw [if_neg (fun h => h hpq)] at hR L0
    have ask_at : askS.rel [fm al mp cs, iv p, iv q] [] (iv 0) [] := L0
    obtain ⟨⟨a1, a2⟩, ⟨b1, b2⟩⟩ := hpq
    obtain ⟨k, rfl⟩ : ∃ k : Nat, p = (k : Int) + 1 := ⟨(p - 1).toNat, by omega⟩
    obtain ⟨j, rfl⟩ : ∃ j : Nat, q = (j : Int) + 1 := ⟨(q - 1).toNat, by omega⟩
    have hka : k < al.length := by omega
    have hja : j < al.length := by omega
    have hp1 : (k : Int) + 1 - 1 = (k : Int) := by omega
    have hp2 : (j : Int) + 1 - 1 = (j : Int) := by omega
    have hv : alv al ((k : Int) + 1) = al[k] := by unfold alv; rw [hp1]; simp [hka]
    have hw : alv al ((j : Int) + 1) = al[j] := by unfold alv; rw [hp2]; simp [hja]
    rw [hv, hw] at hR
    cases hb : al[k] with
    | false =>
      have ea : encDB al[k] = [.bool false] := by rw [hb]; rfl
      rw [hb, if_pos rfl] at hR
      subst hR
      repeat' (first | refine sA ?_ | with_reducible refine W_tf rfl (fun h => ?_) (fun h => ?_) | ((with_reducible first | refine hK _ ?_ | refine hK _ _ ?_); clear hK K) | ((first | refine sB ?_ | (with_reducible first | refine ops_cons (fun K hK => ?_) | refine opsd_cons (fun K hK => ?_) | refine W_reg lv130FlAE ?_ | refine W_drw lv130FlAE (by kernel_rfl) ?_) | ((with_reducible refine opsd_nil ?_); refine And.intro (by kernel_rfl) ?_) | with_reducible refine callV_snap ?_ | ((with_reducible refine call_go askS ask_ok ?_); refine ⟨alk, _, _, ask_at , ?_⟩) | with_reducible refine And.intro (fun h => ?_) (fun h => ?_) | with_reducible refine And.intro (by omega) ?_); (try simp only [go_sem, seval, reduceCtorEq, hp1, ea, lv130FlAE, Tryz.ntmps130, Tryz.results130, rFrkS])) | fail)
    | true =>
      have ea : encDB al[k] = [.bool true] := by rw [hb]; rfl
      rw [hb, if_neg (by decide)] at hR
      by_cases hkj : (k : Int) + 1 = (j : Int) + 1
      · rw [if_pos hkj] at hR
        subst hR
        have hkj' : k = j := by omega
        subst hkj'
        repeat' (first | refine sA ?_ | with_reducible refine W_tf rfl (fun h => ?_) (fun h => ?_) | ((with_reducible first | refine hK _ ?_ | refine hK _ _ ?_); clear hK K) | ((first | refine sB ?_ | (with_reducible first | refine ops_cons (fun K hK => ?_) | refine opsd_cons (fun K hK => ?_) | refine W_reg lv130FlAE ?_ | refine W_drw lv130FlAE (by kernel_rfl) ?_) | ((with_reducible refine opsd_nil ?_); refine And.intro (by kernel_rfl) ?_) | with_reducible refine callV_snap ?_ | ((with_reducible refine call_go askS ask_ok ?_); refine ⟨alk, _, _, ask_at , ?_⟩) | with_reducible refine And.intro (fun h => ?_) (fun h => ?_) | with_reducible refine And.intro (by omega) ?_); (try simp only [go_sem, seval, reduceCtorEq, hp1, ea, lv130FlAE, Tryz.ntmps130, Tryz.results130, rFrkS])) | fail)
      · rw [if_neg hkj] at hR
        cases hc : al[j] with
        | false => rw [hc, if_neg (by decide)] at hR; exact absurd hR.symm he
        | true =>
          have eb : encDB al[j] = [.bool true] := by rw [hc]; rfl
          rw [hc, if_pos rfl] at hR
          subst hR
          repeat' (first | refine sA ?_ | with_reducible refine W_tf rfl (fun h => ?_) (fun h => ?_) | ((with_reducible first | refine hK _ ?_ | refine hK _ _ ?_); clear hK K) | ((first | refine sB ?_ | (with_reducible first | refine ops_cons (fun K hK => ?_) | refine opsd_cons (fun K hK => ?_) | refine W_reg lv130FlAE ?_ | refine W_drw lv130FlAE (by kernel_rfl) ?_) | ((with_reducible refine opsd_nil ?_); refine And.intro (by kernel_rfl) ?_) | with_reducible refine callV_snap ?_ | ((with_reducible refine call_go askS ask_ok ?_); refine ⟨alk, _, _, ask_at , ?_⟩) | with_reducible refine And.intro (fun h => ?_) (fun h => ?_) | with_reducible refine And.intro (by omega) ?_); (try simp only [go_sem, seval, reduceCtorEq, hp1, hp2, ea, eb, hkj, lv130FlAE, Tryz.ntmps130, Tryz.results130, rFrkS])) | fail)
  · obtain ⟨g0, hp, hq, hap, hne, haq⟩ := frk_zero h0
    obtain ⟨l1, l2⟩ := flchk_len g0
    have L0 := ask_at al mp cs ((k : Int) + 1) ((j : Int) + 1) hu (by omega) (by omega) (by omega)
    have ask_at : askS.rel [fm al mp cs, iv ((k : Int) + 1), iv ((j : Int) + 1)] [] (iv 0) [] := by
      unfold askE29 at L0
      rw [g0, if_neg (by decide), if_neg (fun h => h ⟨hp, hq⟩)] at L0
      exact L0
    obtain ⟨a1, a2⟩ := hp
    obtain ⟨b1, b2⟩ := hq
    have hka : k < al.length := by omega
    have hja : j < al.length := by omega
    have hkm : k < mp.length := by omega
    have hjm : j < mp.length := by omega
    have hp1 : (k : Int) + 1 - 1 = (k : Int) := by omega
    have hp2 : (j : Int) + 1 - 1 = (j : Int) := by omega
    have hv : alv al ((k : Int) + 1) = al[k] := by unfold alv; rw [hp1]; simp [hka]
    have hw : alv al ((j : Int) + 1) = al[j] := by unfold alv; rw [hp2]; simp [hja]
    have ea : encDB al[k] = [.bool true] := by rw [← hv, hap]; rfl
    have eb : encDB al[j] = [.bool false] := by rw [← hw, haq]; rfl
    have eu : encU mp[k] = [.int .u64 (mp[k] : Int)] := rfl
    have eu2 : encU mp[j] = [.int .u64 (mp[j] : Int)] := rfl
    have hmk : mp[k]?.getD 0 = mp[k] := by simp [hkm]
    rw [hmk]
    have hset : ((al.map encDB).set j [.bool true]) = (al.set j true).map encDB := by rw [List.map_set]; rfl
    have hset2 : ((mp.map encU).set j [.int .u64 (mp[k] : Int)]) = (mp.set j mp[k]).map encU := by rw [List.map_set]; rfl
    have hjk : ¬ (k : Int) = (j : Int) := by omega
    repeat' (first | refine sA ?_ | with_reducible refine W_tf rfl (fun h => ?_) (fun h => ?_) | ((with_reducible first | refine hK _ ?_ | refine hK _ _ ?_); clear hK K) | ((with_reducible refine idx_map2 hja ?_); simp only [go_sem, seval, reduceCtorEq, encDB_len, eb, hset]) | ((with_reducible refine idx_map2 hjm ?_); simp only [go_sem, seval, reduceCtorEq, encU_len, hset2]) | ((first | refine sB ?_ | (with_reducible first | refine ops_cons (fun K hK => ?_) | refine opsd_cons (fun K hK => ?_) | refine W_reg lv130FlAE ?_ | refine W_drw lv130FlAE (by kernel_rfl) ?_) | ((with_reducible refine opsd_nil ?_); refine And.intro (by kernel_rfl) ?_) | with_reducible refine callV_snap ?_ | ((with_reducible refine call_go askS ask_ok ?_); refine ⟨alk, _, _, ask_at , ?_⟩) | ((with_reducible refine call_go ownS own_ok ?_); refine ⟨alk, _, _, own_at al mp cs (by omega) (by omega) (by omega), ?_⟩) | with_reducible refine And.intro (fun h => ?_) (fun h => ?_) | with_reducible refine And.intro (by omega) ?_); (try simp only [go_sem, seval, reduceCtorEq, hp1, hp2, ea, eb, eu, eu2, List.drop_succ_cons, List.drop_zero, hne, hset, hset2, hjk, lv130FlAE, Tryz.ntmps130, Tryz.results130, rFrkS])) | fail)
    have hal : (al.set j true).length = al.length := by simp
    have hml : (mp.set j mp[k]).length = mp.length := by simp
    generalize al.set j true = al' at *
    generalize mp.set j mp[k] = mp' at *
    have hat : (al'.map encDB).take al.length = al'.map encDB := List.take_of_length_le (by simp [hal])
    have hmt : (mp'.map encU).take mp.length = mp'.map encU := List.take_of_length_le (by simp [hml])
    refine W_loop (fun i : Nat => ⟨[(1, iv ((k : Int) + 1)), (2, iv ((j : Int) + 1)), (3, .ptr 0 0), (6, .ptr 1 0), (9, .ptr 5 0), (10, iv (i : Int))], [some (.box 38 [.d (.sl (al.map encDB)), .d (.sl (mp.map encU)), .d (.sl (cs.map encCl))]), some (.box 38 [.nil, .nil, .nil]), some (.rows 4 1 (al'.map encDB)), some (.rows 24 1 (mp'.map encU)), some (.rows 90 4 ((frkT cs ((k : Int) + 1) ((j : Int) + 1) i).map encCl)), some (.box 38 [.row 2 1 0 al.length, .row 3 1 0 mp.length, .row 4 4 0 (frkT cs ((k : Int) + 1) ((j : Int) + 1) i).length])]⟩) (fun i => i ≤ cs.length) (fun i => cs.length - i) 0 (Nat.zero_le _) [0, 1, 2, 3, 4, 5] ?_ ?_
    · simp [go_sem, frkT_zero]
    intro i hi
    have hln := frkT_len cs ((k : Int) + 1) ((j : Int) + 1) i
    by_cases hlt : i < cs.length
    · have hki : (i : Int) < cs.length := by omega
      have hyes := frkT_yes (p := (k : Int) + 1) (q := (j : Int) + 1) hlt
      have hno := frkT_no (p := (k : Int) + 1) (q := (j : Int) + 1) hlt
      obtain ⟨⟨cp, cg, cw, cv⟩, hc⟩ : ∃ c, cs[i] = c := ⟨_, rfl⟩
      rw [hc] at hyes hno
      dsimp only at hyes hno
      have e0 : encCl cs[i] = [.int .i64 cp, .int .i64 cg, .int .i64 cw, .int .u64 (cv : Int)] := by rw [hc]; rfl
      by_cases hb : cp = (k : Int) + 1
      · have hy : frkT cs ((k : Int) + 1) ((j : Int) + 1) (i + 1) = putC (frkT cs ((k : Int) + 1) ((j : Int) + 1) i) ((j : Int) + 1, cg, cw, cv) := hyes hb
        generalize frkT cs ((k : Int) + 1) ((j : Int) + 1) i = T at *
        have htt : (T.map encCl).take T.length = T.map encCl := List.take_of_length_le (by simp)
        repeat' (first | refine sA ?_ | with_reducible refine W_tf rfl (fun h => ?_) (fun h => ?_) | ((with_reducible first | refine hK _ ?_ | refine hK _ _ ?_); clear hK K) | ((first | refine sB ?_ | (with_reducible first | refine ops_cons (fun K hK => ?_) | refine opsd_cons (fun K hK => ?_) | refine W_reg lv130FlAE ?_ | refine W_drw lv130FlAE (by kernel_rfl) ?_) | ((with_reducible refine opsd_nil ?_); refine And.intro (by kernel_rfl) ?_) | with_reducible refine callV_snap ?_ | ((with_reducible refine call_go putS put_ok ?_); refine ⟨alk, _, _, put_at al' mp' T ((j : Int) + 1, cg, cw, cv) (by omega) (by omega) (by omega), ?_⟩) | with_reducible refine And.intro (fun h => ?_) (fun h => ?_) | with_reducible refine And.intro (by omega) ?_); (try simp only [go_sem, seval, reduceCtorEq, hki, e0, hb, List.drop_succ_cons, List.drop_zero, hat, hmt, htt, hal, hml, lv130FlAE, Tryz.ntmps130, Tryz.results130, rFrkS])) | fail)
        refine ⟨i + 1, [0, 1, 7, 8, 9, 5], by omega, by omega, ?_⟩
        simp [go_sem, hy]
      · have hn := hno hb
        repeat' (first | refine sA ?_ | with_reducible refine W_tf rfl (fun h => ?_) (fun h => ?_) | ((with_reducible first | refine hK _ ?_ | refine hK _ _ ?_); clear hK K) | ((first | refine sB ?_ | (with_reducible first | refine ops_cons (fun K hK => ?_) | refine opsd_cons (fun K hK => ?_) | refine W_reg lv130FlAE ?_ | refine W_drw lv130FlAE (by kernel_rfl) ?_) | ((with_reducible refine opsd_nil ?_); refine And.intro (by kernel_rfl) ?_) | with_reducible refine callV_snap ?_ | with_reducible refine And.intro (fun h => ?_) (fun h => ?_) | with_reducible refine And.intro (by omega) ?_); (try simp only [go_sem, seval, reduceCtorEq, hki, e0, hb, lv130FlAE, Tryz.ntmps130, Tryz.results130, rFrkS])) | fail)
        refine ⟨i + 1, [0, 1, 2, 3, 4, 5], by omega, by omega, ?_⟩
        simp [go_sem, hn]
    · have hki : ¬ (i : Int) < cs.length := by omega
      obtain rfl : i = cs.length := by omega
      rw [frkT_all]
      repeat' (first | refine sA ?_ | with_reducible refine W_tf rfl (fun h => ?_) (fun h => ?_) | ((with_reducible first | refine hK _ ?_ | refine hK _ _ ?_); clear hK K) | ((first | refine sC ?_ | (with_reducible first | refine ops_cons (fun K hK => ?_) | refine opsd_cons (fun K hK => ?_) | refine W_reg lv130FlAE ?_ | refine W_drw lv130FlAE (by kernel_rfl) ?_) | ((with_reducible refine opsd_nil ?_); refine And.intro (by kernel_rfl) ?_) | with_reducible refine callV_snap ?_ | with_reducible refine And.intro (fun h => ?_) (fun h => ?_) | with_reducible refine And.intro (by omega) ?_); (try simp only [go_sem, seval, reduceCtorEq, hki, lv130FlAE, Tryz.ntmps130, Tryz.results130, rFrkS])) | fail)
      refine W_ret (endQ_ret (end_at [2, 3, 4] ?_))
      simp [go_sem, Tryz.results130, FrkS, hal, hml]
end Go.Proofs.YtpocnjliigjidaaGreat
