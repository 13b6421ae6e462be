import Derived.Test.YtpocnjliigjidaaGreatPopc
/- A flat memory: Map, Unmap, by the engine. -/
namespace Go.Proofs.YtpocnjliigjidaaGreat
open Go.RowKit
set_option maxRecDepth 100000
set_option linter.unusedSimpArgs false
set_option linter.unusedVariables false
abbrev lv114FlZ : List (Nat × List Nat) := [(0, [1, 2, 3, 4, 8]), (1, [1, 4, 8, 10, 11, 12]), (2, [1, 4, 8, 10, 11, 12, 24]), (3, [8, 9]), (4, [1, 4, 8, 10, 28]), (5, [8, 9]), (6, [1, 8, 10, 13]), (7, [8, 13]), (8, [8, 9])]
abbrev lv115FlZ : List (Nat × List Nat) := [(0, [1, 2, 3, 4, 8]), (1, [1, 4, 8, 10, 11, 12]), (2, [1, 4, 8, 10, 11, 12, 24]), (3, [8, 9]), (4, [1, 4, 8, 10, 30]), (5, [8, 9]), (6, [1, 8, 10, 13]), (7, [8, 13]), (8, [8, 9])]
abbrev lv142FlZ : List (Nat × List Nat) := [(0, [1, 2, 3, 4]), (1, [1, 2, 3, 4, 11]), (2, [1, 2, 3, 4, 11, 18]), (3, [8, 9, 10]), (4, [1, 2, 3, 4, 30]), (5, [8, 9, 10]), (6, [1, 4, 12]), (7, [8, 9, 10])]
def hasM (x f t : Nat) : Prop := ∃ g, f ≤ g ∧ g ≤ t ∧ x.testBit g = true
def allM (x f t : Nat) : Prop := ∀ g, f ≤ g → g ≤ t → x.testBit g = true
theorem pc_pos {x f t : Nat} (h : f ≤ t) (ht : t < 64) : 0 < pc (x &&& pgM f t) ↔ hasM x f t := by
  unfold pc
  rw [List.countP_pos_iff]
  constructor
  · rintro ⟨g, _, hg⟩
    rw [Nat.testBit_and, pgM_bit h] at hg
    simp only [Bool.and_eq_true, decide_eq_true_eq] at hg
    exact ⟨g, hg.2.1, hg.2.2, hg.1⟩
  · rintro ⟨g, h1, h2, h3⟩
    refine ⟨g, by simp; omega, ?_⟩
    rw [Nat.testBit_and, pgM_bit h]
    simp [h1, h2, h3]
theorem pc_less {x f t : Nat} (h : f ≤ t) (ht : t < 64) : pc (x &&& pgM f t) < pc (pgM f t) ↔ ¬ allM x f t := by
  constructor
  · intro hlt ha
    have : pc (x &&& pgM f t) = pc (pgM f t) := by
      unfold pc
      refine List.countP_congr fun g _ => ?_
      rw [Nat.testBit_and, pgM_bit h]
      simp only [Bool.and_eq_true, decide_eq_true_eq]
      exact ⟨fun hh => hh.2, fun hh => ⟨ha g hh.1 hh.2, hh⟩⟩
    omega
  · intro hn
    obtain ⟨g, hg⟩ := Classical.not_forall.1 hn
    obtain ⟨h1, hg⟩ := Classical.not_forall.1 hg
    obtain ⟨h2, h3⟩ := Classical.not_forall.1 hg
    unfold pc
    rw [List.countP_eq_length_filter, List.countP_eq_length_filter]
    refine flt_lt (x := g) (fun y _ hy => ?_) (by simp; omega) ?_ ?_
    · rw [Nat.testBit_and, Bool.and_eq_true] at hy; exact hy.2
    · rw [pgM_bit h]; simp [h1, h2]
    · rw [Nat.testBit_and]
      cases hb : x.testBit g with
      | true => exact absurd hb h3
      | false => rfl
def rngE (al : List Bool) (mp : List Nat) (cs : List Cl) (p f t : Int) : Int := if lvsE al mp cs [p] ≠ 0 then lvsE al mp cs [p] else if f < 0 ∨ t < f ∨ 64 ≤ t then 2 else 0
theorem rng_zero {al : List Bool} {mp : List Nat} {cs : List Cl} {p f t : Int} (h : rngE al mp cs p f t = 0) : lvsE al mp cs [p] = 0 ∧ 0 ≤ f ∧ f ≤ t ∧ t < 64 := by
  unfold rngE at h
  by_cases h0 : lvsE al mp cs [p] = 0
  · rw [if_neg (by simpa using h0)] at h
    by_cases h1 : f < 0 ∨ t < f ∨ 64 ≤ t
    · rw [if_pos h1] at h; cases h
    · exact ⟨h0, by omega, by omega, by omega⟩
  · rw [if_pos h0] at h; exact absurd h h0
def spanS : Spec := { rel := fun args ins res outs => (∃ (al : List Bool) (mp : List Nat) (cs : List Cl) (p f t : Int), U64 mp ∧ al.length ≤ 1000000 ∧ mp.length ≤ 1000000 ∧ cs.length ≤ 1000000 ∧ rngE al mp cs p f t ≠ 0 ∧ args = [fm al mp cs, iv p, iv f, iv t] ∧ ins = [] ∧ res = .tup [wv 0, iv 0, iv (rngE al mp cs p f t)] ∧ outs = []) ∨
  (∃ (al : List Bool) (mp : List Nat) (cs : List Cl) (k f t : Nat), U64 mp ∧ cs.length ≤ 1000000 ∧ lvsE al mp cs [(k : Int) + 1] = 0 ∧ f ≤ t ∧ t < 64 ∧ args = [fm al mp cs, iv ((k : Int) + 1), iv (f : Int), iv (t : Int)] ∧ ins = [] ∧ res = .tup [wv (pgM f t : Int), iv (pc (mp[k]?.getD 0 &&& pgM f t) : Int), iv 0] ∧ outs = []) }
set_option maxHeartbeats 4000000 in
theorem span_ok : Ok Tryz.prog 142 spanS := by
  refine fn_ok spanS Tryz.func142 rfl rfl ?_
  rintro args ins res outs (⟨al, mp, cs, p, f, t, hu, la, lm, lc, he, rfl, rfl, rfl, rfl⟩ | ⟨al, mp, cs, k, f, t, hu, lc, h0, hft, ht, rfl, rfl, rfl, rfl⟩)
  all_goals refine ⟨by simp [Tryz.ntmps142], fun w0 V Bo mu0 => ?_⟩
  · have L0 := lives_at al mp cs [p] hu la lm lc (by simp)
    obtain ⟨R, hR⟩ : ∃ R, rngE al mp cs p f t = R := ⟨_, rfl⟩
    rw [hR] at he ⊢
    unfold rngE at hR
    generalize lvsE al mp cs [p] = E at *
    have lives_at : livesS.rel [fm al mp cs, .d (.sl [[.int .i64 p]])] [] (iv E) [] := L0
    by_cases h0 : E = 0
    case neg =>
      rw [if_pos h0] at hR
      subst hR
      repeat' (first | refine sA ?_ | with_reducible refine W_tf rfl (fun h => ?_) (fun h => ?_) | ((with_reducible first | refine hK _ ?_ | refine hK _ _ ?_); clear hK K) | ((first | refine sB ?_ | (with_reducible first | refine ops_cons (fun K hK => ?_) | refine W_reg lv142FlZ ?_) | with_reducible refine callV_snap ?_ | ((with_reducible refine call_go livesS lives_ok ?_); refine ⟨alk, _, _, lives_at , ?_⟩) | with_reducible refine And.intro (fun h => ?_) (fun h => ?_) | with_reducible refine And.intro (by omega) ?_); (try simp only [go_sem, seval, reduceCtorEq, h0, lv142FlZ, Tryz.ntmps142, Tryz.results142, spanS])) | fail)
    subst h0
    rw [if_neg (by decide)] at hR
    by_cases hr : f < 0 ∨ t < f ∨ 64 ≤ t
    case neg => rw [if_neg hr] at hR; exact absurd hR.symm he
    rw [if_pos hr] at hR
    subst hR
    by_cases h1 : f < 0
    · skip
      repeat' (first | refine sA ?_ | with_reducible refine W_tf rfl (fun h => ?_) (fun h => ?_) | ((with_reducible first | refine hK _ ?_ | refine hK _ _ ?_); clear hK K) | ((first | refine sB ?_ | (with_reducible first | refine ops_cons (fun K hK => ?_) | refine W_reg lv142FlZ ?_) | with_reducible refine callV_snap ?_ | ((with_reducible refine call_go livesS lives_ok ?_); refine ⟨alk, _, _, lives_at , ?_⟩) | with_reducible refine And.intro (fun h => ?_) (fun h => ?_) | with_reducible refine And.intro (by omega) ?_); (try simp only [go_sem, seval, reduceCtorEq, h1, lv142FlZ, Tryz.ntmps142, Tryz.results142, spanS])) | fail)
    · by_cases h2 : t < f
      · skip
        repeat' (first | refine sA ?_ | with_reducible refine W_tf rfl (fun h => ?_) (fun h => ?_) | ((with_reducible first | refine hK _ ?_ | refine hK _ _ ?_); clear hK K) | ((first | refine sB ?_ | (with_reducible first | refine ops_cons (fun K hK => ?_) | refine W_reg lv142FlZ ?_) | with_reducible refine callV_snap ?_ | ((with_reducible refine call_go livesS lives_ok ?_); refine ⟨alk, _, _, lives_at , ?_⟩) | with_reducible refine And.intro (fun h => ?_) (fun h => ?_) | with_reducible refine And.intro (by omega) ?_); (try simp only [go_sem, seval, reduceCtorEq, h1, h2, lv142FlZ, Tryz.ntmps142, Tryz.results142, spanS])) | fail)
      · have h3 : 64 ≤ t := by omega
        repeat' (first | refine sA ?_ | with_reducible refine W_tf rfl (fun h => ?_) (fun h => ?_) | ((with_reducible first | refine hK _ ?_ | refine hK _ _ ?_); clear hK K) | ((first | refine sB ?_ | (with_reducible first | refine ops_cons (fun K hK => ?_) | refine W_reg lv142FlZ ?_) | with_reducible refine callV_snap ?_ | ((with_reducible refine call_go livesS lives_ok ?_); refine ⟨alk, _, _, lives_at , ?_⟩) | with_reducible refine And.intro (fun h => ?_) (fun h => ?_) | with_reducible refine And.intro (by omega) ?_); (try simp only [go_sem, seval, reduceCtorEq, h1, h2, h3, lv142FlZ, Tryz.ntmps142, Tryz.results142, spanS])) | fail)
  · obtain ⟨g0, ⟨g1, g2⟩, g3⟩ := lvs_zero h0
    obtain ⟨l1, l2⟩ := flchk_len g0
    have L0 := lives_at al mp cs [(k : Int) + 1] hu (by omega) (by omega) lc (by simp)
    rw [h0] at L0
    have lives_at : livesS.rel [fm al mp cs, .d (.sl [[.int .i64 ((k : Int) + 1)]])] [] (iv 0) [] := L0
    have hkm : k < mp.length := by omega
    have hp1 : (k : Int) + 1 - 1 = (k : Int) := by omega
    have f1 : ¬ (f : Int) < 0 := by omega
    have f2 : ¬ (t : Int) < (f : Int) := by omega
    have f3 : ¬ (64 : Int) ≤ (t : Int) := by omega
    have hmk : mp[k]?.getD 0 = mp[k] := by simp [hkm]
    rw [hmk]
    have hx := hu _ (List.getElem_mem hkm)
    have eu : encU mp[k] = [.int .u64 (mp[k] : Int)] := rfl
    have ea := u64_and_nat mp[k] (pgM f t) hx (pgM_lt hft ht)
    have hlt : mp[k] &&& pgM f t < 18446744073709551616 := Nat.lt_of_le_of_lt Nat.and_le_left hx
    repeat' (first | refine sA ?_ | with_reducible refine W_tf rfl (fun h => ?_) (fun h => ?_) | ((with_reducible first | refine hK _ ?_ | refine hK _ _ ?_); clear hK K) | ((first | refine sB ?_ | (with_reducible first | refine ops_cons (fun K hK => ?_) | refine W_reg lv142FlZ ?_) | with_reducible refine callV_snap ?_ | ((with_reducible refine call_go livesS lives_ok ?_); refine ⟨alk, _, _, lives_at , ?_⟩) | ((with_reducible refine call_go pagesS pages_ok ?_); refine ⟨alk, _, _, pages_at f t hft ht, ?_⟩) | ((with_reducible refine call_go ocS oc_ok ?_); refine ⟨alk, _, _, oc_at _ hlt, ?_⟩) | with_reducible refine And.intro (fun h => ?_) (fun h => ?_) | with_reducible refine And.intro (by omega) ?_); (try simp only [go_sem, seval, reduceCtorEq, f1, f2, f3, hp1, eu, ea, lv142FlZ, Tryz.ntmps142, Tryz.results142, spanS])) | fail)
abbrev erM : AV := .agg [.nil, .nil, .nil]
def MapS : Spec := { al := true, rel := fun args ins res outs => (∃ (al : List Bool) (mp : List Nat) (cs : List Cl) (p f t : Int), U64 mp ∧ al.length ≤ 1000000 ∧ mp.length ≤ 1000000 ∧ cs.length ≤ 1000000 ∧ rngE al mp cs p f t ≠ 0 ∧ args = [fm al mp cs, iv p, iv f, iv t] ∧ ins = [] ∧ res = .tup [erM, iv (rngE al mp cs p f t)] ∧ outs = []) ∨
  (∃ (al : List Bool) (mp : List Nat) (cs : List Cl) (k f t : Nat), U64 mp ∧ cs.length ≤ 1000000 ∧ lvsE al mp cs [(k : Int) + 1] = 0 ∧ f ≤ t ∧ t < 64 ∧ hasM (mp[k]?.getD 0) f t ∧ args = [fm al mp cs, iv ((k : Int) + 1), iv (f : Int), iv (t : Int)] ∧ ins = [] ∧ res = .tup [erM, iv 7] ∧ outs = []) ∨
  (∃ (al : List Bool) (mp : List Nat) (cs : List Cl) (k f t : Nat), U64 mp ∧ cs.length ≤ 1000000 ∧ lvsE al mp cs [(k : Int) + 1] = 0 ∧ f ≤ t ∧ t < 64 ∧ ¬ hasM (mp[k]?.getD 0) f t ∧ args = [fm al mp cs, iv ((k : Int) + 1), iv (f : Int), iv (t : Int)] ∧ ins = [] ∧
    res = .tup [fmR 0 1 2 al (mp.set k (mp[k]?.getD 0 ||| pgM f t)) cs, iv 0] ∧ outs = fmO al (mp.set k (mp[k]?.getD 0 ||| pgM f t)) cs) }
def UnmS : Spec := { al := true, rel := fun args ins res outs => (∃ (al : List Bool) (mp : List Nat) (cs : List Cl) (p f t : Int), U64 mp ∧ al.length ≤ 1000000 ∧ mp.length ≤ 1000000 ∧ cs.length ≤ 1000000 ∧ rngE al mp cs p f t ≠ 0 ∧ args = [fm al mp cs, iv p, iv f, iv t] ∧ ins = [] ∧ res = .tup [erM, iv (rngE al mp cs p f t)] ∧ outs = []) ∨
  (∃ (al : List Bool) (mp : List Nat) (cs : List Cl) (k f t : Nat), U64 mp ∧ cs.length ≤ 1000000 ∧ lvsE al mp cs [(k : Int) + 1] = 0 ∧ f ≤ t ∧ t < 64 ∧ ¬ allM (mp[k]?.getD 0) f t ∧ args = [fm al mp cs, iv ((k : Int) + 1), iv (f : Int), iv (t : Int)] ∧ ins = [] ∧ res = .tup [erM, iv 6] ∧ outs = []) ∨
  (∃ (al : List Bool) (mp : List Nat) (cs : List Cl) (k f t : Nat), U64 mp ∧ cs.length ≤ 1000000 ∧ lvsE al mp cs [(k : Int) + 1] = 0 ∧ f ≤ t ∧ t < 64 ∧ allM (mp[k]?.getD 0) f t ∧ args = [fm al mp cs, iv ((k : Int) + 1), iv (f : Int), iv (t : Int)] ∧ ins = [] ∧
    res = .tup [fmR 0 1 2 al (mp.set k (clr (mp[k]?.getD 0) (pgM f t))) (woC cs ((k : Int) + 1) f t), iv 0] ∧ outs = fmO al (mp.set k (clr (mp[k]?.getD 0) (pgM f t))) (woC cs ((k : Int) + 1) f t)) }
theorem span_e (al : List Bool) (mp : List Nat) (cs : List Cl) (p f t : Int) (hu : U64 mp) (la : al.length ≤ 1000000) (lm : mp.length ≤ 1000000) (lc : cs.length ≤ 1000000) (he : rngE al mp cs p f t ≠ 0) : spanS.rel [fm al mp cs, iv p, iv f, iv t] [] (.tup [wv 0, iv 0, iv (rngE al mp cs p f t)]) [] := .inl ⟨al, mp, cs, p, f, t, hu, la, lm, lc, he, rfl, rfl, rfl, rfl⟩
theorem span_k (al : List Bool) (mp : List Nat) (cs : List Cl) (k f t : Nat) (hu : U64 mp) (lc : cs.length ≤ 1000000) (h0 : lvsE al mp cs [(k : Int) + 1] = 0) (h : f ≤ t) (ht : t < 64) : spanS.rel [fm al mp cs, iv ((k : Int) + 1), iv (f : Int), iv (t : Int)] [] (.tup [wv (pgM f t : Int), iv (pc (mp[k]?.getD 0 &&& pgM f t) : Int), iv 0]) [] := .inr ⟨al, mp, cs, k, f, t, hu, lc, h0, h, ht, rfl, rfl, rfl, rfl⟩
set_option maxHeartbeats 4000000 in
theorem Map_ok : Ok Tryz.prog 114 MapS := by
  refine fn_ok MapS Tryz.func114 rfl rfl ?_
  rintro args ins res outs (⟨al, mp, cs, p, f, t, hu, la, lm, lc, he, rfl, rfl, rfl, rfl⟩ | ⟨al, mp, cs, k, f, t, hu, lc, h0, hft, ht, hm, rfl, rfl, rfl, rfl⟩ | ⟨al, mp, cs, k, f, t, hu, lc, h0, hft, ht, hm, rfl, rfl, rfl, rfl⟩)
  all_goals refine ⟨by simp [Tryz.ntmps114], fun w0 V Bo mu0 => ?_⟩
  · have span_at := span_e al mp cs p f t hu la lm lc he
    generalize rngE al mp cs p f t = E at *
    repeat' (first | refine sA ?_ | with_reducible refine W_tf rfl (fun h => ?_) (fun h => ?_) | ((with_reducible first | refine hK _ ?_ | refine hK _ _ ?_); clear hK K) | ((first | refine sB ?_ | (with_reducible first | refine ops_cons (fun K hK => ?_) | refine W_reg lv114FlZ ?_) | with_reducible refine callV_snap ?_ | ((with_reducible refine call_go spanS span_ok ?_); refine ⟨alk, _, _, span_at , ?_⟩) | with_reducible refine And.intro (fun h => ?_) (fun h => ?_) | with_reducible refine And.intro (by omega) ?_); (try simp only [go_sem, seval, reduceCtorEq, he, lv114FlZ, Tryz.ntmps114, Tryz.results114, MapS])) | fail)
  · have span_at := span_k al mp cs k f t hu lc h0 hft ht
    have hn := (pc_pos (x := mp[k]?.getD 0) hft ht).2 hm
    generalize pc (mp[k]?.getD 0 &&& pgM f t) = N at *
    have hn' : (0 : Int) < (N : Int) := by omega
    repeat' (first | refine sA ?_ | with_reducible refine W_tf rfl (fun h => ?_) (fun h => ?_) | ((with_reducible first | refine hK _ ?_ | refine hK _ _ ?_); clear hK K) | ((first | refine sB ?_ | (with_reducible first | refine ops_cons (fun K hK => ?_) | refine W_reg lv114FlZ ?_) | with_reducible refine callV_snap ?_ | ((with_reducible refine call_go spanS span_ok ?_); refine ⟨alk, _, _, span_at , ?_⟩) | with_reducible refine And.intro (fun h => ?_) (fun h => ?_) | with_reducible refine And.intro (by omega) ?_); (try simp only [go_sem, seval, reduceCtorEq, hn', lv114FlZ, Tryz.ntmps114, Tryz.results114, MapS])) | fail)
  · have span_at := span_k al mp cs k f t hu lc h0 hft ht
    have hn : pc (mp[k]?.getD 0 &&& pgM f t) = 0 := Nat.eq_zero_of_not_pos fun h => hm ((pc_pos hft ht).1 h)
    rw [hn] at span_at
    obtain ⟨g0, ⟨g1, g2⟩, g3⟩ := lvs_zero h0
    obtain ⟨l1, l2⟩ := flchk_len g0
    have hkm : k < mp.length := by omega
    have hki : (k : Int) < mp.length := by omega
    have hp1 : (k : Int) + 1 - 1 = (k : Int) := by omega
    have hsr := flchk_srt g0
    have hmk : mp[k]?.getD 0 = mp[k] := by simp [hkm]
    rw [hmk]
    have hx := hu _ (List.getElem_mem hkm)
    have eu : encU mp[k] = [.int .u64 (mp[k] : Int)] := rfl
    have ea := u64_or_nat mp[k] (pgM f t) hx (pgM_lt hft ht)
    have hset : ((mp.map encU).set k [.int .u64 ((mp[k] ||| pgM f t : Nat) : Int)]) = (mp.set k (mp[k] ||| pgM f t)).map encU := by rw [List.map_set]; rfl
    have shut_at := shut_at2 al (mp.set k (mp[k] ||| pgM f t)) cs.zipIdx cs.length cs al.length mp.length rfl (by simp) (by simpa using lc) (mok_zip hsr) (by rw [zip_fst]) hsr
    repeat' (first | refine sA ?_ | with_reducible refine W_tf rfl (fun h => ?_) (fun h => ?_) | ((with_reducible first | refine hK _ ?_ | refine hK _ _ ?_); clear hK K) | ((with_reducible refine idx_map2 hkm ?_); simp only [go_sem, seval, reduceCtorEq, encU_len, eu, hset]) | ((first | refine sC ?_ | (with_reducible first | refine ops_cons (fun K hK => ?_) | refine W_reg lv114FlZ ?_) | ((with_reducible refine callV_lend shutS [2,3,4] shut_ok rfl ?_); simp only [go_sem, seval, reduceCtorEq, hp1, eu, ea, hki, hset, decide_true, Bool.and_self, lv114FlZ]; refine ⟨alk, rfl, _, _, shut_at , ?_⟩) | with_reducible refine callV_snap ?_ | ((with_reducible refine call_go spanS span_ok ?_); refine ⟨alk, _, _, span_at , ?_⟩) | ((with_reducible refine call_go openS open_ok ?_); refine ⟨alk, _, _, open_at al mp cs (by omega) (by omega) lc hsr, ?_⟩) | with_reducible refine And.intro (fun h => ?_) (fun h => ?_) | with_reducible refine And.intro (by omega) ?_); (try simp only [go_sem, seval, reduceCtorEq, hp1, eu, ea, hki, hset, decide_true, Bool.and_self, lv114FlZ, shutS, Tryz.ntmps114, Tryz.results114, MapS])) | fail)
    refine W_ret (endQ_ret (end_at [2, 3, 6] ?_))
    simp [go_sem, Tryz.results114, MapS]
set_option maxHeartbeats 4000000 in
theorem Unm_ok : Ok Tryz.prog 115 UnmS := by
  refine fn_ok UnmS Tryz.func115 rfl rfl ?_
  rintro args ins res outs (⟨al, mp, cs, p, f, t, hu, la, lm, lc, he, rfl, rfl, rfl, rfl⟩ | ⟨al, mp, cs, k, f, t, hu, lc, h0, hft, ht, hm, rfl, rfl, rfl, rfl⟩ | ⟨al, mp, cs, k, f, t, hu, lc, h0, hft, ht, hm, rfl, rfl, rfl, rfl⟩)
  all_goals refine ⟨by simp [Tryz.ntmps115], fun w0 V Bo mu0 => ?_⟩
  · have span_at := span_e al mp cs p f t hu la lm lc he
    generalize rngE al mp cs p f t = E at *
    repeat' (first | refine sA ?_ | with_reducible refine W_tf rfl (fun h => ?_) (fun h => ?_) | ((with_reducible first | refine hK _ ?_ | refine hK _ _ ?_); clear hK K) | ((first | refine sB ?_ | (with_reducible first | refine ops_cons (fun K hK => ?_) | refine W_reg lv115FlZ ?_) | with_reducible refine callV_snap ?_ | ((with_reducible refine call_go spanS span_ok ?_); refine ⟨alk, _, _, span_at , ?_⟩) | with_reducible refine And.intro (fun h => ?_) (fun h => ?_) | with_reducible refine And.intro (by omega) ?_); (try simp only [go_sem, seval, reduceCtorEq, he, lv115FlZ, Tryz.ntmps115, Tryz.results115, UnmS])) | fail)
  · have span_at := span_k al mp cs k f t hu lc h0 hft ht
    have oc_at := oc_at (pgM f t) (pgM_lt hft ht)
    have hn := (pc_less (x := mp[k]?.getD 0) hft ht).2 hm
    generalize pc (mp[k]?.getD 0 &&& pgM f t) = N at *
    generalize pc (pgM f t) = N2 at *
    have hn' : (N : Int) < (N2 : Int) := by omega
    repeat' (first | refine sA ?_ | with_reducible refine W_tf rfl (fun h => ?_) (fun h => ?_) | ((with_reducible first | refine hK _ ?_ | refine hK _ _ ?_); clear hK K) | ((first | refine sB ?_ | (with_reducible first | refine ops_cons (fun K hK => ?_) | refine W_reg lv115FlZ ?_) | with_reducible refine callV_snap ?_ | ((with_reducible refine call_go spanS span_ok ?_); refine ⟨alk, _, _, span_at , ?_⟩) | ((with_reducible refine call_go ocS oc_ok ?_); refine ⟨alk, _, _, oc_at , ?_⟩) | with_reducible refine And.intro (fun h => ?_) (fun h => ?_) | with_reducible refine And.intro (by omega) ?_); (try simp only [go_sem, seval, reduceCtorEq, hn', lv115FlZ, Tryz.ntmps115, Tryz.results115, UnmS])) | fail)
  · have span_at := span_k al mp cs k f t hu lc h0 hft ht
    have oc_at := oc_at (pgM f t) (pgM_lt hft ht)
    have hn := fun h => (pc_less (x := mp[k]?.getD 0) hft ht).1 h hm
    generalize pc (mp[k]?.getD 0 &&& pgM f t) = N at *
    generalize pc (pgM f t) = N2 at *
    have hn' : ¬ (N : Int) < (N2 : Int) := fun h => hn (by omega)
    obtain ⟨g0, ⟨g1, g2⟩, g3⟩ := lvs_zero h0
    obtain ⟨l1, l2⟩ := flchk_len g0
    have hk : k < 8 := by omega
    have hsr := flchk_srt g0
    have hpg : ∀ c ∈ cs, Pgs c.2.1 := fun c hc => (ck1_zero (flchk_pgs g0 c hc)).2.1
    have hM := mok_zip hsr
    have hfz := filter_zip (p := (k : Int) + 1) hft hpg
    generalize hL : (cs.zipIdx.filter fun x : Me => !inS ((k : Int) + 1) (pgM f t) x.1) = L at *
    have hLM : Mok L cs.length := by rw [← hL]; exact hM.sub _
    have hLl : L.length ≤ 1000000 := by rw [← hL]; exact Nat.le_trans (List.length_filter_le _ _) (by simpa using lc)
    have fgt_at := fgt_at2 al mp (mp.set k (clr (mp[k]?.getD 0) (pgM f t))) cs.zipIdx L cs.length k (pgM f t) al.length mp.length rfl rfl (by omega) l2 hu hk hM (fun x hx => hpg x.1 (by rw [← zip_fst cs 0]; exact List.mem_map_of_mem hx)) (pgM_lt hft ht) rfl hL
    have shut_at := shut_at2 al (mp.set k (clr (mp[k]?.getD 0) (pgM f t))) L cs.length (woC cs ((k : Int) + 1) f t) al.length mp.length rfl (by simp) hLl hLM (by rw [hfz]) (woC_srt hsr _ _ _)
    repeat' (first | refine sA ?_ | with_reducible refine W_tf rfl (fun h => ?_) (fun h => ?_) | ((with_reducible first | refine hK _ ?_ | refine hK _ _ ?_); clear hK K) | ((first | refine sC ?_ | (with_reducible first | refine ops_cons (fun K hK => ?_) | refine W_reg lv115FlZ ?_) | ((with_reducible refine callV_lend shutS [2,3,4] shut_ok rfl ?_); simp only [go_sem, seval, reduceCtorEq, hn', decide_true, Bool.and_self, lv115FlZ]; refine ⟨alk, rfl, _, _, shut_at , ?_⟩) | ((with_reducible refine callV_lend fgtS [2,3,4] fgt_ok rfl ?_); simp only [go_sem, seval, reduceCtorEq, hn', decide_true, Bool.and_self, lv115FlZ]; refine ⟨alk, rfl, _, _, fgt_at , ?_⟩) | with_reducible refine callV_snap ?_ | ((with_reducible refine call_go spanS span_ok ?_); refine ⟨alk, _, _, span_at , ?_⟩) | ((with_reducible refine call_go ocS oc_ok ?_); refine ⟨alk, _, _, oc_at , ?_⟩) | ((with_reducible refine call_go openS open_ok ?_); refine ⟨alk, _, _, open_at al mp cs (by omega) (by omega) lc hsr, ?_⟩) | with_reducible refine And.intro (fun h => ?_) (fun h => ?_) | with_reducible refine And.intro (by omega) ?_); (try simp only [go_sem, seval, reduceCtorEq, hn', decide_true, Bool.and_self, lv115FlZ, shutS, fgtS, Tryz.ntmps115, Tryz.results115, UnmS])) | fail)
    refine W_ret (endQ_ret (end_at [2, 3, 6] ?_))
    simp [go_sem, Tryz.results115, UnmS]
end Go.Proofs.YtpocnjliigjidaaGreat
