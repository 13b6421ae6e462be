import Derived.Test.YtpocnjliigjidaaGreatFlX
/- A flat memory: Spawn, Exit, by the engine. -/
namespace Go.Proofs.YtpocnjliigjidaaGreat
open Go.RowKit
set_option maxRecDepth 100000
set_option linter.unusedSimpArgs false
set_option linter.unusedVariables false
abbrev lv121FlY : List (Nat × List Nat) := [(0, [1, 2, 4]), (1, [1, 2, 4, 6]), (2, [1, 2, 4, 6, 12]), (3, [4, 5]), (4, [1, 2, 4, 6, 12, 15]), (5, [4, 6, 17]), (6, [4, 5]), (7, [1, 4, 7]), (8, [4, 7]), (9, [4, 5])]
abbrev lv122FlY : List (Nat × List Nat) := [(0, [1, 2, 4]), (1, [1, 2, 4, 6]), (2, [1, 2, 4, 6, 13]), (3, [4, 5]), (4, [1, 4, 7]), (5, [1, 4, 7]), (6, [4, 7]), (7, [4, 5])]
theorem shut_at2 (al : List Bool) (mp : List Nat) (l : List Me) (ck : Nat) (cs : List Cl) (n m : Nat) (hn : al.length = n) (hm : mp.length = m) (h1 : l.length ≤ 1000000) (h2 : Mok l ck) (h3 : cs.Perm (l.map (·.1))) (h4 : Srt cs) :
    shutS.rel [.agg [.row 0 1 0 n, .row 1 1 0 m, .mp 2]] [.rows 4 1 (al.map encDB), .rows 24 1 (mp.map encU), .map (l.map ent) ck] (.agg [.row 0 1 0 n, .row 1 1 0 m, .row 3 4 0 cs.length]) [.rows 4 1 (al.map encDB), .rows 24 1 (mp.map encU), .map (l.map ent) ck, .rows 90 4 (cs.map encCl)] := by
  subst hn hm
  exact shut_at al mp l ck cs h1 h2 h3 h4
theorem fgt_at2 (al : List Bool) (mp mp' : List Nat) (l l' : List Me) (ck k set n m : Nat) (hn : al.length = n) (hm : mp.length = m) (h0 : al.length ≤ 1000000) (h1 : mp.length = 8) (h2 : U64 mp) (h3 : k < 8) (h4 : Mok l ck) (h5 : ∀ x ∈ l, Pgs x.1.2.1) (h6 : set < 18446744073709551616)
    (e1 : mp.set k (clr (mp[k]?.getD 0) set) = mp') (e2 : (l.filter fun x => !inS ((k : Int) + 1) set x.1) = l') :
    fgtS.rel [.agg [.row 0 1 0 n, .row 1 1 0 m, .mp 2], iv ((k : Int) + 1), wv (set : Int)] [.rows 4 1 (al.map encDB), .rows 24 1 (mp.map encU), .map (l.map ent) ck] (.tup []) [.rows 4 1 (al.map encDB), .rows 24 1 (mp'.map encU), .map (l'.map ent) ck] := by
  subst hn hm e1 e2
  exact fgt_at al mp l ck k set h0 h1 h2 h3 h4 h5 h6
theorem flchk_srt {al : List Bool} {mp : List Nat} {cs : List Cl} (h : flchk al mp cs = 0) : Srt cs := ckGo_pw (flchk_go h)
theorem flchk_pgs {al : List Bool} {mp : List Nat} {cs : List Cl} (h : flchk al mp cs = 0) : ∀ c ∈ cs, ck1 mp c = 0 := ckGo_mem cs none (flchk_go h)
theorem zip_fst {α : Type} (l : List α) (n : Nat) : (l.zipIdx n).map (·.1) = l := by
  induction l generalizing n with
  | nil => rfl
  | cons a l ih => simp [List.zipIdx_cons, ih]
theorem mok_zip {cs : List Cl} (h : Srt cs) : Mok cs.zipIdx cs.length := by
  refine ⟨?_, ?_, fun x hx => ?_⟩
  · have : (cs.zipIdx.map fun x => ck3 x.1) = cs.map ck3 := by
      rw [show (fun x : Me => ck3 x.1) = ck3 ∘ Prod.fst from rfl, ← List.map_map]
      exact congrArg (List.map ck3) (zip_fst cs 0)
    rw [this]
    unfold List.Nodup
    rw [List.pairwise_map]
    exact List.Pairwise.imp (fun hb => bef_ne hb) h
  · rw [List.zipIdx_map_snd]
    exact List.nodup_range'
  · obtain ⟨c, i⟩ := x
    have := (List.mem_zipIdx' hx).1
    exact this
theorem flchk_ne11 {al : List Bool} {mp : List Nat} {cs : List Cl} : flchk al mp cs ≠ 11 := by
  have h1 : ∀ c : Cl, ck1 mp c ≠ 11 := by
    intro c
    unfold ck1
    split
    · decide
    · split
      · decide
      · split <;> decide
  have h2 : ∀ (cs : List Cl) (b : Option Cl), ckGo mp b cs ≠ 11 := by
    intro cs
    induction cs with
    | nil => intro b; cases b <;> (rw [ckGo]; decide)
    | cons c r ih =>
      intro b
      cases b with
      | none =>
        rw [ckGo]
        split
        · exact h1 c
        · exact ih _
      | some b =>
        rw [ckGo]
        split
        · exact h1 c
        · split
          · exact ih _
          · decide
  unfold flchk
  split
  · decide
  · split
    · decide
    · exact h2 _ _
theorem ask_lvs {al : List Bool} {mp : List Nat} {cs : List Cl} {p : Int} (h : askE29 al mp cs p p ≠ 0) : lvsE al mp cs [p] = askE29 al mp cs p p ∧ askE29 al mp cs p p ≠ 11 := by
  unfold askE29 at h ⊢
  unfold lvsE
  by_cases h0 : flchk al mp cs = 0
  · simp only [h0, ne_eq, not_true_eq_false, if_false] at h ⊢
    by_cases hP : Prc p
    · rw [if_neg (fun hh => hh ⟨hP, hP⟩)] at h
      exact absurd rfl h
    · simp [hP]
  · rw [if_pos h0, if_pos h0]
    exact ⟨rfl, flchk_ne11⟩
abbrev SpnS : Spec := rSpnS
set_option maxHeartbeats 4000000 in
theorem Spn_ok : Ok Tryz.prog 121 SpnS := by
  refine fn_ok SpnS Tryz.func121 rfl rfl ?_
  rintro args ins res outs (⟨al, mp, cs, p, hu, la, lm, lc, he, rfl, rfl, rfl, rfl⟩ | ⟨al, mp, cs, k, h0, hu, lc, hk, hb, rfl, rfl, rfl, rfl⟩ | ⟨al, mp, cs, k, h0, hu, lc, hk, hb, rfl, rfl, rfl, rfl⟩)
  all_goals refine ⟨by simp [Tryz.ntmps121], fun w0 V Bo mu0 => ?_⟩
  · have L0 := lives_at al mp cs [p] hu la lm lc (by simp)
    obtain ⟨e1, e2⟩ := ask_lvs he
    rw [e1] at L0
    generalize askE29 al mp cs p p = E at *
    have lives_at : livesS.rel [fm al mp cs, .d (.sl [[.int .i64 p]])] [] (iv E) [] := L0
    repeat' (first | refine sA ?_ | with_reducible refine W_tf rfl (fun h => ?_) (fun h => ?_) | ((with_reducible first | refine hK _ ?_ | refine hK _ _ ?_); clear hK K) | ((first | refine sB ?_ | (with_reducible first | refine ops_cons (fun K hK => ?_) | refine W_reg lv121FlY ?_) | with_reducible refine callV_snap ?_ | ((with_reducible refine call_go livesS lives_ok ?_); refine ⟨alk, _, _, lives_at , ?_⟩) | with_reducible refine And.intro (fun h => ?_) (fun h => ?_) | with_reducible refine And.intro (by omega) ?_); (try simp only [go_sem, seval, reduceCtorEq, he, e2, lv121FlY, Tryz.ntmps121, Tryz.results121, SpnS])) | fail)
  · obtain ⟨l1, l2⟩ := flchk_len h0
    have L0 := lives_at al mp cs [(k : Int) + 1] hu (by omega) (by omega) lc (by simp)
    have hP : Prc ((k : Int) + 1) := ⟨by omega, by omega⟩
    have e1 : lvsE al mp cs [(k : Int) + 1] = 0 := by unfold lvsE; simp [h0, hP, hb]
    rw [e1] at L0
    have lives_at : livesS.rel [fm al mp cs, .d (.sl [[.int .i64 ((k : Int) + 1)]])] [] (iv 0) [] := L0
    repeat' (first | refine sA ?_ | with_reducible refine W_tf rfl (fun h => ?_) (fun h => ?_) | ((with_reducible first | refine hK _ ?_ | refine hK _ _ ?_); clear hK K) | ((first | refine sB ?_ | (with_reducible first | refine ops_cons (fun K hK => ?_) | refine W_reg lv121FlY ?_) | with_reducible refine callV_snap ?_ | ((with_reducible refine call_go livesS lives_ok ?_); refine ⟨alk, _, _, lives_at , ?_⟩) | with_reducible refine And.intro (fun h => ?_) (fun h => ?_) | with_reducible refine And.intro (by omega) ?_); (try simp only [go_sem, seval, reduceCtorEq, lv121FlY, Tryz.ntmps121, Tryz.results121, SpnS])) | fail)
  · obtain ⟨l1, l2⟩ := flchk_len h0
    have L0 := lives_at al mp cs [(k : Int) + 1] hu (by omega) (by omega) lc (by simp)
    have hP : Prc ((k : Int) + 1) := ⟨by omega, by omega⟩
    have e1 : lvsE al mp cs [(k : Int) + 1] = 11 := by unfold lvsE; simp [h0, hP, hb]
    rw [e1] at L0
    have lives_at : livesS.rel [fm al mp cs, .d (.sl [[.int .i64 ((k : Int) + 1)]])] [] (iv 11) [] := L0
    have hka : k < al.length := by omega
    have hp1 : (k : Int) + 1 - 1 = (k : Int) := by omega
    have hv : alv al ((k : Int) + 1) = al[k] := by unfold alv; rw [hp1]; simp [hka]
    have ea : encDB al[k] = [.bool false] := by rw [← hv, hb]; rfl
    have hset : ((al.map encDB).set k [.bool true]) = (al.set k true).map encDB := by rw [List.map_set]; rfl
    have hsr := flchk_srt h0
    have hlen : (al.set k true).length = al.length := List.length_set
    have shut_at := shut_at2 (al.set k true) mp cs.zipIdx cs.length cs al.length mp.length hlen rfl (by simpa using lc) (mok_zip hsr) (by rw [zip_fst]) hsr
    repeat' (first | refine sA ?_ | with_reducible refine W_tf rfl (fun h => ?_) (fun h => ?_) | ((with_reducible first | refine hK _ ?_ | refine hK _ _ ?_); clear hK K) | ((with_reducible refine idx_map2 hka ?_); simp only [go_sem, seval, reduceCtorEq, encDB_len, hset]) | ((first | refine sC ?_ | (with_reducible first | refine ops_cons (fun K hK => ?_) | refine W_reg lv121FlY ?_) | ((with_reducible refine callV_lend shutS [3,4,5] shut_ok rfl ?_); simp only [go_sem, seval, reduceCtorEq, hp1, ea, hset, decide_true, Bool.and_self, lv121FlY]; refine ⟨alk, rfl, _, _, shut_at , ?_⟩) | with_reducible refine callV_snap ?_ | ((with_reducible refine call_go livesS lives_ok ?_); refine ⟨alk, _, _, lives_at , ?_⟩) | ((with_reducible refine call_go openS open_ok ?_); refine ⟨alk, _, _, open_at al mp cs (by omega) (by omega) lc hsr, ?_⟩) | with_reducible refine And.intro (fun h => ?_) (fun h => ?_) | with_reducible refine And.intro (by omega) ?_); (try simp only [go_sem, seval, reduceCtorEq, hp1, ea, hset, decide_true, Bool.and_self, lv121FlY, shutS, Tryz.ntmps121, Tryz.results121, SpnS])) | fail)
    refine W_ret (endQ_ret (end_at [3, 4, 7] ?_))
    simp [go_sem, Tryz.results121, rSpnS, hset]
theorem pgM_bit {f t : Nat} (h : f ≤ t) (g : Nat) : (pgM f t).testBit g = decide (f ≤ g ∧ g ≤ t) := by
  unfold pgM
  rw [Nat.testBit_mul_two_pow, Nat.testBit_two_pow_sub_one]
  by_cases h1 : f ≤ g
  · by_cases h2 : g ≤ t
    · simp [h1, h2]; omega
    · simp [h1, h2]; omega
  · simp [h1]
theorem inS_inR {p : Int} {f t : Nat} (h : f ≤ t) {c : Cl} (hc : Pgs c.2.1) : inS p (pgM f t) c = inR p (f : Int) (t : Int) c := by
  obtain ⟨cp, cg, cw, cv⟩ := c
  obtain ⟨h1, h2⟩ := hc
  dsimp only at h1 h2
  obtain ⟨g, rfl⟩ := Int.eq_ofNat_of_zero_le h1
  unfold inS inR
  dsimp only
  rw [Int.toNat_natCast, pgM_bit h]
  by_cases a : f ≤ g <;> by_cases b : g ≤ t <;> simp [a, b]
theorem filter_zip {cs : List Cl} {p : Int} {f t : Nat} (h : f ≤ t) (hc : ∀ c ∈ cs, Pgs c.2.1) : ((cs.zipIdx).filter fun x : Me => !inS p (pgM f t) x.1).map (·.1) = woC cs p (f : Int) (t : Int) := by
  unfold woC
  rw [show (fun x : Me => !inS p (pgM f t) x.1) = (fun c => !inS p (pgM f t) c) ∘ Prod.fst from rfl, ← List.filter_map, show List.map Prod.fst cs.zipIdx = cs from zip_fst cs 0]
  exact List.filter_congr fun c hm => by rw [inS_inR h (hc c hm)]
theorem woC_srt {cs : List Cl} (h : Srt cs) (p f t : Int) : Srt (woC cs p f t) := h.sublist List.filter_sublist
abbrev ExtS : Spec := rExtS
set_option maxHeartbeats 4000000 in
theorem Ext_ok : Ok Tryz.prog 122 ExtS := by
  refine fn_ok ExtS Tryz.func122 rfl rfl ?_
  rintro args ins res outs (⟨al, mp, cs, p, hu, la, lm, lc, he, rfl, rfl, rfl, rfl⟩ | ⟨al, mp, cs, k, h0, hu, lc, rfl, rfl, rfl, rfl⟩)
  all_goals refine ⟨by simp [Tryz.ntmps122], fun w0 V Bo mu0 => ?_⟩
  · have L0 := lives_at al mp cs [p] hu la lm lc (by simp)
    generalize lvsE al mp cs [p] = E at *
    have lives_at : livesS.rel [fm al mp cs, .d (.sl [[.int .i64 p]])] [] (iv E) [] := L0
    repeat' (first | refine sA ?_ | with_reducible refine W_tf rfl (fun h => ?_) (fun h => ?_) | ((with_reducible first | refine hK _ ?_ | refine hK _ _ ?_); clear hK K) | ((first | refine sB ?_ | (with_reducible first | refine ops_cons (fun K hK => ?_) | refine opsd_cons (fun K hK => ?_) | refine W_reg lv122FlY ?_ | refine W_drw lv122FlY (by kernel_rfl) ?_) | ((with_reducible refine opsd_nil ?_); refine And.intro (by kernel_rfl) ?_) | with_reducible refine callV_snap ?_ | ((with_reducible refine call_go livesS lives_ok ?_); refine ⟨alk, _, _, lives_at , ?_⟩) | with_reducible refine And.intro (fun h => ?_) (fun h => ?_) | with_reducible refine And.intro (by omega) ?_); (try simp only [go_sem, seval, reduceCtorEq, he, lv122FlY, Tryz.ntmps122, Tryz.results122, ExtS])) | fail)
  · obtain ⟨g0, ⟨g1, g2⟩, g3⟩ := lvs_zero h0
    obtain ⟨l1, l2⟩ := flchk_len g0
    have L0 := lives_at al mp cs [(k : Int) + 1] hu (by omega) (by omega) lc (by simp)
    rw [h0] at L0
    have lives_at : livesS.rel [fm al mp cs, .d (.sl [[.int .i64 ((k : Int) + 1)]])] [] (iv 0) [] := L0
    have hk : k < 8 := by omega
    have hka : k < al.length := by omega
    have hkm : k < mp.length := by omega
    have hp1 : (k : Int) + 1 - 1 = (k : Int) := by omega
    have hsr := flchk_srt g0
    have hpg : ∀ c ∈ cs, Pgs c.2.1 := fun c hc => (ck1_zero (flchk_pgs g0 c hc)).2.1
    have hv : alv al ((k : Int) + 1) = al[k] := by unfold alv; rw [hp1]; simp [hka]
    have ea : encDB al[k] = [.bool true] := by rw [← hv, g3]; rfl
    have hset : ((al.map encDB).set k [.bool false]) = (al.set k false).map encDB := by rw [List.map_set]; rfl
    have hlen : (al.set k false).length = al.length := List.length_set
    have hM := mok_zip hsr
    have hfz := filter_zip (p := (k : Int) + 1) (f := 0) (t := 63) (by omega) hpg
    generalize hL : (cs.zipIdx.filter fun x : Me => !inS ((k : Int) + 1) (pgM 0 63) x.1) = L at *
    have hLM : Mok L cs.length := by rw [← hL]; exact hM.sub _
    have hclr : clr (mp[k]?.getD 0) (pgM 0 63) = 0 := by unfold clr; rw [show pgM 0 63 = 18446744073709551615 by decide]; simp
    have fgt_at := fgt_at2 (al.set k false) mp (mp.set k 0) cs.zipIdx L cs.length k (pgM 0 63) al.length mp.length hlen rfl (by simp; omega) l2 hu hk hM (fun x hx => hpg x.1 (by rw [← zip_fst cs 0]; exact List.mem_map_of_mem hx)) (pgM_lt (by omega) (by omega)) (by rw [hclr]) hL
    have hLl : L.length ≤ 1000000 := by rw [← hL]; exact Nat.le_trans (List.length_filter_le _ _) (by simpa using lc)
    have shut_at := shut_at2 (al.set k false) (mp.set k 0) L cs.length (woC cs ((k : Int) + 1) 0 63) al.length mp.length hlen (by simp) hLl hLM (by rw [hfz]; exact List.Perm.refl _) (woC_srt hsr _ _ _)
    repeat' (first | refine sA ?_ | with_reducible refine W_tf rfl (fun h => ?_) (fun h => ?_) | ((with_reducible first | refine hK _ ?_ | refine hK _ _ ?_); clear hK K) | ((with_reducible refine idx_map2 hka ?_); simp only [go_sem, seval, reduceCtorEq, encDB_len, hset]) | ((first | refine sC ?_ | (with_reducible first | refine ops_cons (fun K hK => ?_) | refine opsd_cons (fun K hK => ?_) | refine W_reg lv122FlY ?_ | refine W_drw lv122FlY (by kernel_rfl) ?_) | ((with_reducible refine opsd_nil ?_); refine And.intro (by kernel_rfl) ?_) | ((with_reducible refine callV_lend shutS [3,4,5] shut_ok rfl ?_); simp only [go_sem, seval, reduceCtorEq, hp1, ea, hset, decide_true, Bool.and_self, lv122FlY]; refine ⟨alk, rfl, _, _, shut_at , ?_⟩) | ((with_reducible refine callV_lend fgtS [3,4,5] fgt_ok rfl ?_); simp only [go_sem, seval, reduceCtorEq, hp1, ea, hset, decide_true, Bool.and_self, lv122FlY]; refine ⟨alk, rfl, _, _, fgt_at , ?_⟩) | with_reducible refine callV_snap ?_ | ((with_reducible refine call_go livesS lives_ok ?_); refine ⟨alk, _, _, lives_at , ?_⟩) | ((with_reducible refine call_go openS open_ok ?_); refine ⟨alk, _, _, open_at al mp cs (by omega) (by omega) lc hsr, ?_⟩) | ((with_reducible refine call_go pagesS pages_ok ?_); refine ⟨alk, _, _, pages_at 0 63 (by omega) (by omega), ?_⟩) | with_reducible refine And.intro (fun h => ?_) (fun h => ?_) | with_reducible refine And.intro (by omega) ?_); (try simp only [go_sem, seval, reduceCtorEq, hp1, ea, hset, decide_true, Bool.and_self, lv122FlY, shutS, fgtS, Tryz.ntmps122, Tryz.results122, ExtS])) | fail)
    refine W_ret (endQ_ret (end_at [3, 4, 7] ?_))
    simp [go_sem, Tryz.results122, rExtS, hset]
end Go.Proofs.YtpocnjliigjidaaGreat
