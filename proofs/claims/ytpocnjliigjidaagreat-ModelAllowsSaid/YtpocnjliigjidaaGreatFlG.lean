import Derived.Test.YtpocnjliigjidaaGreatFlE
/- A flat memory: the specification's own, Spawn, without, Exit; by the engine. -/
namespace Go.Proofs.YtpocnjliigjidaaGreat
open Go.RowKit
set_option maxRecDepth 100000
set_option linter.unusedSimpArgs false
set_option linter.unusedVariables false
abbrev lv126FlG : List (Nat × List Nat) := [(0, [1, 2, 4]), (1, [1, 2, 4, 6]), (2, [1, 2, 4, 6, 12]), (3, [4, 5]), (4, [1, 4, 7]), (5, [1, 4, 7]), (6, [4, 7]), (7, [4, 5])]
abbrev lv129FlG : List (Nat × List Nat) := [(0, [1, 2, 4]), (1, [1, 2, 4, 6]), (2, [1, 2, 4, 6, 13]), (3, [4, 5]), (4, [1, 2, 4, 21]), (5, [4, 5]), (6, [1, 4, 7]), (7, [4, 7]), (8, [4, 5])]
abbrev lv151FlG : List (Nat × List Nat) := [(0, [1, 2, 3, 4, 8]), (1, [1, 2, 3, 4, 8, 9]), (2, [1, 2, 3, 4, 8, 9]), (3, [1, 2, 3, 4, 8, 9, 10]), (4, [1, 2, 3, 4, 8, 9, 10, 19]), (5, [1, 2, 3, 4, 8, 9, 10]), (6, [1, 2, 3, 4, 8, 9, 10, 11]), (7, [1, 2, 3, 4, 8, 9, 10, 11, 45]), (8, [1, 2, 3, 4, 8, 9, 10]), (9, [8])]
abbrev fmR (a b c : Nat) (al : List Bool) (mp : List Nat) (cs : List Cl) : AV := .agg [.row a 1 0 al.length, .row b 1 0 mp.length, .row c 4 0 cs.length]
abbrev fmO (al : List Bool) (mp : List Nat) (cs : List Cl) : List Ob := [.rows 4 1 (al.map encDB), .rows 24 1 (mp.map encU), .rows 90 4 (cs.map encCl)]
theorem idx_map2 {α : Type} {enc : α → List D} {l : List α} {k : Nat} {K : List D → List D → Prop} (h : k < l.length) (hk : ∃ ds, K (enc l[k]) ds) : ∃ r ds, (l.map enc)[k]? = some r ∧ K r ds := by
  obtain ⟨ds, hd⟩ := hk
  exact ⟨_, ds, by rw [List.getElem?_map, List.getElem?_eq_getElem h]; rfl, hd⟩
theorem encDB_len (b : Bool) : (encDB b).length = 1 := rfl
def ownS : Spec := { al := true, rel := fun args ins res outs => ∃ (al : List Bool) (mp : List Nat) (cs : List Cl), al.length ≤ 1000000 ∧ mp.length ≤ 1000000 ∧ cs.length ≤ 1000000 ∧ args = [fm al mp cs] ∧ ins = [] ∧ res = fmR 0 1 2 al mp cs ∧ outs = fmO al mp cs }
theorem own_at (al : List Bool) (mp : List Nat) (cs : List Cl) (h1 : al.length ≤ 1000000) (h2 : mp.length ≤ 1000000) (h3 : cs.length ≤ 1000000) : ownS.rel [fm al mp cs] [] (fmR 0 1 2 al mp cs) (fmO al mp cs) := ⟨al, mp, cs, h1, h2, h3, rfl, rfl, rfl, rfl⟩
theorem own_ok : Ok Tryz.prog 150 ownS := by
  refine fn_ok ownS Tryz.func150 rfl rfl ?_
  rintro args ins res outs ⟨al, mp, cs, h1, h2, h3, rfl, rfl, rfl, rfl⟩
  refine ⟨by simp [Tryz.ntmps150], fun w0 V Bo mu0 => ?_⟩
  repeat' (first | refine sA ?_ | ((with_reducible first | refine hK _ ?_ | refine hK _ _ ?_); clear hK K) | ((with_reducible refine And.intro (encB.rows _) ?_)) | ((with_reducible refine And.intro (encUe.rows _) ?_)) | ((with_reducible refine And.intro (encCle.rows _) ?_)) | ((first | refine sC ?_ | (with_reducible first | refine ops_cons (fun K hK => ?_) | refine opsd_cons (fun K hK => ?_) | refine W_reg [(0, [1, 2]), (1, [2])] ?_ | refine W_drw [(0, [1, 2]), (1, [2])] (by kernel_rfl) ?_) | ((with_reducible refine opsd_nil ?_); refine And.intro (by kernel_rfl) ?_) | with_reducible refine callV_snap ?_ | with_reducible refine And.intro (fun h => ?_) (fun h => ?_) | with_reducible refine And.intro (by omega) ?_); (try simp only [go_sem, seval, reduceCtorEq, Tryz.ntmps150, Tryz.results150, ownS])) | fail)
  refine W_ret (endQ_ret (end_at [3, 5, 7] ?_))
  simp [go_sem, Tryz.results150, ownS]
def rSpnS : Spec := { al := true, rel := fun args ins res outs => (∃ (al : List Bool) (mp : List Nat) (cs : List Cl) (p : Int), U64 mp ∧ al.length ≤ 1000000 ∧ mp.length ≤ 1000000 ∧ cs.length ≤ 1000000 ∧ askE29 al mp cs p p ≠ 0 ∧ args = [fm al mp cs, iv p] ∧ ins = [] ∧ res = .tup [.agg [.nil, .nil, .nil], iv (askE29 al mp cs p p)] ∧ outs = []) ∨
  (∃ (al : List Bool) (mp : List Nat) (cs : List Cl) (k : Nat), flchk al mp cs = 0 ∧ U64 mp ∧ cs.length ≤ 1000000 ∧ k < 8 ∧ alv al ((k : Int) + 1) = true ∧ args = [fm al mp cs, iv ((k : Int) + 1)] ∧ ins = [] ∧ res = .tup [.agg [.nil, .nil, .nil], iv 7] ∧ outs = []) ∨
  (∃ (al : List Bool) (mp : List Nat) (cs : List Cl) (k : Nat), flchk al mp cs = 0 ∧ U64 mp ∧ cs.length ≤ 1000000 ∧ k < 8 ∧ alv al ((k : Int) + 1) = false ∧ args = [fm al mp cs, iv ((k : Int) + 1)] ∧ ins = [] ∧ res = .tup [fmR 0 1 2 (al.set k true) mp cs, iv 0] ∧ outs = fmO (al.set k true) mp cs) }
theorem ask_zero {al : List Bool} {mp : List Nat} {cs : List Cl} {k : Nat} (h : flchk al mp cs = 0) (hk : k < 8) : askE29 al mp cs ((k : Int) + 1) ((k : Int) + 1) = 0 := by
  unfold askE29
  rw [if_neg (by simpa using h), if_neg]
  intro hh
  exact hh ⟨⟨by omega, by omega⟩, ⟨by omega, by omega⟩⟩
set_option maxHeartbeats 4000000 in
theorem rSpn_ok : Ok Tryz.prog 129 rSpnS := by
  refine fn_ok rSpnS Tryz.func129 rfl rfl ?_
  rintro args ins res outs (⟨al, mp, cs, p, hu, la, lm, lc, he, rfl, rfl, rfl, rfl⟩ | ⟨al, mp, cs, k, h0, hu, lc, hk, hb, rfl, rfl, rfl, rfl⟩ | ⟨al, mp, cs, k, h0, hu, lc, hk, hb, rfl, rfl, rfl, rfl⟩)
  all_goals refine ⟨by simp [Tryz.ntmps129], fun w0 V Bo mu0 => ?_⟩
  · skip
    repeat' (first | refine sA ?_ | with_reducible refine W_tf rfl (fun h => ?_) (fun h => ?_) | ((with_reducible first | refine hK _ ?_ | refine hK _ _ ?_); clear hK K) | ((first | refine sB ?_ | (with_reducible first | refine ops_cons (fun K hK => ?_) | refine W_reg lv129FlG ?_) | with_reducible refine callV_snap ?_ | ((with_reducible refine call_go askS ask_ok ?_); refine ⟨alk, _, _, ask_at al mp cs p p hu la lm lc, ?_⟩) | with_reducible refine And.intro (fun h => ?_) (fun h => ?_) | with_reducible refine And.intro (by omega) ?_); (try simp only [go_sem, seval, reduceCtorEq, he, lv129FlG, Tryz.ntmps129, Tryz.results129, rSpnS])) | fail)
  · obtain ⟨l1, l2⟩ := flchk_len h0
    have A0 := ask_at al mp cs ((k : Int) + 1) ((k : Int) + 1) hu (by omega) (by omega) lc
    rw [ask_zero h0 hk] at A0
    have ask_at : askS.rel [fm al mp cs, iv ((k : Int) + 1), iv ((k : Int) + 1)] [] (iv 0) [] := A0
    have hka : k < al.length := by omega
    have hp1 : (k : Int) + 1 - 1 = (k : Int) := by omega
    have hv : alv al ((k : Int) + 1) = al[k] := by unfold alv; rw [hp1]; simp [hka]
    have ea : encDB al[k] = [.bool true] := by rw [← hv, hb]; rfl
    repeat' (first | refine sA ?_ | with_reducible refine W_tf rfl (fun h => ?_) (fun h => ?_) | ((with_reducible first | refine hK _ ?_ | refine hK _ _ ?_); clear hK K) | ((first | refine sB ?_ | (with_reducible first | refine ops_cons (fun K hK => ?_) | refine W_reg lv129FlG ?_) | with_reducible refine callV_snap ?_ | ((with_reducible refine call_go askS ask_ok ?_); refine ⟨alk, _, _, ask_at , ?_⟩) | with_reducible refine And.intro (fun h => ?_) (fun h => ?_) | with_reducible refine And.intro (by omega) ?_); (try simp only [go_sem, seval, reduceCtorEq, hp1, ea, lv129FlG, Tryz.ntmps129, Tryz.results129, rSpnS])) | fail)
  · obtain ⟨l1, l2⟩ := flchk_len h0
    have A0 := ask_at al mp cs ((k : Int) + 1) ((k : Int) + 1) hu (by omega) (by omega) lc
    rw [ask_zero h0 hk] at A0
    have ask_at : askS.rel [fm al mp cs, iv ((k : Int) + 1), iv ((k : Int) + 1)] [] (iv 0) [] := A0
    have hka : k < al.length := by omega
    have hp1 : (k : Int) + 1 - 1 = (k : Int) := by omega
    have hv : alv al ((k : Int) + 1) = al[k] := by unfold alv; rw [hp1]; simp [hka]
    have ea : encDB al[k] = [.bool false] := by rw [← hv, hb]; rfl
    have hset : ((al.map encDB).set k [.bool true]) = (al.set k true).map encDB := by rw [List.map_set]; rfl
    repeat' (first | refine sA ?_ | with_reducible refine W_tf rfl (fun h => ?_) (fun h => ?_) | ((with_reducible first | refine hK _ ?_ | refine hK _ _ ?_); clear hK K) | ((with_reducible refine idx_map2 hka ?_); simp only [go_sem, seval, reduceCtorEq, encDB_len, hset]) | ((first | refine sC ?_ | (with_reducible first | refine ops_cons (fun K hK => ?_) | refine W_reg lv129FlG ?_) | with_reducible refine callV_snap ?_ | ((with_reducible refine call_go askS ask_ok ?_); refine ⟨alk, _, _, ask_at , ?_⟩) | ((with_reducible refine call_go ownS own_ok ?_); refine ⟨alk, _, _, own_at al mp cs (by omega) (by omega) lc, ?_⟩) | with_reducible refine And.intro (fun h => ?_) (fun h => ?_) | with_reducible refine And.intro (by omega) ?_); (try simp only [go_sem, seval, reduceCtorEq, hp1, ea, hset, lv129FlG, Tryz.ntmps129, Tryz.results129, rSpnS])) | fail)
    refine W_ret (endQ_ret (end_at [2, 3, 4] ?_))
    simp [go_sem, Tryz.results129, rSpnS, hset]
end Go.Proofs.YtpocnjliigjidaaGreat
namespace Go.Proofs.YtpocnjliigjidaaGreat
open Go.RowKit
set_option maxRecDepth 100000
set_option linter.unusedSimpArgs false
set_option linter.unusedVariables false
def inR (p f t : Int) (c : Cl) : Bool := decide (c.1 = p) && (decide (f ≤ c.2.1) && decide (c.2.1 ≤ t))
def woC (cs : List Cl) (p f t : Int) : List Cl := cs.filter fun c => !inR p f t c
def woS : Spec := { al := true, rel := fun args ins res outs => ∃ (al : List Bool) (mp : List Nat) (cs : List Cl) (p f t : Int), al.length ≤ 1000000 ∧ mp.length ≤ 1000000 ∧ cs.length ≤ 1000000 ∧ args = [fm al mp cs, iv p, iv f, iv t] ∧ ins = [] ∧ res = fmR 0 1 2 al mp (woC cs p f t) ∧ outs = fmO al mp (woC cs p f t) }
theorem wo_at (al : List Bool) (mp : List Nat) (cs : List Cl) (p f t : Int) (h1 : al.length ≤ 1000000) (h2 : mp.length ≤ 1000000) (h3 : cs.length ≤ 1000000) : woS.rel [fm al mp cs, iv p, iv f, iv t] [] (fmR 0 1 2 al mp (woC cs p f t)) (fmO al mp (woC cs p f t)) := ⟨al, mp, cs, p, f, t, h1, h2, h3, rfl, rfl, rfl, rfl⟩
set_option maxHeartbeats 4000000 in
theorem wo_ok : Ok Tryz.prog 151 woS := by
  refine fn_ok woS Tryz.func151 rfl rfl ?_
  rintro args ins res outs ⟨al, mp, cs, p, f, t, h1, h2, h3, rfl, rfl, rfl, rfl⟩
  refine ⟨by simp [Tryz.ntmps151], fun w0 V Bo mu0 => ?_⟩
  repeat' (first | refine sA ?_ | with_reducible refine W_tf rfl (fun h => ?_) (fun h => ?_) | ((with_reducible first | refine hK _ ?_ | refine hK _ _ ?_); clear hK K) | ((first | refine sB ?_ | (with_reducible first | refine ops_cons (fun K hK => ?_) | refine W_reg lv151FlG ?_) | with_reducible refine callV_snap ?_ | ((with_reducible refine call_go ownS own_ok ?_); refine ⟨alk, _, _, own_at al mp cs h1 h2 h3, ?_⟩) | with_reducible refine And.intro (fun h => ?_) (fun h => ?_) | with_reducible refine And.intro (by omega) ?_); (try simp only [go_sem, seval, reduceCtorEq, lv151FlG, Tryz.ntmps151, Tryz.results151, woS])) | fail)
  refine W_adoptC (t := 90) (sz := 4) 5 2 (by decide) (by simp only [go_sem, seval, reduceCtorEq]; rfl) rfl ?_
  refine W_loop (fun i : Nat => ⟨[(1, iv p), (2, iv f), (3, iv t), (4, .ptr 0 0), (8, .ptr 1 0), (9, .ptr 4 0), (10, iv i)], [some (.box 38 [.d (.sl (al.map encDB)), .d (.sl (mp.map encU)), .d (.sl (cs.map encCl))]), some (.box 38 [.nil, .nil, .nil]), some (.rows 4 1 (al.map encDB)), some (.rows 24 1 (mp.map encU)), some (.box 38 [.row 2 1 0 al.length, .row 3 1 0 mp.length, .row 5 4 0 (woC (cs.take i) p f t).length]), some (.rows 90 4 ((woC (cs.take i) p f t).map encCl))]⟩) (fun i => i ≤ cs.length) (fun i => cs.length - i) 0 (Nat.zero_le _) [0, 1, 2, 3, 5, 6] ?_ ?_
  · simp [go_sem, woC]
  intro i hi
  by_cases hlt : i < cs.length
  · have hki : (i : Int) < cs.length := by omega
    have hlen : (woC (cs.take i) p f t).length ≤ 1000000 := by
      have : (woC (cs.take i) p f t).length ≤ (cs.take i).length := List.length_filter_le _ _
      rw [List.length_take] at this; omega
    obtain ⟨⟨cp, cg, cw, cv⟩, hc⟩ : ∃ c, cs[i] = c := ⟨_, rfl⟩
    have e0 : encCl cs[i] = [.int .i64 cp, .int .i64 cg, .int .i64 cw, .int .u64 (cv : Int)] := by rw [hc]; rfl
    have hst : woC (cs.take (i + 1)) p f t = if inR p f t (cp, cg, cw, cv) = true then woC (cs.take i) p f t else woC (cs.take i) p f t ++ [(cp, cg, cw, cv)] := by
      unfold woC
      rw [take_get cs i hlt, List.filter_append, hc]
      cases hq : inR p f t (cp, cg, cw, cv) <;> simp [hq]
    have htl : List.take (woC (cs.take i) p f t).length (List.map encCl (woC (cs.take i) p f t)) = List.map encCl (woC (cs.take i) p f t) := List.take_of_length_le (by simp)
    have keep : inR p f t (cp, cg, cw, cv) = false → (woC (cs.take (i + 1)) p f t).length = (woC (cs.take i) p f t).length + 1 ∧ (woC (cs.take (i + 1)) p f t).map encCl = (woC (cs.take i) p f t).map encCl ++ [[.int .i64 cp, .int .i64 cg, .int .i64 cw, .int .u64 (cv : Int)]] := by
      intro h
      rw [hst, h]
      simp [encCl]
    have drop' : inR p f t (cp, cg, cw, cv) = true → woC (cs.take (i + 1)) p f t = woC (cs.take i) p f t := by
      intro h
      rw [hst, h]; rfl
    generalize woC (cs.take i) p f t = L at *
    by_cases c1 : cp = p
    · by_cases c2 : cg < f
      · obtain ⟨k1, k2⟩ := keep (by unfold inR; simp; omega)
        repeat' (first | refine sA ?_ | with_reducible refine W_tf rfl (fun h => ?_) (fun h => ?_) | ((with_reducible first | refine hK _ ?_ | refine hK _ _ ?_); clear hK K) | ((first | refine sB ?_ | (with_reducible first | refine ops_cons (fun K hK => ?_) | refine W_reg lv151FlG ?_) | with_reducible refine callV_snap ?_ | with_reducible refine And.intro (fun h => ?_) (fun h => ?_) | with_reducible refine And.intro (by omega) ?_); (try simp only [go_sem, seval, reduceCtorEq, hki, e0, c1, c2, lv151FlG, Tryz.ntmps151, Tryz.results151, woS])) | fail)
        refine ⟨i + 1, [0, 1, 2, 3, 4, 8], by omega, by omega, ?_⟩
        simp [go_sem, k1, k2, htl, c1]
      · by_cases c3 : t < cg
        · obtain ⟨k1, k2⟩ := keep (by unfold inR; simp; omega)
          repeat' (first | refine sA ?_ | with_reducible refine W_tf rfl (fun h => ?_) (fun h => ?_) | ((with_reducible first | refine hK _ ?_ | refine hK _ _ ?_); clear hK K) | ((first | refine sB ?_ | (with_reducible first | refine ops_cons (fun K hK => ?_) | refine W_reg lv151FlG ?_) | with_reducible refine callV_snap ?_ | with_reducible refine And.intro (fun h => ?_) (fun h => ?_) | with_reducible refine And.intro (by omega) ?_); (try simp only [go_sem, seval, reduceCtorEq, hki, e0, c1, c2, c3, lv151FlG, Tryz.ntmps151, Tryz.results151, woS])) | fail)
          refine ⟨i + 1, [0, 1, 2, 3, 4, 8], by omega, by omega, ?_⟩
          simp [go_sem, k1, k2, htl, c1]
        · have k1 := drop' (by unfold inR; simp [c1]; omega)
          repeat' (first | refine sA ?_ | with_reducible refine W_tf rfl (fun h => ?_) (fun h => ?_) | ((with_reducible first | refine hK _ ?_ | refine hK _ _ ?_); clear hK K) | ((first | refine sB ?_ | (with_reducible first | refine ops_cons (fun K hK => ?_) | refine W_reg lv151FlG ?_) | with_reducible refine callV_snap ?_ | with_reducible refine And.intro (fun h => ?_) (fun h => ?_) | with_reducible refine And.intro (by omega) ?_); (try simp only [go_sem, seval, reduceCtorEq, hki, e0, c1, c2, c3, lv151FlG, Tryz.ntmps151, Tryz.results151, woS])) | fail)
          refine ⟨i + 1, [0, 1, 2, 3, 4, 5], by omega, by omega, ?_⟩
          simp [go_sem, k1]
    · obtain ⟨k1, k2⟩ := keep (by unfold inR; simp [c1])
      repeat' (first | refine sA ?_ | with_reducible refine W_tf rfl (fun h => ?_) (fun h => ?_) | ((with_reducible first | refine hK _ ?_ | refine hK _ _ ?_); clear hK K) | ((first | refine sB ?_ | (with_reducible first | refine ops_cons (fun K hK => ?_) | refine W_reg lv151FlG ?_) | with_reducible refine callV_snap ?_ | with_reducible refine And.intro (fun h => ?_) (fun h => ?_) | with_reducible refine And.intro (by omega) ?_); (try simp only [go_sem, seval, reduceCtorEq, hki, e0, c1, lv151FlG, Tryz.ntmps151, Tryz.results151, woS])) | fail)
      refine ⟨i + 1, [0, 1, 2, 3, 4, 8], by omega, by omega, ?_⟩
      simp [go_sem, k1, k2, htl, c1]
  · have hki : ¬ (i : Int) < cs.length := by omega
    obtain rfl : i = cs.length := by omega
    rw [List.take_length]
    repeat' (first | refine sA ?_ | with_reducible refine W_tf rfl (fun h => ?_) (fun h => ?_) | ((with_reducible first | refine hK _ ?_ | refine hK _ _ ?_); clear hK K) | ((first | refine sC ?_ | (with_reducible first | refine ops_cons (fun K hK => ?_) | refine W_reg lv151FlG ?_) | with_reducible refine callV_snap ?_ | with_reducible refine And.intro (fun h => ?_) (fun h => ?_) | with_reducible refine And.intro (by omega) ?_); (try simp only [go_sem, seval, reduceCtorEq, hki, lv151FlG, Tryz.ntmps151, Tryz.results151, woS])) | fail)
    refine W_ret (endQ_ret (end_at [2, 3, 5] ?_))
    simp [go_sem, Tryz.results151, woS]
def rExtS : Spec := { al := true, rel := fun args ins res outs => (∃ (al : List Bool) (mp : List Nat) (cs : List Cl) (p : Int), U64 mp ∧ al.length ≤ 1000000 ∧ mp.length ≤ 1000000 ∧ cs.length ≤ 1000000 ∧ lvsE al mp cs [p] ≠ 0 ∧ args = [fm al mp cs, iv p] ∧ ins = [] ∧ res = .tup [.agg [.nil, .nil, .nil], iv (lvsE al mp cs [p])] ∧ outs = []) ∨
  (∃ (al : List Bool) (mp : List Nat) (cs : List Cl) (k : Nat), lvsE al mp cs [(k : Int) + 1] = 0 ∧ U64 mp ∧ cs.length ≤ 1000000 ∧ args = [fm al mp cs, iv ((k : Int) + 1)] ∧ ins = [] ∧ res = .tup [fmR 0 1 2 (al.set k false) (mp.set k 0) (woC cs ((k : Int) + 1) 0 63), iv 0] ∧ outs = fmO (al.set k false) (mp.set k 0) (woC cs ((k : Int) + 1) 0 63)) }
set_option maxHeartbeats 4000000 in
theorem rExt_ok : Ok Tryz.prog 126 rExtS := by
  refine fn_ok rExtS Tryz.func126 rfl rfl ?_
  rintro args ins res outs (⟨al, mp, cs, p, hu, la, lm, lc, he, rfl, rfl, rfl, rfl⟩ | ⟨al, mp, cs, k, h0, hu, lc, rfl, rfl, rfl, rfl⟩)
  all_goals refine ⟨by simp [Tryz.ntmps126], fun w0 V Bo mu0 => ?_⟩
  · skip
    repeat' (first | refine sA ?_ | with_reducible refine W_tf rfl (fun h => ?_) (fun h => ?_) | ((with_reducible first | refine hK _ ?_ | refine hK _ _ ?_); clear hK K) | ((first | refine sB ?_ | (with_reducible first | refine ops_cons (fun K hK => ?_) | refine W_reg lv126FlG ?_) | with_reducible refine callV_snap ?_ | ((with_reducible refine call_go livgS livg_ok ?_); refine ⟨alk, _, _, livg_at al mp cs p hu la lm lc, ?_⟩) | with_reducible refine And.intro (fun h => ?_) (fun h => ?_) | with_reducible refine And.intro (by omega) ?_); (try simp only [go_sem, seval, reduceCtorEq, he, lv126FlG, Tryz.ntmps126, Tryz.results126, rExtS])) | fail)
  · obtain ⟨g0, ⟨g1, g2⟩, g3⟩ := lvs_zero h0
    obtain ⟨l1, l2⟩ := flchk_len g0
    have A0 := livg_at al mp cs ((k : Int) + 1) hu (by omega) (by omega) lc
    rw [h0] at A0
    have livg_at : livgS.rel [fm al mp cs, iv ((k : Int) + 1)] [] (iv 0) [] := A0
    have hka : k < al.length := by omega
    have hkm : k < mp.length := by omega
    have hp1 : (k : Int) + 1 - 1 = (k : Int) := by omega
    have hset : ((al.map encDB).set k [.bool false]) = (al.set k false).map encDB := by rw [List.map_set]; rfl
    have hset2 : ((mp.map encU).set k [.int .u64 0]) = (mp.set k 0).map encU := by rw [List.map_set]; rfl
    have eul : ∀ n : Nat, (encU n).length = 1 := fun _ => rfl
    repeat' (first | refine sA ?_ | with_reducible refine W_tf rfl (fun h => ?_) (fun h => ?_) | ((with_reducible first | refine hK _ ?_ | refine hK _ _ ?_); clear hK K) | ((with_reducible refine idx_map2 hka ?_); simp only [go_sem, seval, reduceCtorEq, encDB_len, hset]) | ((with_reducible refine idx_map2 hkm ?_); simp only [go_sem, seval, reduceCtorEq, eul, hset2]) | ((first | refine sC ?_ | (with_reducible first | refine ops_cons (fun K hK => ?_) | refine W_reg lv126FlG ?_) | with_reducible refine callV_snap ?_ | ((with_reducible refine call_go livgS livg_ok ?_); refine ⟨alk, _, _, livg_at , ?_⟩) | ((with_reducible refine call_go woS wo_ok ?_); refine ⟨alk, _, _, wo_at al mp cs ((k : Int) + 1) 0 63 (by omega) (by omega) lc, ?_⟩) | with_reducible refine And.intro (fun h => ?_) (fun h => ?_) | with_reducible refine And.intro (by omega) ?_); (try simp only [go_sem, seval, reduceCtorEq, hp1, lv126FlG, Tryz.ntmps126, Tryz.results126, rExtS])) | fail)
    refine W_ret (endQ_ret (end_at [2, 3, 4] ?_))
    simp [go_sem, Tryz.results126, rExtS, hset, hset2]
    exact ⟨rfl, rfl⟩
end Go.Proofs.YtpocnjliigjidaaGreat
