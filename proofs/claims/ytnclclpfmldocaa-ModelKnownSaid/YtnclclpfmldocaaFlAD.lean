/- A flat memory: maps.Clone; Fork, by the engine. -/
import Derived.Test.YtnclclpfmldocaaFlAB
import Derived.Shelf.SlMaps.Clone
namespace Go.Proofs.Ytnclclpfmldocaa
open Go.RowKit Go.Shelf
set_option maxRecDepth 100000
set_option linter.unusedSimpArgs false
set_option linter.unusedVariables false

abbrev lv46FlAD : List (Nat × List Nat) := [(0, [1, 2, 3, 6]), (1, [1, 2, 3, 6, 8]), (2, [1, 2, 3, 6, 8, 16]), (3, [6, 7]), (4, [1, 2, 3, 6, 19]), (5, [6, 7]), (6, [1, 2, 3, 6, 29]), (7, [6, 7]), (8, [1, 2, 3, 6, 38]), (9, [6, 7]), (10, [1, 2, 3, 6, 43]), (11, [6, 7]), (12, [1, 2, 6, 9]), (13, [1, 2, 6, 9]), (14, [1, 2, 6, 9]), (15, [1, 2, 6, 9, 10]), (16, [1, 2, 6, 9, 10, 74]), (17, [1, 2, 6, 9, 10, 74, 76]), (18, [1, 2, 6, 9, 10, 11, 12, 74]), (19, [1, 2, 6, 9, 10, 11, 12, 74, 84]), (20, [1, 2, 6, 9, 10, 11, 12, 74]), (21, [1, 2, 6, 9, 10, 74]), (22, [6, 9]), (23, [6, 7])]
def layMC_ren : Go.Shelf.Ren := ⟨fun | 5 => 62 | 7 => 74 | n => n, fun | 4 => 4 | 20 => 20 | 23 => 79 | 25 => 93 | 3 => 22 | n => n, fun | n => n⟩
theorem layMC : Go.Proofs.SlLaysW.n5 Try.prog layMC_ren := {
  mixed := by kernel_rfl
  f5 := ⟨Try.f62.name, by kernel_rfl, Try.func62.trans (congrArg some (by kernel_rfl))⟩
  f7 := Try.func74.trans (congrArg some (by kernel_rfl))
  t4 := Try.underlying4
  a4 := Try.isAgg4
  z4 := Try.sizeOf4
  v4 := Try.zeroValue4
  t20 := Try.underlying20
  a20 := Try.isAgg20
  z20 := Try.sizeOf20
  v20 := Try.zeroValue20
  t23 := Try.underlying79
  a23 := Try.isAgg79
  z23 := Try.sizeOf79
  v23 := Try.zeroValue79 }
def mclS : Spec := { rel := fun args ins res outs => ∃ (l : List Me) (ck : Nat), args = [.mp 0] ∧ ins = [mpO l ck] ∧ res = .mp 1 ∧ outs = [mpO l ck, mpO l ck] }
theorem mcl_at (l : List Me) (ck : Nat) : mclS.rel [.mp 0] [.map (l.map ent) ck] (.mp 1) [.map (l.map ent) ck, .map (l.map ent) ck] := ⟨l, ck, rfl, rfl, rfl, rfl⟩
theorem mcl_ok : Ok Try.prog 62 mclS := by
  refine ⟨⟨_, Try.func62, rfl, rfl⟩, ?_⟩
  rintro args ins res outs ⟨l, ck, rfl, rfl, rfl, rfl⟩ w V Bo μ vals hin
  obtain ⟨v0, rfl⟩ : ∃ v0, vals = #[v0] := by
    have := hin.n
    match vals, this with
    | ⟨[a]⟩, _ => exact ⟨a, rfl⟩
  have r0 := hin.rep 0 _ v0 rfl rfl
  cases r0 with
  | @mp _ b hb =>
  have hmap : w.heap[b]? = some (.map (l.map ent).toArray ck) := by
    cases hin.ob 0 _ rfl with
    | map b1 b2 => rw [hb] at b1; injection b1 with b1; injection b1 with b1; subst b1; exact b2
  have hbl := heap_lt hmap
  refine (AnyW.maps_Clone layMC b _ ck w hmap).mono ?_
  rintro e w' ⟨rfl, rfl⟩
  have hbo : ∀ x, Bo x → x = b := fun x hx => by
    obtain ⟨i, hi, hm⟩ := hin.bo' x hx
    simp at hi
    subst hi
    rw [hb] at hm; injection hm with hm; injection hm with hm; exact hm.symm
  have hB : Below w.heap.size w (w.alloc (.map (l.map ent).toArray ck)) := (Below.refl _ w).alloc (Nat.le_refl _) _
  have hμ1 : ∀ i, 1 ≤ i → μ i = none := fun i hi => hin.lt i (by simpa using hi)
  have hμ : ∀ i x, μ i = some x → (if i = 1 then some (some w.heap.size) else μ i) = some x := fun i x hx => by
    by_cases h : i = 1
    · rw [h, hμ1 1 (Nat.le_refl _)] at hx; cases hx
    · rw [if_neg h]; exact hx
  refine ⟨_, fun i => if i = 1 then some (some w.heap.size) else μ i, rfl, ev_below hB (fun x hx => by rw [hbo x hx]; exact hbl), hμ, .mp (by simp), fun i o hi _ => ?_, fun i x hi h => ?_, fun i j x hi hj _ _ h1 h2 => ?_, fun i hi => ?_, by simp⟩
  · match i, hi with
    | 0, hi => simp at hi; subst hi; exact .map (hμ 0 _ hb) ((Below.heap_alloc _ _ b hbl).trans hmap)
    | 1, hi => simp at hi; subst hi; exact .map (by simp) (World.alloc_heap_new w _)
  · by_cases h1 : i = 1
    · rw [if_pos h1] at h; injection h with h; injection h with h; subst h; exact ⟨.inl (Nat.le_refl _), by simp⟩
    · rw [if_neg h1, hμ1 i (by simpa using hi)] at h; cases h
  · simp only [List.length_cons, List.length_nil] at hi hj
    have i01 : i = 0 ∨ i = 1 := by omega
    have j01 : j = 0 ∨ j = 1 := by omega
    rcases i01 with rfl | rfl <;> rcases j01 with rfl | rfl
    · rfl
    · simp at h1 h2; rw [hb] at h1; injection h1 with h1; injection h1 with h1; omega
    · simp at h1 h2; rw [hb] at h2; injection h2 with h2; injection h2 with h2; omega
    · rfl
  · simp only [List.length_cons, List.length_nil] at hi
    rw [if_neg (by omega)]
    exact hμ1 i (by omega)
/-- a cell at another process -/
def cpC (q : Int) (c : Cl) : Cl := (q, c.2)
def ofP (cs : List Cl) (p : Int) : List Cl := cs.filter fun c => decide (c.1 = p)
def forkC (cs : List Cl) (p q : Int) : List Cl := ((ofP cs p).map (cpC q)).foldl putC cs
/-- the copies of the entries that have been seen -/
def cops (l : List Me) (p q : Int) (seen : List Nat) : List Cl := (l.filter fun x => decide (x.2 ∈ seen) && decide (x.1.1 = p)).map fun x => cpC q x.1
theorem cops_nil (l : List Me) (p q : Int) : cops l p q [] = [] := by simp [cops]
theorem cops_no {l : List Me} {ck : Nat} (hM : Mok l ck) {p q : Int} {seen : List Nat} {x : Me} (hx : x ∈ l) (hp : x.1.1 ≠ p) : cops l p q (seen ++ [x.2]) = cops l p q seen := by
  unfold cops
  congr 1
  refine List.filter_congr fun y hy => ?_
  by_cases he : y.2 = x.2
  · obtain rfl := nodup_inj hM.sn hy hx he
    simp [hp]
  · simp [he]
theorem cops_yes {l : List Me} {ck : Nat} (hM : Mok l ck) {p q : Int} {seen : List Nat} {x : Me} (hx : x ∈ l) (hs : x.2 ∉ seen) (hp : x.1.1 = p) : (cops l p q (seen ++ [x.2])).Perm (cpC q x.1 :: cops l p q seen) := by
  unfold cops
  rw [← List.map_cons (f := fun x : Me => cpC q x.1)]
  refine List.Perm.map _ ((List.perm_ext_iff_of_nodup (nodup_of_map (f := Prod.snd) (hM.sn.sublist (List.filter_sublist.map _))) (List.nodup_cons.2 ⟨fun h => ?_, nodup_of_map (f := Prod.snd) (hM.sn.sublist (List.filter_sublist.map _))⟩)).2 fun y => ?_)
  · have := (List.mem_filter.1 h).2
    simp [hs] at this
  · simp only [List.mem_filter, List.mem_cons, List.mem_append, Bool.and_eq_true, decide_eq_true_eq, List.not_mem_nil, or_false]
    constructor
    · rintro ⟨hy, h1 | h1, h2⟩
      · exact .inr ⟨hy, h1, h2⟩
      · exact .inl (nodup_inj hM.sn hy hx h1)
    · rintro (rfl | ⟨hy, h1, h2⟩)
      · exact ⟨hx, .inr rfl, hp⟩
      · exact ⟨hy, .inl h1, h2⟩
theorem cops_all {l : List Me} {p q : Int} {seen : List Nat} (h : ∀ x ∈ l, x.2 ∈ seen) : cops l p q seen = (ofP (l.map (·.1)) p).map (cpC q) := by
  unfold cops ofP
  rw [List.filter_map, List.map_map]
  congr 1
  refine List.filter_congr fun y hy => ?_
  simp [h y hy]
theorem rmK_id {cs : List Cl} {k : K3} (h : ∀ c ∈ cs, ck3 c ≠ k) : rmK cs k = cs := by
  unfold rmK
  exact List.filter_eq_self.2 fun c hc => by simpa using h c hc
theorem forkC_ok {p q : Int} : ∀ (l acc : List Cl), Srt acc → (∀ c ∈ l, ∀ x ∈ acc, ck3 x ≠ ck3 c) → l.Pairwise (fun a b => ck3 a ≠ ck3 b) → Srt (l.foldl putC acc) ∧ (l.foldl putC acc).Perm (acc ++ l)
  | [], acc, h, _, _ => ⟨h, by simp⟩
  | c :: l, acc, h, hn, hp => by
    obtain ⟨p1, p2⟩ := List.pairwise_cons.1 hp
    have hs := putC_srt h (hn c (by simp))
    have hperm := putC_perm acc c
    obtain ⟨a1, a2⟩ := forkC_ok (p := p) (q := q) l (putC acc c) hs (fun d hd x hx => by
      rcases List.mem_cons.1 (hperm.mem_iff.1 hx) with rfl | hx
      · exact p1 d hd
      · exact hn d (by simp [hd]) x hx) p2
    refine ⟨a1, a2.trans ?_⟩
    exact (hperm.append_right l).trans (List.perm_middle (l₁ := acc)).symm
theorem fork_srt {cs : List Cl} (h : Srt cs) {p q : Int} (hq : ∀ c ∈ cs, c.1 ≠ q) : Srt (forkC cs p q) ∧ (forkC cs p q).Perm (cs ++ (ofP cs p).map (cpC q)) := by
  refine forkC_ok (p := p) (q := q) _ cs h (fun c hc x hx e => ?_) ?_
  · obtain ⟨d, hd, rfl⟩ := List.mem_map.1 hc
    simp only [ck3, cpC, Prod.mk.injEq] at e
    exact hq x hx e.1
  · rw [List.pairwise_map]
    have hp : (ofP cs p).Pairwise Bef := List.Pairwise.sublist List.filter_sublist h
    refine List.Pairwise.imp_of_mem (fun {a b} ha hb hab e => ?_) hp
    have a1 := (List.mem_filter.1 ha).2
    have b1 := (List.mem_filter.1 hb).2
    simp only [decide_eq_true_eq] at a1 b1
    simp only [ck3, cpC, Prod.mk.injEq] at e
    unfold Bef at hab
    omega
def frkE (al : List Bool) (mp : List Nat) (cs : List Cl) (p q : Int) : Int := if flchk al mp cs ≠ 0 then flchk al mp cs else if ¬ (Prc p ∧ Prc q) then 2 else if alv al p = false then 11 else if p = q then 2 else if alv al q = true then 7 else 0
def FrkS : Spec := { al := true, rel := fun args ins res outs => (∃ (al : List Bool) (mp : List Nat) (cs : List Cl) (p q : Int), U64 mp ∧ al.length ≤ 1000000 ∧ mp.length ≤ 1000000 ∧ cs.length ≤ 1000000 ∧ frkE al mp cs p q ≠ 0 ∧ args = [fm al mp cs, iv p, iv q] ∧ ins = [] ∧ res = .tup [erM, iv (frkE al mp cs p q)] ∧ outs = []) ∨
  (∃ (al : List Bool) (mp : List Nat) (cs : List Cl) (k j : Nat), U64 mp ∧ cs.length ≤ 400000 ∧ frkE al mp cs ((k : Int) + 1) ((j : Int) + 1) = 0 ∧ args = [fm al mp cs, iv ((k : Int) + 1), iv ((j : Int) + 1)] ∧ ins = [] ∧
    res = .tup [fmR 0 1 2 (al.set j true) (mp.set j (mp[k]?.getD 0)) (forkC cs ((k : Int) + 1) ((j : Int) + 1)), iv 0] ∧ outs = fmO (al.set j true) (mp.set j (mp[k]?.getD 0)) (forkC cs ((k : Int) + 1) ((j : Int) + 1))) }
theorem frk_zero {al : List Bool} {mp : List Nat} {cs : List Cl} {p q : Int} (h : frkE al mp cs p q = 0) : flchk al mp cs = 0 ∧ Prc p ∧ Prc q ∧ alv al p = true ∧ p ≠ q ∧ alv al q = false := by
  unfold frkE at h
  by_cases h0 : flchk al mp cs = 0
  · rw [if_neg (by simpa using h0)] at h
    by_cases h1 : Prc p ∧ Prc q
    · rw [if_neg (fun hh => hh h1)] at h
      cases h2 : alv al p with
      | false => rw [h2, if_pos rfl] at h; cases h
      | true =>
        rw [h2, if_neg (by decide)] at h
        by_cases h3 : p = q
        · rw [if_pos h3] at h; cases h
        · rw [if_neg h3] at h
          cases h4 : alv al q with
          | true => rw [h4, if_pos rfl] at h; cases h
          | false => exact ⟨h0, h1.1, h1.2, rfl, h3, rfl⟩
    · rw [if_pos h1] at h; cases h
  · rw [if_pos h0] at h; exact absurd h h0
/-- nobody dead has cells -/
theorem dead_cells {al : List Bool} {mp : List Nat} {cs : List Cl} (h : flchk al mp cs = 0) {q : Int} (hq : Prc q) (ha : alv al q = false) : ∀ c ∈ cs, c.1 ≠ q := by
  rintro c hc rfl
  obtain ⟨l1, l2⟩ := flchk_len h
  obtain ⟨c1, c2, c3, c4, c5⟩ := ck1_zero (flchk_pgs h c hc)
  obtain ⟨k, hk⟩ : ∃ k : Nat, c.1 = (k : Int) + 1 := ⟨(c.1 - 1).toNat, by have := hq.1; omega⟩
  have hk8 : k < 8 := by have := hq.2; omega
  have hd : deadm al mp = false := by
    unfold flchk at h
    rw [if_neg (by omega)] at h
    cases hd : deadm al mp with
    | false => rfl
    | true => rw [hd, if_pos rfl] at h; cases h
  have hka : k < al.length := by omega
  have hkm : k < mp.length := by omega
  have e1 : al[k] = false := by
    have : alv al c.1 = al[k] := by unfold alv; rw [hk, show (k : Int) + 1 - 1 = k by omega]; simp [hka]
    rw [← this]; exact ha
  have e2 : mp[k] = 0 := by
    rcases Nat.eq_zero_or_pos mp[k] with h0 | h0
    · exact h0
    · exfalso
      have : deadm al mp = true := by
        unfold deadm
        rw [List.any_eq_true]
        refine ⟨(al[k], mp[k]), ?_, ?_⟩
        · rw [List.mem_iff_getElem]
          exact ⟨k, by simp; omega, by simp⟩
        · simp [e1]; omega
      rw [hd] at this; cases this
  unfold mpd at c5
  rw [hk, show (k : Int) + 1 - 1 = k by omega] at c5
  simp [hkm, e2] at c5
set_option maxHeartbeats 8000000 in
theorem Frk_ok : Ok Try.prog 46 FrkS := by
  refine fn_ok FrkS Try.func46 rfl rfl ?_
  rintro args ins res outs (⟨al, mp, cs, p, q, hu, la, lm, lc, he, rfl, rfl, rfl, rfl⟩ | ⟨al, mp, cs, k, j, hu, lc, h0, rfl, rfl, rfl, rfl⟩)
  all_goals refine ⟨by simp [Try.ntmps46], fun w0 V Bo mu0 => ?_⟩
  · have L0 := Ck_at al mp cs hu la lm lc
    obtain ⟨R, hR⟩ : ∃ R, frkE al mp cs p q = R := ⟨_, rfl⟩
    rw [hR] at he ⊢
    have hl := @flchk_len al mp cs
    unfold frkE at hR
    generalize flchk al mp cs = E at *
    have Ck_at : CkS.rel [fm al mp cs] [] (iv E) [] := L0
    by_cases h0 : E = 0
    case neg =>
      rw [if_pos h0] at hR
      subst hR
      repeat' (first
        | (with_reducible first | refine W_seq ?_ | refine W_condT rfl ?_ | refine W_condF rfl ?_ | refine W_tf rfl (fun h => ?_) (fun h => ?_) | refine W_block ?_ | refine endQ_ret ?_ | refine endQ_normal ?_)
        | ((with_reducible first | refine hK _ ?_ | refine hK _ _ ?_); clear hK K)
        | ((first | (with_reducible first | refine ops_cons (fun K hK => ?_) | refine opsd_cons (fun K hK => ?_) | refine ops_nil ?_ | refine fit_i64 (by omega) ?_ | refine fit_any ?_) | ((with_reducible refine opsd_nil ?_); refine And.intro (by kernel_rfl) ?_) | with_reducible refine callV_snap ?_ | ((with_reducible refine call_go CkS Ck_ok ?_); refine ⟨(by first | exact alOk_nil _ | exact alOk_f rfl), _, _, Ck_at , ?_⟩) | (with_reducible first | refine idx_map (by omega) ?_ | refine W_reg lv46FlAD ?_ | refine W_drw lv46FlAD (by kernel_rfl) ?_ | refine W_skip ?_ | refine W_exit ?_ | refine W_ret ?_ | refine end_at0 ?_) | (with_reducible refine And.intro (fun h => ?_) (fun h => ?_)) | (with_reducible refine And.intro (by omega) ?_)); (try simp only [go_sem, seval, reduceCtorEq, h0, lv46FlAD, Try.ntmps46, Try.results46, FrkS]))
        | fail)
    subst h0
    rw [if_neg (by decide)] at hR
    obtain ⟨l1, l2⟩ := hl rfl
    by_cases hp : Prc p
    case neg =>
      have d1 := decide_eq_false hp
      rw [if_pos (fun h => hp h.1)] at hR
      subst hR
      repeat' (first
        | (with_reducible first | refine W_seq ?_ | refine W_condT rfl ?_ | refine W_condF rfl ?_ | refine W_tf rfl (fun h => ?_) (fun h => ?_) | refine W_block ?_ | refine endQ_ret ?_ | refine endQ_normal ?_)
        | ((with_reducible first | refine hK _ ?_ | refine hK _ _ ?_); clear hK K)
        | ((first | (with_reducible first | refine ops_cons (fun K hK => ?_) | refine opsd_cons (fun K hK => ?_) | refine ops_nil ?_ | refine fit_i64 (by omega) ?_ | refine fit_any ?_) | ((with_reducible refine opsd_nil ?_); refine And.intro (by kernel_rfl) ?_) | with_reducible refine callV_snap ?_ | ((with_reducible refine call_go CkS Ck_ok ?_); refine ⟨(by first | exact alOk_nil _ | exact alOk_f rfl), _, _, Ck_at , ?_⟩) | ((with_reducible refine call_go prcS prc_ok ?_); refine ⟨(by first | exact alOk_nil _ | exact alOk_f rfl), _, _, prc_at p, ?_⟩) | ((with_reducible refine call_go prcS prc_ok ?_); refine ⟨(by first | exact alOk_nil _ | exact alOk_f rfl), _, _, prc_at q, ?_⟩) | (with_reducible first | refine idx_map (by omega) ?_ | refine W_reg lv46FlAD ?_ | refine W_drw lv46FlAD (by kernel_rfl) ?_ | refine W_skip ?_ | refine W_exit ?_ | refine W_ret ?_ | refine end_at0 ?_) | (with_reducible refine And.intro (fun h => ?_) (fun h => ?_)) | (with_reducible refine And.intro (by omega) ?_)); (try simp only [go_sem, seval, reduceCtorEq, d1, lv46FlAD, Try.ntmps46, Try.results46, FrkS]))
        | fail)
    have d1 := decide_eq_true hp
    by_cases hq : Prc q
    case neg =>
      have d2 := decide_eq_false hq
      rw [if_pos (fun h => hq h.2)] at hR
      subst hR
      repeat' (first
        | (with_reducible first | refine W_seq ?_ | refine W_condT rfl ?_ | refine W_condF rfl ?_ | refine W_tf rfl (fun h => ?_) (fun h => ?_) | refine W_block ?_ | refine endQ_ret ?_ | refine endQ_normal ?_)
        | ((with_reducible first | refine hK _ ?_ | refine hK _ _ ?_); clear hK K)
        | ((first | (with_reducible first | refine ops_cons (fun K hK => ?_) | refine opsd_cons (fun K hK => ?_) | refine ops_nil ?_ | refine fit_i64 (by omega) ?_ | refine fit_any ?_) | ((with_reducible refine opsd_nil ?_); refine And.intro (by kernel_rfl) ?_) | with_reducible refine callV_snap ?_ | ((with_reducible refine call_go CkS Ck_ok ?_); refine ⟨(by first | exact alOk_nil _ | exact alOk_f rfl), _, _, Ck_at , ?_⟩) | ((with_reducible refine call_go prcS prc_ok ?_); refine ⟨(by first | exact alOk_nil _ | exact alOk_f rfl), _, _, prc_at p, ?_⟩) | ((with_reducible refine call_go prcS prc_ok ?_); refine ⟨(by first | exact alOk_nil _ | exact alOk_f rfl), _, _, prc_at q, ?_⟩) | (with_reducible first | refine idx_map (by omega) ?_ | refine W_reg lv46FlAD ?_ | refine W_drw lv46FlAD (by kernel_rfl) ?_ | refine W_skip ?_ | refine W_exit ?_ | refine W_ret ?_ | refine end_at0 ?_) | (with_reducible refine And.intro (fun h => ?_) (fun h => ?_)) | (with_reducible refine And.intro (by omega) ?_)); (try simp only [go_sem, seval, reduceCtorEq, d1, d2, lv46FlAD, Try.ntmps46, Try.results46, FrkS]))
        | fail)
    have d2 := decide_eq_true hq
    rw [if_neg (fun h => h ⟨hp, hq⟩)] at hR
    obtain ⟨a1, a2⟩ := hp
    obtain ⟨b1, b2⟩ := hq
    obtain ⟨k, rfl⟩ : ∃ k : Nat, p = (k : Int) + 1 := ⟨(p - 1).toNat, by omega⟩
    obtain ⟨j, rfl⟩ : ∃ j : Nat, q = (j : Int) + 1 := ⟨(q - 1).toNat, by omega⟩
    have hka : k < al.length := by omega
    have hja : j < al.length := by omega
    have hp1 : (k : Int) + 1 - 1 = (k : Int) := by omega
    have hp2 : (j : Int) + 1 - 1 = (j : Int) := by omega
    have hv : alv al ((k : Int) + 1) = al[k] := by unfold alv; rw [hp1]; simp [hka]
    have hw : alv al ((j : Int) + 1) = al[j] := by unfold alv; rw [hp2]; simp [hja]
    rw [hv, hw] at hR
    cases hb : al[k] with
    | false =>
      have ea : encDB al[k] = [.bool false] := by rw [hb]; rfl
      rw [hb, if_pos rfl] at hR
      subst hR
      repeat' (first
        | (with_reducible first | refine W_seq ?_ | refine W_condT rfl ?_ | refine W_condF rfl ?_ | refine W_tf rfl (fun h => ?_) (fun h => ?_) | refine W_block ?_ | refine endQ_ret ?_ | refine endQ_normal ?_)
        | ((with_reducible first | refine hK _ ?_ | refine hK _ _ ?_); clear hK K)
        | ((first | (with_reducible first | refine ops_cons (fun K hK => ?_) | refine opsd_cons (fun K hK => ?_) | refine ops_nil ?_ | refine fit_i64 (by omega) ?_ | refine fit_any ?_) | ((with_reducible refine opsd_nil ?_); refine And.intro (by kernel_rfl) ?_) | with_reducible refine callV_snap ?_ | ((with_reducible refine call_go CkS Ck_ok ?_); refine ⟨(by first | exact alOk_nil _ | exact alOk_f rfl), _, _, Ck_at , ?_⟩) | ((with_reducible refine call_go prcS prc_ok ?_); refine ⟨(by first | exact alOk_nil _ | exact alOk_f rfl), _, _, prc_at _, ?_⟩) | ((with_reducible refine call_go prcS prc_ok ?_); refine ⟨(by first | exact alOk_nil _ | exact alOk_f rfl), _, _, prc_at _, ?_⟩) | (with_reducible first | refine idx_map (by omega) ?_ | refine W_reg lv46FlAD ?_ | refine W_drw lv46FlAD (by kernel_rfl) ?_ | refine W_skip ?_ | refine W_exit ?_ | refine W_ret ?_ | refine end_at0 ?_) | (with_reducible refine And.intro (fun h => ?_) (fun h => ?_)) | (with_reducible refine And.intro (by omega) ?_)); (try simp only [go_sem, seval, reduceCtorEq, d1, d2, hp1, ea, lv46FlAD, Try.ntmps46, Try.results46, FrkS]))
        | fail)
    | true =>
      have ea : encDB al[k] = [.bool true] := by rw [hb]; rfl
      rw [hb, if_neg (by decide)] at hR
      by_cases hkj : (k : Int) + 1 = (j : Int) + 1
      · rw [if_pos hkj] at hR
        subst hR
        have hkj' : k = j := by omega
        subst hkj'
        repeat' (first
          | (with_reducible first | refine W_seq ?_ | refine W_condT rfl ?_ | refine W_condF rfl ?_ | refine W_tf rfl (fun h => ?_) (fun h => ?_) | refine W_block ?_ | refine endQ_ret ?_ | refine endQ_normal ?_)
          | ((with_reducible first | refine hK _ ?_ | refine hK _ _ ?_); clear hK K)
          | ((first | (with_reducible first | refine ops_cons (fun K hK => ?_) | refine opsd_cons (fun K hK => ?_) | refine ops_nil ?_ | refine fit_i64 (by omega) ?_ | refine fit_any ?_) | ((with_reducible refine opsd_nil ?_); refine And.intro (by kernel_rfl) ?_) | with_reducible refine callV_snap ?_ | ((with_reducible refine call_go CkS Ck_ok ?_); refine ⟨(by first | exact alOk_nil _ | exact alOk_f rfl), _, _, Ck_at , ?_⟩) | ((with_reducible refine call_go prcS prc_ok ?_); refine ⟨(by first | exact alOk_nil _ | exact alOk_f rfl), _, _, prc_at _, ?_⟩) | ((with_reducible refine call_go prcS prc_ok ?_); refine ⟨(by first | exact alOk_nil _ | exact alOk_f rfl), _, _, prc_at _, ?_⟩) | (with_reducible first | refine idx_map (by omega) ?_ | refine W_reg lv46FlAD ?_ | refine W_drw lv46FlAD (by kernel_rfl) ?_ | refine W_skip ?_ | refine W_exit ?_ | refine W_ret ?_ | refine end_at0 ?_) | (with_reducible refine And.intro (fun h => ?_) (fun h => ?_)) | (with_reducible refine And.intro (by omega) ?_)); (try simp only [go_sem, seval, reduceCtorEq, d1, d2, hp1, ea, lv46FlAD, Try.ntmps46, Try.results46, FrkS]))
          | fail)
      · rw [if_neg hkj] at hR
        cases hc : al[j] with
        | false => rw [hc, if_neg (by decide)] at hR; exact absurd hR.symm he
        | true =>
          have eb : encDB al[j] = [.bool true] := by rw [hc]; rfl
          rw [hc, if_pos rfl] at hR
          subst hR
          repeat' (first
            | (with_reducible first | refine W_seq ?_ | refine W_condT rfl ?_ | refine W_condF rfl ?_ | refine W_tf rfl (fun h => ?_) (fun h => ?_) | refine W_block ?_ | refine endQ_ret ?_ | refine endQ_normal ?_)
            | ((with_reducible first | refine hK _ ?_ | refine hK _ _ ?_); clear hK K)
            | ((first | (with_reducible first | refine ops_cons (fun K hK => ?_) | refine opsd_cons (fun K hK => ?_) | refine ops_nil ?_ | refine fit_i64 (by omega) ?_ | refine fit_any ?_) | ((with_reducible refine opsd_nil ?_); refine And.intro (by kernel_rfl) ?_) | with_reducible refine callV_snap ?_ | ((with_reducible refine call_go CkS Ck_ok ?_); refine ⟨(by first | exact alOk_nil _ | exact alOk_f rfl), _, _, Ck_at , ?_⟩) | ((with_reducible refine call_go prcS prc_ok ?_); refine ⟨(by first | exact alOk_nil _ | exact alOk_f rfl), _, _, prc_at _, ?_⟩) | ((with_reducible refine call_go prcS prc_ok ?_); refine ⟨(by first | exact alOk_nil _ | exact alOk_f rfl), _, _, prc_at _, ?_⟩) | (with_reducible first | refine idx_map (by omega) ?_ | refine W_reg lv46FlAD ?_ | refine W_drw lv46FlAD (by kernel_rfl) ?_ | refine W_skip ?_ | refine W_exit ?_ | refine W_ret ?_ | refine end_at0 ?_) | (with_reducible refine And.intro (fun h => ?_) (fun h => ?_)) | (with_reducible refine And.intro (by omega) ?_)); (try simp only [go_sem, seval, reduceCtorEq, d1, d2, hp1, hp2, ea, eb, hkj, lv46FlAD, Try.ntmps46, Try.results46, FrkS]))
            | fail)
  · obtain ⟨g0, hp, hq, hap, hne, haq⟩ := frk_zero h0
    obtain ⟨l1, l2⟩ := flchk_len g0
    have L0 := Ck_at al mp cs hu (by omega) (by omega) (by omega)
    rw [g0] at L0
    have Ck_at : CkS.rel [fm al mp cs] [] (iv 0) [] := L0
    have d1 := decide_eq_true hp
    have d2 := decide_eq_true hq
    have hnc := dead_cells g0 hq haq
    obtain ⟨a1, a2⟩ := hp
    obtain ⟨b1, b2⟩ := hq
    have hka : k < al.length := by omega
    have hja : j < al.length := by omega
    have hkm : k < mp.length := by omega
    have hjm : j < mp.length := by omega
    have hp1 : (k : Int) + 1 - 1 = (k : Int) := by omega
    have hp2 : (j : Int) + 1 - 1 = (j : Int) := by omega
    have hv : alv al ((k : Int) + 1) = al[k] := by unfold alv; rw [hp1]; simp [hka]
    have hw : alv al ((j : Int) + 1) = al[j] := by unfold alv; rw [hp2]; simp [hja]
    have ea : encDB al[k] = [.bool true] := by rw [← hv, hap]; rfl
    have eb : encDB al[j] = [.bool false] := by rw [← hw, haq]; rfl
    have eu : encU mp[k] = [.int .u64 (mp[k] : Int)] := rfl
    have eu2 : encU mp[j] = [.int .u64 (mp[j] : Int)] := rfl
    have hsr := flchk_srt g0
    have hM0 := mok_zip hsr
    have hmk : mp[k]?.getD 0 = mp[k] := by simp [hkm]
    rw [hmk]
    have hset : ((al.map encDB).set j [.bool true]) = (al.set j true).map encDB := by rw [List.map_set]; rfl
    have hset2 : ((mp.map encU).set j [.int .u64 (mp[k] : Int)]) = (mp.set j mp[k]).map encU := by rw [List.map_set]; rfl
    have hjk : ¬ (k : Int) = (j : Int) := by omega
    repeat' (first
      | (with_reducible first | refine W_seq ?_ | refine W_condT rfl ?_ | refine W_condF rfl ?_ | refine W_tf rfl (fun h => ?_) (fun h => ?_) | refine W_block ?_ | refine endQ_ret ?_ | refine endQ_normal ?_)
      | ((with_reducible first | refine hK _ ?_ | refine hK _ _ ?_); clear hK K)
      | ((with_reducible refine idx_map2 hja ?_); simp only [go_sem, seval, reduceCtorEq, encDB_len, eb, hset])
      | ((with_reducible refine idx_map2 hkm ?_); simp only [go_sem, seval, reduceCtorEq, encU_len, eu])
      | ((with_reducible refine idx_map2 hjm ?_); simp only [go_sem, seval, reduceCtorEq, encU_len, hset2])
      | ((refine ext_mrange rfl ?_ rfl rfl ?_) <;> simp only [go_sem, seval, reduceCtorEq])
      | ((first | (with_reducible first | refine ops_cons (fun K hK => ?_) | refine opsd_cons (fun K hK => ?_) | refine ops_nil ?_ | refine fit_i64 (by omega) ?_ | refine fit_any ?_) | ((with_reducible refine opsd_nil ?_); refine And.intro (by kernel_rfl) ?_) | ((with_reducible refine callV_lend mclS [4] mcl_ok rfl ?_); simp only [go_sem, seval, reduceCtorEq, d1, d2, hp1, hp2, ea, eb, eu, eu2, List.drop_succ_cons, List.drop_zero, hne, hset, hset2, hjk, lv46FlAD]; refine ⟨(by first | exact alOk_nil _ | exact alOk_f rfl), rfl, _, _, mcl_at cs.zipIdx cs.length, ?_⟩) | with_reducible refine callV_snap ?_ | ((with_reducible refine call_go CkS Ck_ok ?_); refine ⟨(by first | exact alOk_nil _ | exact alOk_f rfl), _, _, Ck_at , ?_⟩) | ((with_reducible refine call_go prcS prc_ok ?_); refine ⟨(by first | exact alOk_nil _ | exact alOk_f rfl), _, _, prc_at _, ?_⟩) | ((with_reducible refine call_go prcS prc_ok ?_); refine ⟨(by first | exact alOk_nil _ | exact alOk_f rfl), _, _, prc_at _, ?_⟩) | ((with_reducible refine call_go openS open_ok ?_); refine ⟨(by first | exact alOk_nil _ | exact alOk_f rfl), _, _, open_at al mp cs (by omega) (by omega) (by omega) hsr, ?_⟩) | (with_reducible first | refine idx_map (by omega) ?_ | refine W_reg lv46FlAD ?_ | refine W_drw lv46FlAD (by kernel_rfl) ?_ | refine W_skip ?_ | refine W_exit ?_ | refine W_ret ?_ | refine end_at0 ?_) | (with_reducible refine And.intro (fun h => ?_) (fun h => ?_)) | (with_reducible refine And.intro (by omega) ?_)); (try simp only [go_sem, seval, reduceCtorEq, d1, d2, hp1, hp2, ea, eb, eu, eu2, List.drop_succ_cons, List.drop_zero, hne, hset, hset2, hjk, lv46FlAD, mclS, Try.ntmps46, Try.results46, FrkS]))
      | fail)
    generalize hal : al.set j true = al' at *
    generalize hmp : mp.set j mp[k] = mp' at *
    obtain ⟨f1, f2⟩ := fork_srt hsr (p := (k : Int) + 1) hnc
    refine W_loop (fun X : List Nat × List Me × Nat => ⟨[(1, iv ((k : Int) + 1)), (2, iv ((j : Int) + 1)), (6, .ptr 1 0), (9, .ptr 5 0), (10, .mp 6), (74, .ptr 7 0)], [some (.box 40 [.d (.sl (al.map encDB)), .d (.sl (mp.map encU)), .d (.sl (cs.map encCl))]), some (.box 40 [.nil, .nil, .nil]), some (.rows 4 1 (al'.map encDB)), some (.rows 22 1 (mp'.map encU)), some (mpO cs.zipIdx cs.length), some (.box 81 [.row 2 1 0 al.length, .row 3 1 0 mp.length, .mp 4]), some (mpO X.2.1 X.2.2), some (.iter 4 cs.length X.1 cs.length)]⟩) (fun X => Mok X.2.1 X.2.2 ∧ (X.2.1.map (·.1)).Perm (cs ++ cops cs.zipIdx ((k : Int) + 1) ((j : Int) + 1) X.1)) (fun X => unsn cs.zipIdx X.1) ([], cs.zipIdx, cs.length) ⟨hM0, by rw [zip_fst, cops_nil, List.append_nil]⟩ [0, 1, 2, 3, 4, 5, 6, 7] ?_ ?_
    · simp [go_sem]
    rintro ⟨seen, L, ck⟩ ⟨iM, iP⟩
    dsimp only at iM iP ⊢
    have hle : L.length ≤ 2 * cs.length := by
      have e := iP.length_eq
      simp only [List.length_map, List.length_append, cops] at e
      have := List.length_filter_le (fun x : Me => decide (x.2 ∈ seen) && decide (x.1.1 = (k : Int) + 1)) cs.zipIdx
      simp only [List.length_zipIdx] at this
      omega
    refine W_seq ?_
    refine W_next [(17, [1, 2, 6, 9, 10, 74, 76])] rfl rfl rfl ?_ rfl rfl rfl ?_ hM0.lt (Nat.le_refl _) (fun hov => ?_) (fun x hx => ?_)
    · simp only [go_sem, seval, reduceCtorEq]
    · simp only [go_sem, seval, reduceCtorEq]
    · rw [cops_all hov, zip_fst] at iP
      have shut_at := shut_at2 al' mp' L ck (forkC cs ((k : Int) + 1) ((j : Int) + 1)) al.length mp.length (by simp [← hal]) (by simp [← hmp]) (by omega) iM (f2.trans iP.symm) f1
      repeat' (first
        | (with_reducible first | refine W_seq ?_ | refine W_condT rfl ?_ | refine W_condF rfl ?_ | refine W_tf rfl (fun h => ?_) (fun h => ?_) | refine W_block ?_ | refine endQ_ret ?_ | refine endQ_normal ?_)
        | ((with_reducible first | refine hK _ ?_ | refine hK _ _ ?_); clear hK K)
        | ((first | (with_reducible first | refine ops_cons (fun K hK => ?_) | refine opsd_cons (fun K hK => ?_) | refine ops_nil ?_ | refine fit_i64 (by omega) ?_ | refine fit_any ?_) | ((with_reducible refine opsd_nil ?_); refine And.intro (by kernel_rfl) ?_) | ((with_reducible refine callV_lend shutS [2,3,6] shut_ok rfl ?_); simp only [go_sem, seval, reduceCtorEq, decide_true, Bool.and_self, lv46FlAD]; refine ⟨(by first | exact alOk_nil _ | exact alOk_f rfl), rfl, _, _, shut_at , ?_⟩) | with_reducible refine callV_snap ?_ | (with_reducible first | refine idx_map (by omega) ?_ | refine W_reg lv46FlAD ?_ | refine W_drw lv46FlAD (by kernel_rfl) ?_ | refine W_skip ?_ | refine W_exit ?_ | refine end_at0 ?_) | (with_reducible refine And.intro (fun h => ?_) (fun h => ?_)) | (with_reducible refine And.intro (by omega) ?_)); (try simp only [go_sem, seval, reduceCtorEq, decide_true, Bool.and_self, lv46FlAD, shutS, Try.ntmps46, Try.results46, FrkS]))
        | fail)
      refine W_ret (endQ_ret (end_at [2, 3, 8] ?_))
      simp [go_sem, Try.results46, FrkS]
      exact ⟨by simp [← hal], by simp [← hmp]⟩
    · obtain ⟨hx1, hx2⟩ := hx
      have hms := unsn_lt hx1 hx2
      have hxc : x.1 ∈ cs := by
        have := List.mem_map_of_mem (f := fun x : Me => x.1) hx1
        rwa [zip_fst] at this
      by_cases hb : x.1.1 = (k : Int) + 1
      · have hy := cops_yes hM0 (p := (k : Int) + 1) (q := (j : Int) + 1) hx1 hx2 hb
        obtain ⟨m1, m2, m3⟩ := mput_ok iM (cpC ((j : Int) + 1) x.1)
        have hid : rmK (L.map (·.1)) (ck3 (cpC ((j : Int) + 1) x.1)) = L.map (·.1) := rmK_id fun c hc e => by
          rcases List.mem_append.1 (iP.mem_iff.1 hc) with hc | hc
          · exact hnc c hc (congrArg (·.1) e)
          · obtain ⟨y, hy1, rfl⟩ := List.mem_map.1 hc
            obtain ⟨y1, y2⟩ := List.mem_filter.1 hy1
            simp only [Bool.and_eq_true, decide_eq_true_eq] at y2
            simp only [ck3, cpC, Prod.mk.injEq] at e
            have : y = x := nodup_inj hM0.kn y1 hx1 (by simp only [ck3, Prod.mk.injEq]; exact ⟨y2.2.trans hb.symm, e.2.1, e.2.2⟩)
            rw [this] at y2
            exact hx2 y2.1
        rw [hid] at m2
        generalize hL : mput L ck (cpC ((j : Int) + 1) x.1) = LL at *
        obtain ⟨L1, ck1⟩ := LL
        dsimp only at m1 m2 m3
        unfold cpC at hL
        repeat' (first
          | (with_reducible first | refine W_seq ?_ | refine W_condT rfl ?_ | refine W_condF rfl ?_ | refine W_tf rfl (fun h => ?_) (fun h => ?_) | refine W_block ?_ | refine endQ_ret ?_ | refine endQ_normal ?_)
          | ((with_reducible first | refine hK _ ?_ | refine hK _ _ ?_); clear hK K)
          | ((refine ext_mentry rfl ?_ rfl rfl rfl hx1 hM0.sn ?_) <;> simp only [go_sem, seval, reduceCtorEq])
          | ((refine ext_mput ((j : Int) + 1, x.1.2.1, x.1.2.2.1, x.1.2.2.2) rfl rfl rfl rfl rfl rfl ?_); simp only [go_sem, seval, reduceCtorEq, hL])
          | ((first | (with_reducible first | refine ops_cons (fun K hK => ?_) | refine opsd_cons (fun K hK => ?_) | refine ops_nil ?_ | refine fit_i64 (by omega) ?_ | refine fit_any ?_) | ((with_reducible refine opsd_nil ?_); refine And.intro (by kernel_rfl) ?_) | with_reducible refine callV_snap ?_ | (with_reducible first | refine idx_map (by omega) ?_ | refine W_reg lv46FlAD ?_ | refine W_drw lv46FlAD (by kernel_rfl) ?_ | refine W_skip ?_ | refine W_exit ?_ | refine W_ret ?_ | refine end_at0 ?_) | (with_reducible refine And.intro (fun h => ?_) (fun h => ?_)) | (with_reducible refine And.intro (by omega) ?_)); (try simp only [go_sem, seval, reduceCtorEq, hb, lv46FlAD, Try.ntmps46, Try.results46, FrkS]))
          | fail)
        refine ⟨(seen ++ [x.2], L1, ck1), [0, 1, 2, 3, 4, 5, 6, 7], ⟨m1, m2.trans ((iP.cons _).trans ?_)⟩, hms, ?_⟩
        · exact (List.perm_middle (l₁ := cs)).symm.trans (hy.symm.append_left cs)
        · simp [go_sem]
      · have hn := cops_no hM0 (p := (k : Int) + 1) (q := (j : Int) + 1) (seen := seen) hx1 hb
        repeat' (first
          | (with_reducible first | refine W_seq ?_ | refine W_condT rfl ?_ | refine W_condF rfl ?_ | refine W_tf rfl (fun h => ?_) (fun h => ?_) | refine W_block ?_ | refine endQ_ret ?_ | refine endQ_normal ?_)
          | ((with_reducible first | refine hK _ ?_ | refine hK _ _ ?_); clear hK K)
          | ((refine ext_mentry rfl ?_ rfl rfl rfl hx1 hM0.sn ?_) <;> simp only [go_sem, seval, reduceCtorEq])
          | ((first | (with_reducible first | refine ops_cons (fun K hK => ?_) | refine opsd_cons (fun K hK => ?_) | refine ops_nil ?_ | refine fit_i64 (by omega) ?_ | refine fit_any ?_) | ((with_reducible refine opsd_nil ?_); refine And.intro (by kernel_rfl) ?_) | with_reducible refine callV_snap ?_ | (with_reducible first | refine idx_map (by omega) ?_ | refine W_reg lv46FlAD ?_ | refine W_drw lv46FlAD (by kernel_rfl) ?_ | refine W_skip ?_ | refine W_exit ?_ | refine W_ret ?_ | refine end_at0 ?_) | (with_reducible refine And.intro (fun h => ?_) (fun h => ?_)) | (with_reducible refine And.intro (by omega) ?_)); (try simp only [go_sem, seval, reduceCtorEq, hb, lv46FlAD, Try.ntmps46, Try.results46, FrkS]))
          | fail)
        refine ⟨(seen ++ [x.2], L, ck), [0, 1, 2, 3, 4, 5, 6, 7], ⟨iM, by rw [hn]; exact iP⟩, hms, ?_⟩
        simp [go_sem]
end Go.Proofs.Ytnclclpfmldocaa
