import Derived.Test.YtacfipmigkbncaaBdS

/- The specification's Total, Most, Is, Counts, Alloc; buddy.Counts and buddy.New; by the engine. -/
namespace Go.Proofs.Ytacfipmigkbncaa
open Go.RowKit
set_option maxRecDepth 100000
set_option linter.unusedSimpArgs false
set_option linter.unusedVariables false

abbrev lv42BdU : List (Nat × List Nat) := [(0, [1, 2, 4]), (1, [1, 2, 4, 7]), (2, [1, 2, 4, 7, 16]), (3, [4, 5, 6]), (4, [1, 2, 4, 8]), (5, [1, 2, 4, 8, 9]), (6, [1, 2, 4, 8, 9, 23]), (7, [1, 2, 4, 8, 9]), (8, [1, 2, 4, 8, 9, 52]), (9, [1, 2, 4, 8, 9]), (10, [1, 2, 4, 8, 55]), (11, [4, 5, 6]), (12, [1, 2, 4, 10]), (13, [4, 7, 10, 11]), (14, [4, 5, 6])]
abbrev lv59BdU : List (Nat × List Nat) := [(0, [1, 2]), (1, [1, 2, 6]), (2, [1, 2, 6, 14]), (3, [4, 5]), (4, [1, 2, 23]), (5, [4, 5]), (6, [4, 5])]
abbrev lv61BdU : List (Nat × List Nat) := [(0, [1]), (1, [1, 4]), (2, [1, 4, 14]), (3, [2, 3]), (4, [1, 6]), (5, [1, 6, 7]), (6, [1, 6, 7, 20]), (7, [1, 6, 7]), (8, [1, 6, 7]), (9, [2, 3])]
abbrev rCheckWS : Spec := CheckS
theorem rCheckW_ok : Ok Try.prog 52 rCheckWS := rCheck_ok
theorem rCheckW_at (N : Nat) (m : List Bl) (h : Vz N m) : rCheckWS.rel [.agg [iv N, dN m]] [] (.tup [iv 0, iv 0]) [] := CheckW_at N m h
def zbox (N : Nat) (m : List Bl) : Option Ob := some (.box 59 [iv N, dN m])

def TotS : Spec := { rel := fun args ins res outs => (∃ (n : Int) (l : List Bi), l.length ≤ 1000000 ∧ (zchk n l).1 ≠ 0 ∧ args = [zv n l] ∧ ins = [] ∧ res = .tup [iv 0, iv (zchk n l).1] ∧ outs = []) ∨
  ∃ (N : Nat) (m : List Bl), Vz N m ∧ args = [.agg [iv N, dN m]] ∧ ins = [] ∧ res = .tup [iv (tot m), iv 0] ∧ outs = [] }
theorem TotN_at (n : Int) (l : List Bi) (h : l.length ≤ 1000000) (hc : (zchk n l).1 ≠ 0) : TotS.rel [zv n l] [] (.tup [iv 0, iv (zchk n l).1]) [] := .inl ⟨n, l, h, hc, rfl, rfl, rfl, rfl⟩
theorem Tot_at (N : Nat) (m : List Bl) (h : Vz N m) : TotS.rel [.agg [iv N, dN m]] [] (.tup [iv (tot m), iv 0]) [] := .inr ⟨N, m, h, rfl, rfl, rfl, rfl⟩
theorem Tot_ok : Ok Try.prog 60 TotS := by
  refine ⟨Total_ok.1, fun args ins res outs hrel => Total_ok.2 args ins res outs ?_⟩
  rcases hrel with ⟨n, l, h, hc, rfl, rfl, rfl, rfl⟩ | ⟨N, m, h, rfl, rfl, rfl, rfl⟩
  · exact TotalN_at n l h hc
  · exact Total_at N m h.v h.c1
set_option maxHeartbeats 2000000 in
theorem rTot_ok : Ok Try.prog 61 TotS := by
  refine fn_ok TotS Try.func61 rfl rfl ?_
  rintro args ins res outs (⟨n, l, hl, hc, rfl, rfl, rfl, rfl⟩ | ⟨N, m, hv, rfl, rfl, rfl, rfl⟩)
  all_goals refine ⟨by simp [Try.ntmps61], fun w0 V Bo mu0 => ?_⟩
  · skip
    repeat' (first
      | (with_reducible first | refine W_seq ?_ | refine W_condT rfl ?_ | refine W_condF rfl ?_ | refine W_tf rfl (fun h => ?_) (fun h => ?_) | refine W_block ?_ | refine endQ_ret ?_ | refine endQ_normal ?_)
      | ((with_reducible first | refine hK _ ?_ | refine hK _ _ ?_); clear hK K)
      | ((first | (with_reducible first | refine ops_cons (fun K hK => ?_) | refine ops_nil ?_ | refine fit_i64 (by omega) ?_ | refine fit_any ?_) | with_reducible refine callV_snap ?_ | ((with_reducible refine call_go rCheckS rCheck_ok ?_); refine ⟨(by first | exact alOk_nil _ | exact alOk_f rfl), _, _, rCheck_at _ _ hl, ?_⟩) | (with_reducible first | refine idx_map (by omega) ?_ | refine W_reg lv61BdU ?_ | refine W_skip ?_ | refine W_exit ?_ | refine W_ret ?_ | refine end_at0 ?_) | (with_reducible refine And.intro (fun h => ?_) (fun h => ?_)) | (with_reducible refine And.intro (by omega) ?_)); (try simp only [go_sem, seval, reduceCtorEq, hc, lv61BdU, Try.ntmps61, Try.results61, TotS]))
      | fail)
  · have hlen := hv.v.len
    have h6 : ∀ b ∈ m, b.2 ≤ 6 := fun b hb => (hv.v.bls.rng b hb).2
    repeat' (first
      | (with_reducible first | refine W_seq ?_ | refine W_condT rfl ?_ | refine W_condF rfl ?_ | refine W_tf rfl (fun h => ?_) (fun h => ?_) | refine W_block ?_ | refine endQ_ret ?_ | refine endQ_normal ?_)
      | ((with_reducible first | refine hK _ ?_ | refine hK _ _ ?_); clear hK K)
      | ((first | (with_reducible first | refine ops_cons (fun K hK => ?_) | refine ops_nil ?_ | refine fit_i64 (by omega) ?_ | refine fit_any ?_) | with_reducible refine callV_snap ?_ | ((with_reducible refine call_go rCheckWS rCheckW_ok ?_); refine ⟨(by first | exact alOk_nil _ | exact alOk_f rfl), _, _, rCheckW_at _ _ hv, ?_⟩) | (with_reducible first | refine idx_map (by omega) ?_ | refine W_reg lv61BdU ?_ | refine W_skip ?_ | refine W_exit ?_ | refine W_ret ?_ | refine end_at0 ?_) | (with_reducible refine And.intro (fun h => ?_) (fun h => ?_)) | (with_reducible refine And.intro (by omega) ?_)); (try simp only [go_sem, seval, reduceCtorEq, lv61BdU, Try.ntmps61, Try.results61, TotS]))
      | fail)
    refine W_loop (fun i : Nat => ⟨[(1, .ptr 0 0), (6, iv (totTo m i)), (7, iv i)], [some (.box 59 [iv N, dN m])]⟩) (fun i => i ≤ m.length) (fun i => m.length - i) 0 (Nat.zero_le _) [0] ?_ ?_
    · simp [go_sem, totTo]
    intro i hi
    have ht := totTo_le m h6 i hi
    by_cases hlt : i < m.length
    · have hki : (i : Int) < m.length := by omega
      have r2 := h6 _ (List.getElem_mem hlt)
      have hp := p64 _ r2
      have hst := totTo_step m i hlt
      repeat' (first
        | (with_reducible first | refine W_seq ?_ | refine W_condT rfl ?_ | refine W_condF rfl ?_ | refine W_tf rfl (fun h => ?_) (fun h => ?_) | refine W_block ?_ | refine endQ_ret ?_ | refine endQ_normal ?_)
        | ((with_reducible first | refine hK _ ?_ | refine hK _ _ ?_); clear hK K)
        | ((first | (with_reducible first | refine ops_cons (fun K hK => ?_) | refine ops_nil ?_ | refine fit_i64 (by omega) ?_ | refine fit_any ?_) | with_reducible refine callV_snap ?_ | ((with_reducible refine call_go nsizeS nsize_ok ?_); refine ⟨(by first | exact alOk_nil _ | exact alOk_f rfl), _, _, nsize_at _ r2, ?_⟩) | (with_reducible first | refine idx_map (by omega) ?_ | refine W_reg lv61BdU ?_ | refine W_skip ?_ | refine W_exit ?_ | refine W_ret ?_ | refine end_at0 ?_) | (with_reducible refine And.intro (fun h => ?_) (fun h => ?_)) | (with_reducible refine And.intro (by omega) ?_)); (try simp only [go_sem, seval, reduceCtorEq, hki, encN, lv61BdU, Try.ntmps61, Try.results61, TotS]))
        | fail)
      refine ⟨i + 1, [0], by omega, by omega, ?_⟩
      simp [go_sem, hst]
    · have hki : ¬ (i : Int) < m.length := by omega
      obtain rfl : i = m.length := by omega
      have e : totTo m m.length = tot m := rfl
      repeat' (first
        | (with_reducible first | refine W_seq ?_ | refine W_condT rfl ?_ | refine W_condF rfl ?_ | refine W_tf rfl (fun h => ?_) (fun h => ?_) | refine W_block ?_ | refine endQ_ret ?_ | refine endQ_normal ?_)
        | ((with_reducible first | refine hK _ ?_ | refine hK _ _ ?_); clear hK K)
        | ((first | (with_reducible first | refine ops_cons (fun K hK => ?_) | refine ops_nil ?_ | refine fit_i64 (by omega) ?_ | refine fit_any ?_) | with_reducible refine callV_snap ?_ | (with_reducible first | refine idx_map (by omega) ?_ | refine W_reg lv61BdU ?_ | refine W_skip ?_ | refine W_exit ?_ | refine W_ret ?_ | refine end_at0 ?_) | (with_reducible refine And.intro (fun h => ?_) (fun h => ?_)) | (with_reducible refine And.intro (by omega) ?_)); (try simp only [go_sem, seval, reduceCtorEq, hki, e, lv61BdU, Try.ntmps61, Try.results61, TotS]))
        | fail)


set_option maxHeartbeats 2000000 in
theorem rIs_ok : Ok Try.prog 59 IsS := by
  refine fn_ok IsS Try.func59 rfl rfl ?_
  rintro args ins res outs (⟨n, l, a, hl, hc, rfl, rfl, rfl, rfl⟩ | ⟨N, m, a, hv, ha, rfl, rfl, rfl, rfl⟩)
  all_goals refine ⟨by simp [Try.ntmps59], fun w0 V Bo mu0 => ?_⟩
  · by_cases h1 : (zchk n l).1 = 0
    · have h2 : a < 0 ∨ n ≤ a := by
        unfold isE at hc
        rw [if_neg (by simpa using h1)] at hc
        split at hc
        · assumption
        · exact absurd rfl hc
      have e : isE n l a = 2 := by unfold isE; rw [if_neg (by simpa using h1), if_pos h2]
      rw [e]
      by_cases h3 : a < 0
      · skip
        repeat' (first
          | (with_reducible first | refine W_seq ?_ | refine W_condT rfl ?_ | refine W_condF rfl ?_ | refine W_tf rfl (fun h => ?_) (fun h => ?_) | refine endQ_ret ?_ | refine endQ_normal ?_)
          | ((with_reducible first | refine hK _ ?_ | refine hK _ _ ?_); clear hK K)
          | ((first | (with_reducible first | refine ops_cons (fun K hK => ?_) | refine ops_nil ?_) | with_reducible refine callV_snap ?_ | ((with_reducible refine call_go rCheckS rCheck_ok ?_); refine ⟨(by first | exact alOk_nil _ | exact alOk_f rfl), _, _, rCheck_at _ _ hl, ?_⟩) | (with_reducible first | refine idx_map (by omega) ?_ | refine W_reg lv59BdU ?_ | refine W_skip ?_ | refine W_ret ?_ | refine end_at0 ?_) | (with_reducible refine And.intro (fun h => ?_) (fun h => ?_)) | (with_reducible refine And.intro (by omega) ?_)); (try simp only [go_sem, seval, reduceCtorEq, h1, h3, lv59BdU, Try.ntmps59, Try.results59, IsS]))
          | fail)
      · have h4 : n ≤ a := by omega
        repeat' (first
          | (with_reducible first | refine W_seq ?_ | refine W_condT rfl ?_ | refine W_condF rfl ?_ | refine W_tf rfl (fun h => ?_) (fun h => ?_) | refine endQ_ret ?_ | refine endQ_normal ?_)
          | ((with_reducible first | refine hK _ ?_ | refine hK _ _ ?_); clear hK K)
          | ((first | (with_reducible first | refine ops_cons (fun K hK => ?_) | refine ops_nil ?_) | with_reducible refine callV_snap ?_ | ((with_reducible refine call_go rCheckS rCheck_ok ?_); refine ⟨(by first | exact alOk_nil _ | exact alOk_f rfl), _, _, rCheck_at _ _ hl, ?_⟩) | (with_reducible first | refine idx_map (by omega) ?_ | refine W_reg lv59BdU ?_ | refine W_skip ?_ | refine W_ret ?_ | refine end_at0 ?_) | (with_reducible refine And.intro (fun h => ?_) (fun h => ?_)) | (with_reducible refine And.intro (by omega) ?_)); (try simp only [go_sem, seval, reduceCtorEq, h1, h3, h4, lv59BdU, Try.ntmps59, Try.results59, IsS]))
          | fail)
    · have e : isE n l a = (zchk n l).1 := by unfold isE; rw [if_pos h1]
      rw [e]
      repeat' (first
        | (with_reducible first | refine W_seq ?_ | refine W_condT rfl ?_ | refine W_condF rfl ?_ | refine W_tf rfl (fun h => ?_) (fun h => ?_) | refine endQ_ret ?_ | refine endQ_normal ?_)
        | ((with_reducible first | refine hK _ ?_ | refine hK _ _ ?_); clear hK K)
        | ((first | (with_reducible first | refine ops_cons (fun K hK => ?_) | refine ops_nil ?_) | with_reducible refine callV_snap ?_ | ((with_reducible refine call_go rCheckS rCheck_ok ?_); refine ⟨(by first | exact alOk_nil _ | exact alOk_f rfl), _, _, rCheck_at _ _ hl, ?_⟩) | (with_reducible first | refine idx_map (by omega) ?_ | refine W_reg lv59BdU ?_ | refine W_skip ?_ | refine W_ret ?_ | refine end_at0 ?_) | (with_reducible refine And.intro (fun h => ?_) (fun h => ?_)) | (with_reducible refine And.intro (by omega) ?_)); (try simp only [go_sem, seval, reduceCtorEq, h1, lv59BdU, Try.ntmps59, Try.results59, IsS]))
        | fail)
  · have h1 : ¬ (a : Int) < 0 := by omega
    have h2 : ¬ (N : Int) ≤ a := by omega
    have hlb : a < (bl N (frM m)).length := by rw [bl_len]; exact ha
    have hai : (a : Int) < N := by omega
    have hb0 : encDB ((bl N (frM m))[a]) = [.bool (frM m a)] := by rw [bl_get]; rfl
    repeat' (first
      | (with_reducible first | refine W_seq ?_ | refine W_condT rfl ?_ | refine W_condF rfl ?_ | refine W_tf rfl (fun h => ?_) (fun h => ?_) | refine endQ_ret ?_ | refine endQ_normal ?_)
      | ((with_reducible first | refine hK _ ?_ | refine hK _ _ ?_); clear hK K)
      | ((first | (with_reducible first | refine ops_cons (fun K hK => ?_) | refine ops_nil ?_) | with_reducible refine callV_snap ?_ | ((with_reducible refine call_go rCheckWS rCheckW_ok ?_); refine ⟨(by first | exact alOk_nil _ | exact alOk_f rfl), _, _, rCheckW_at _ _ hv, ?_⟩) | ((with_reducible refine call_go rframesS rframes_ok ?_); refine ⟨(by first | exact alOk_nil _ | exact alOk_f rfl), _, _, rframes_at _ _ hv.v, ?_⟩) | (with_reducible first | refine idx_map (by omega) ?_ | refine W_reg lv59BdU ?_ | refine W_skip ?_ | refine W_ret ?_ | refine end_at0 ?_) | (with_reducible refine And.intro (fun h => ?_) (fun h => ?_)) | (with_reducible refine And.intro (by omega) ?_)); (try simp only [go_sem, seval, reduceCtorEq, h1, h2, hai, hb0, lv59BdU, Try.ntmps59, Try.results59, IsS]))
      | fail)

/-! ### numbers of blocks by order -/
def il (f : Nat → Nat) : List Int := (List.range 7).map fun k => (f k : Int)
theorem il_len (f : Nat → Nat) : (il f).length = 7 := by simp [il]
theorem il_get {f : Nat → Nat} {i : Nat} (h : i < (il f).length) : (il f)[i] = f i := by simp [il]
def upN (f : Nat → Nat) (i b j : Nat) : Nat := if j = i then b else f j
theorem il_set {f : Nat → Nat} {i b : Nat} (h : i < 7) : (il f).set i (b : Int) = il (upN f i b) := by
  apply List.ext_getElem?
  intro j
  rw [List.getElem?_set]
  simp only [il, List.length_map, List.length_range, List.getElem?_map]
  by_cases hj : i = j
  · subst hj; simp [h, upN]
  · rw [if_neg hj]
    by_cases hN : j < 7
    · simp [hN, upN, Ne.symm hj]
    · simp [hN]
theorem il_congr {f g : Nat → Nat} (h : ∀ i, i < 7 → f i = g i) : il f = il g := by
  unfold il
  exact List.map_congr_left (fun i hi => by rw [h i (List.mem_range.1 hi)])
theorem encDI_len (b : Int) : (encDI b).length = 1 := rfl
def cntTo (m : List Bl) (i k : Nat) : Nat := (m.take i).countP (fun b => b.2 == k)
def cnt (m : List Bl) (k : Nat) : Nat := m.countP (fun b => b.2 == k)
theorem cntTo_step (m : List Bl) (i k : Nat) (h : i < m.length) : cntTo m (i + 1) k = if k = (m[i]).2 then cntTo m i k + 1 else cntTo m i k := by
  unfold cntTo
  rw [take_get m i h, List.countP_append]
  by_cases e : k = (m[i]).2
  · rw [if_pos e]; simp [List.countP_cons, e]
  · rw [if_neg e]; simp [List.countP_cons, Ne.symm e]
theorem shv_cnt (m : List Bl) (k : Nat) : (shv m k).length = cnt m k := by
  have key : ∀ (l : List Bl) (L : Shf), ((l.foldl put L) k).length = (L k).length + l.countP (fun b => b.2 == k) := by
    intro l
    induction l with
    | nil => intro L; simp
    | cons b l ih =>
      intro L
      rw [List.foldl_cons, ih, List.countP_cons]
      unfold put upd
      by_cases e : k = b.2
      · rw [if_pos e, insS_len, ← e]; simp; omega
      · rw [if_neg e]; simp [Ne.symm e]
  have := key m (fun _ => [])
  simpa [shv, cnt] using this
def CountsS : Spec := { rel := fun args ins res outs => (∃ (n : Int) (l : List Bi), l.length ≤ 1000000 ∧ (zchk n l).1 ≠ 0 ∧ args = [zv n l] ∧ ins = [] ∧ res = .tup [.nil, iv (zchk n l).1] ∧ outs = []) ∨
  ∃ (N : Nat) (m : List Bl), Vz N m ∧ args = [.agg [iv N, dN m]] ∧ ins = [] ∧ res = .tup [.row 0 1 0 7, iv 0] ∧ outs = [.rows 3 1 ((il (cnt m)).map encDI)] }
end Go.Proofs.Ytacfipmigkbncaa

/- The specification's Alloc; buddy.New; buddy.Counts; by the engine. -/
namespace Go.Proofs.Ytacfipmigkbncaa
open Go.RowKit
set_option maxRecDepth 100000
set_option linter.unusedSimpArgs false
set_option linter.unusedVariables false

abbrev rTakeYS : Spec := TakeS
theorem rTakeY_ok : Ok Try.prog 68 rTakeYS := rTake_ok
theorem rTakeY_at (N : Nat) (m : List Bl) (w k : Nat) (h : Vb N m w k) (ha : Allfr m w k) : rTakeYS.rel [.agg [iv N, dN m], iv w, iv k] [] (.tup [.agg [iv N, .row 0 2 0 (bld N (frA m w k)).length], iv 0]) [.rows 87 2 ((bld N (frA m w k)).map encN)] := .inr (.inr ⟨N, m, w, k, h, ha, rfl, rfl, rfl, rfl⟩)
theorem Best.vb {N : Nat} {m : List Bl} {k : Nat} {b : Bl} (hv : Vz N m) (h : Best m k b) : Vb N m b.1 k ∧ Allfr m b.1 k := by
  obtain ⟨o1, o2, o3⟩ := hv.v.ok b h.mem
  have hle := Nat.pow_le_pow_right (n := 2) (by decide) h.le
  have hb : Vb N m b.1 k := ⟨hv, by have := h.le; dsimp only; omega, by dsimp only; omega, al_down o3 h.le⟩
  exact ⟨hb, (allfr_iff hb).2 ⟨b, h.mem, tkP_iff.2 ⟨Nat.le_refl _, by omega⟩⟩⟩
theorem Best.eq {m : List Bl} {k : Nat} {a b : Bl} (ha : Best m k a) (hb : Best m k b) : a = b := by
  have h1 := ha.ord b hb.mem hb.le
  have h2 := hb.ord a ha.mem ha.le
  have h3 : a.2 = b.2 := by omega
  have h4 := ha.fst b hb.mem h3.symm
  have h5 := hb.fst a ha.mem h3
  exact Prod.ext (by omega) h3
def qv : Option Nat → Int
  | none => -1
  | some p => (p : Int)
/-- the best block of the first i -/
def BestI (m : List Bl) (k i : Nat) : Option Nat → Prop
  | none => ∀ j (h : j < m.length), j < i → (m[j]).2 < k
  | some p => ∃ hp : p < m.length, p < i ∧ k ≤ (m[p]).2 ∧ (∀ j (h : j < m.length), j < i → k ≤ (m[j]).2 → (m[p]).2 ≤ (m[j]).2) ∧ (∀ j (h : j < m.length), j < p → k ≤ (m[j]).2 → (m[p]).2 < (m[j]).2)
theorem BestI.best {N : Nat} {m : List Bl} {k p : Nat} (hv : Vn N m) (h : BestI m k m.length (some p)) : ∃ hp : p < m.length, Best m k m[p] := by
  obtain ⟨hp, h1, h2, h3, h4⟩ := h
  refine ⟨hp, List.getElem_mem hp, h2, fun c hc hk => ?_, fun c hc he => ?_⟩
  · obtain ⟨j, hj, rfl⟩ := List.getElem_of_mem hc
    exact h3 j hj hj hk
  · obtain ⟨j, hj, rfl⟩ := List.getElem_of_mem hc
    have hasc := List.pairwise_iff_getElem.1 hv.asc
    rcases Nat.lt_trichotomy j p with hh | hh | hh
    · have := h4 j hj hh (by omega); omega
    · subst hh; exact Nat.le_refl _
    · have := hasc p j hp hj hh
      have := two_pos (m[p]).2
      omega
set_option maxHeartbeats 8000000 in
theorem rAlloc_ok : Ok Try.prog 42 AllocS := by
  refine fn_ok AllocS Try.func42 rfl rfl ?_
  intro args ins res outs hrel
  refine ⟨?_, ?_⟩
  · rcases hrel with ⟨n, l, k, hl, hc, rfl, rfl, rfl, rfl⟩ | ⟨N, m, k, hv, hk, hno, rfl, rfl, rfl, rfl⟩ | ⟨N, m, k, b, hv, hk, hb, rfl, rfl, rfl, rfl⟩ <;> simp [Try.ntmps42]
  intro w0 V Bo mu0
  rcases hrel with ⟨n, l, k, hl, hc, rfl, rfl, rfl, rfl⟩ | hrel
  · skip
    repeat' (first
      | (with_reducible first | refine W_seq ?_ | refine W_condT rfl ?_ | refine W_condF rfl ?_ | refine W_tf rfl (fun h => ?_) (fun h => ?_) | refine W_block ?_ | refine endQ_ret ?_ | refine endQ_normal ?_)
      | ((with_reducible first | refine hK _ ?_ | refine hK _ _ ?_); clear hK K)
      | ((first | (with_reducible first | refine ops_cons (fun K hK => ?_) | refine opsd_cons (fun K hK => ?_) | refine ops_nil ?_ | refine fit_i64 (by omega) ?_ | refine fit_any ?_) | ((with_reducible refine opsd_nil ?_); refine And.intro (by kernel_rfl) ?_) | with_reducible refine callV_snap ?_ | ((with_reducible refine call_go rasksS rasks_ok ?_); refine ⟨(by first | exact alOk_nil _ | exact alOk_f rfl), _, _, rasks_at _ _ _ hl, ?_⟩) | (with_reducible first | refine idx_map (by omega) ?_ | refine W_reg lv42BdU ?_ | refine W_drw lv42BdU (by kernel_rfl) ?_ | refine W_skip ?_ | refine W_exit ?_ | refine W_ret ?_ | refine end_at0 ?_) | (with_reducible refine And.intro (fun h => ?_) (fun h => ?_)) | (with_reducible refine And.intro (by omega) ?_)); (try simp only [go_sem, seval, reduceCtorEq, hc, lv42BdU, Try.ntmps42, Try.results42, AllocS]))
      | fail)
  have key : ∃ (N : Nat) (m : List Bl) (k : Nat), Vz N m ∧ k ≤ 6 ∧ args = [.agg [iv N, dN m], iv k] ∧ ins = [] ∧ ((∀ c ∈ m, c.2 < k) ∧ res = .tup [.agg [iv 0, .nil], iv 0, iv 5] ∧ outs = [] ∨
      ∃ b, Best m k b ∧ res = .tup [.agg [iv N, .row 0 2 0 (bld N (frA m b.1 k)).length], iv b.1, iv 0] ∧ outs = [.rows 87 2 ((bld N (frA m b.1 k)).map encN)]) := by
    rcases hrel with ⟨N, m, k, hv, hk, hno, rfl, rfl, rfl, rfl⟩ | ⟨N, m, k, b, hv, hk, hb, rfl, rfl, rfl, rfl⟩
    · exact ⟨N, m, k, hv, hk, rfl, rfl, .inl ⟨hno, rfl, rfl⟩⟩
    · exact ⟨N, m, k, hv, hk, rfl, rfl, .inr ⟨b, hb, rfl, rfl⟩⟩
  clear hrel
  obtain ⟨N, m, k, hv, hk, rfl, rfl, hout⟩ := key
  have hlen := hv.v.len
  repeat' (first
    | (with_reducible first | refine W_seq ?_ | refine W_condT rfl ?_ | refine W_condF rfl ?_ | refine W_tf rfl (fun h => ?_) (fun h => ?_) | refine W_block ?_ | refine endQ_ret ?_ | refine endQ_normal ?_)
    | ((with_reducible first | refine hK _ ?_ | refine hK _ _ ?_); clear hK K)
    | ((first | (with_reducible first | refine ops_cons (fun K hK => ?_) | refine opsd_cons (fun K hK => ?_) | refine ops_nil ?_ | refine fit_i64 (by omega) ?_ | refine fit_any ?_) | ((with_reducible refine opsd_nil ?_); refine And.intro (by kernel_rfl) ?_) | with_reducible refine callV_snap ?_ | ((with_reducible refine call_go rasksVS rasksV_ok ?_); refine ⟨(by first | exact alOk_nil _ | exact alOk_f rfl), _, _, rasksV_at _ _ _ hv hk, ?_⟩) | (with_reducible first | refine idx_map (by omega) ?_ | refine W_reg lv42BdU ?_ | refine W_drw lv42BdU (by kernel_rfl) ?_ | refine W_skip ?_ | refine W_exit ?_ | refine W_ret ?_ | refine end_at0 ?_) | (with_reducible refine And.intro (fun h => ?_) (fun h => ?_)) | (with_reducible refine And.intro (by omega) ?_)); (try simp only [go_sem, seval, reduceCtorEq, lv42BdU, Try.ntmps42, Try.results42, AllocS]))
    | fail)
  refine W_loop (fun x : Nat × Option Nat => ⟨[(1, iv k), (2, .ptr 0 0), (4, .ptr 1 0), (8, iv (qv x.2)), (9, iv x.1)], [some (.box 59 [iv N, dN m]), some (.box 59 [iv 0, .nil])]⟩) (fun x => x.1 ≤ m.length ∧ BestI m k x.1 x.2) (fun x => m.length - x.1) (0, none) ⟨Nat.zero_le _, fun j _ h => by dsimp only at h; omega⟩ [0, 1] ?_ ?_
  · simp [go_sem, qv]
  rintro ⟨i, q⟩ ⟨hi, hq⟩
  dsimp only at hi hq
  by_cases hlt : i < m.length
  · have hki : (i : Int) < m.length := by omega
    by_cases c1 : k ≤ (m[i]).2
    case neg =>
      have d1 : ¬ (k : Int) ≤ ((m[i]).2 : Int) := by omega
      repeat' (first
        | (with_reducible first | refine W_seq ?_ | refine W_condT rfl ?_ | refine W_condF rfl ?_ | refine W_tf rfl (fun h => ?_) (fun h => ?_) | refine W_block ?_ | refine endQ_ret ?_ | refine endQ_normal ?_)
        | ((with_reducible first | refine hK _ ?_ | refine hK _ _ ?_); clear hK K)
        | ((first | (with_reducible first | refine ops_cons (fun K hK => ?_) | refine opsd_cons (fun K hK => ?_) | refine ops_nil ?_ | refine fit_i64 (by omega) ?_ | refine fit_any ?_) | ((with_reducible refine opsd_nil ?_); refine And.intro (by kernel_rfl) ?_) | with_reducible refine callV_snap ?_ | (with_reducible first | refine idx_map (by omega) ?_ | refine W_reg lv42BdU ?_ | refine W_drw lv42BdU (by kernel_rfl) ?_ | refine W_skip ?_ | refine W_exit ?_ | refine W_ret ?_ | refine end_at0 ?_) | (with_reducible refine And.intro (fun h => ?_) (fun h => ?_)) | (with_reducible refine And.intro (by omega) ?_)); (try simp only [go_sem, seval, reduceCtorEq, hki, encN, d1, lv42BdU, Try.ntmps42, Try.results42, AllocS]))
        | fail)
      refine ⟨(i + 1, q), [0, 1], ⟨hlt, ?_⟩, by dsimp only; omega, ?_⟩
      · dsimp only
        cases q with
        | none =>
          intro j hj hji
          rcases Nat.lt_or_ge j i with h | h
          · exact hq j hj h
          · obtain rfl : j = i := by omega
            omega
        | some p =>
          obtain ⟨hp, h1, h2, h3, h4⟩ := hq
          refine ⟨hp, by omega, h2, fun j hj hji hk2 => ?_, h4⟩
          rcases Nat.lt_or_ge j i with h | h
          · exact h3 j hj h hk2
          · obtain rfl : j = i := by omega
            omega
      · simp [go_sem]
    have d1 : (k : Int) ≤ ((m[i]).2 : Int) := by omega
    cases q with
    | none =>
      have hqv : qv none = -1 := rfl
      repeat' (first
        | (with_reducible first | refine W_seq ?_ | refine W_condT rfl ?_ | refine W_condF rfl ?_ | refine W_tf rfl (fun h => ?_) (fun h => ?_) | refine W_block ?_ | refine endQ_ret ?_ | refine endQ_normal ?_)
        | ((with_reducible first | refine hK _ ?_ | refine hK _ _ ?_); clear hK K)
        | ((first | (with_reducible first | refine ops_cons (fun K hK => ?_) | refine opsd_cons (fun K hK => ?_) | refine ops_nil ?_ | refine fit_i64 (by omega) ?_ | refine fit_any ?_) | ((with_reducible refine opsd_nil ?_); refine And.intro (by kernel_rfl) ?_) | with_reducible refine callV_snap ?_ | (with_reducible first | refine idx_map (by omega) ?_ | refine W_reg lv42BdU ?_ | refine W_drw lv42BdU (by kernel_rfl) ?_ | refine W_skip ?_ | refine W_exit ?_ | refine W_ret ?_ | refine end_at0 ?_) | (with_reducible refine And.intro (fun h => ?_) (fun h => ?_)) | (with_reducible refine And.intro (by omega) ?_)); (try simp only [go_sem, seval, reduceCtorEq, hki, encN, d1, hqv, lv42BdU, Try.ntmps42, Try.results42, AllocS]))
        | fail)
      refine ⟨(i + 1, some i), [0, 1], ⟨hlt, hlt, by omega, c1, fun j hj hji hk2 => ?_, fun j hj hji hk2 => ?_⟩, by dsimp only; omega, ?_⟩
      · rcases Nat.lt_or_ge j i with h | h
        · have := hq j hj h; omega
        · obtain rfl : j = i := by omega
          exact Nat.le_refl _
      · have := hq j hj hji; omega
      · simp [go_sem, qv]
    | some p =>
      obtain ⟨hp, h1, h2, h3, h4⟩ := hq
      have hqv : qv (some p) = (p : Int) := rfl
      have hp0 : ¬ (p : Int) < 0 := by omega
      have hpl : (p : Int) < m.length := by omega
      by_cases c2 : (m[i]).2 < (m[p]).2
      · have d2 : ((m[i]).2 : Int) < ((m[p]).2 : Int) := by omega
        repeat' (first
          | (with_reducible first | refine W_seq ?_ | refine W_condT rfl ?_ | refine W_condF rfl ?_ | refine W_tf rfl (fun h => ?_) (fun h => ?_) | refine W_block ?_ | refine endQ_ret ?_ | refine endQ_normal ?_)
          | ((with_reducible first | refine hK _ ?_ | refine hK _ _ ?_); clear hK K)
          | ((first | (with_reducible first | refine ops_cons (fun K hK => ?_) | refine opsd_cons (fun K hK => ?_) | refine ops_nil ?_ | refine fit_i64 (by omega) ?_ | refine fit_any ?_) | ((with_reducible refine opsd_nil ?_); refine And.intro (by kernel_rfl) ?_) | with_reducible refine callV_snap ?_ | (with_reducible first | refine idx_map (by omega) ?_ | refine W_reg lv42BdU ?_ | refine W_drw lv42BdU (by kernel_rfl) ?_ | refine W_skip ?_ | refine W_exit ?_ | refine W_ret ?_ | refine end_at0 ?_) | (with_reducible refine And.intro (fun h => ?_) (fun h => ?_)) | (with_reducible refine And.intro (by omega) ?_)); (try simp only [go_sem, seval, reduceCtorEq, hki, encN, d1, hqv, hp0, hpl, d2, lv42BdU, Try.ntmps42, Try.results42, AllocS]))
          | fail)
        refine ⟨(i + 1, some i), [0, 1], ⟨hlt, hlt, by omega, c1, fun j hj hji hk2 => ?_, fun j hj hji hk2 => ?_⟩, by dsimp only; omega, ?_⟩
        · rcases Nat.lt_or_ge j i with h | h
          · have := h3 j hj h hk2; omega
          · obtain rfl : j = i := by omega
            exact Nat.le_refl _
        · have := h3 j hj hji hk2; omega
        · simp [go_sem, qv]
      · have d2 : ¬ ((m[i]).2 : Int) < ((m[p]).2 : Int) := by omega
        repeat' (first
          | (with_reducible first | refine W_seq ?_ | refine W_condT rfl ?_ | refine W_condF rfl ?_ | refine W_tf rfl (fun h => ?_) (fun h => ?_) | refine W_block ?_ | refine endQ_ret ?_ | refine endQ_normal ?_)
          | ((with_reducible first | refine hK _ ?_ | refine hK _ _ ?_); clear hK K)
          | ((first | (with_reducible first | refine ops_cons (fun K hK => ?_) | refine opsd_cons (fun K hK => ?_) | refine ops_nil ?_ | refine fit_i64 (by omega) ?_ | refine fit_any ?_) | ((with_reducible refine opsd_nil ?_); refine And.intro (by kernel_rfl) ?_) | with_reducible refine callV_snap ?_ | (with_reducible first | refine idx_map (by omega) ?_ | refine W_reg lv42BdU ?_ | refine W_drw lv42BdU (by kernel_rfl) ?_ | refine W_skip ?_ | refine W_exit ?_ | refine W_ret ?_ | refine end_at0 ?_) | (with_reducible refine And.intro (fun h => ?_) (fun h => ?_)) | (with_reducible refine And.intro (by omega) ?_)); (try simp only [go_sem, seval, reduceCtorEq, hki, encN, d1, hqv, hp0, hpl, d2, lv42BdU, Try.ntmps42, Try.results42, AllocS]))
          | fail)
        refine ⟨(i + 1, some p), [0, 1], ⟨hlt, hp, by omega, h2, fun j hj hji hk2 => ?_, h4⟩, by dsimp only; omega, ?_⟩
        · rcases Nat.lt_or_ge j i with h | h
          · exact h3 j hj h hk2
          · obtain rfl : j = i := by omega
            omega
        · simp [go_sem, qv]
  · have hki : ¬ (i : Int) < m.length := by omega
    obtain rfl : i = m.length := by omega
    cases q with
    | none =>
      have hall : ∀ c ∈ m, c.2 < k := by
        intro c hc
        obtain ⟨j, hj, rfl⟩ := List.getElem_of_mem hc
        exact hq j hj hj
      have hqv : qv none = -1 := rfl
      rcases hout with ⟨_, rfl, rfl⟩ | ⟨b, hb, rfl, rfl⟩
      · skip
        repeat' (first
          | (with_reducible first | refine W_seq ?_ | refine W_condT rfl ?_ | refine W_condF rfl ?_ | refine W_tf rfl (fun h => ?_) (fun h => ?_) | refine W_block ?_ | refine endQ_ret ?_ | refine endQ_normal ?_)
          | ((with_reducible first | refine hK _ ?_ | refine hK _ _ ?_); clear hK K)
          | ((first | (with_reducible first | refine ops_cons (fun K hK => ?_) | refine opsd_cons (fun K hK => ?_) | refine ops_nil ?_ | refine fit_i64 (by omega) ?_ | refine fit_any ?_) | ((with_reducible refine opsd_nil ?_); refine And.intro (by kernel_rfl) ?_) | with_reducible refine callV_snap ?_ | (with_reducible first | refine idx_map (by omega) ?_ | refine W_reg lv42BdU ?_ | refine W_drw lv42BdU (by kernel_rfl) ?_ | refine W_skip ?_ | refine W_exit ?_ | refine W_ret ?_ | refine end_at0 ?_) | (with_reducible refine And.intro (fun h => ?_) (fun h => ?_)) | (with_reducible refine And.intro (by omega) ?_)); (try simp only [go_sem, seval, reduceCtorEq, hki, hqv, lv42BdU, Try.ntmps42, Try.results42, AllocS]))
          | fail)
      · have := hall b hb.mem; have := hb.le; omega
    | some p =>
      obtain ⟨hp, hbp⟩ := BestI.best hv.v hq
      have hqv : qv (some p) = (p : Int) := rfl
      have hp0 : ¬ (p : Int) < 0 := by omega
      have hpl : (p : Int) < m.length := by omega
      rcases hout with ⟨hall, rfl, rfl⟩ | ⟨b, hb, rfl, rfl⟩
      · exact absurd (hall _ hbp.mem) (by have := hbp.le; omega)
      have hbe : m[p] = b := hbp.eq hb
      have hb0 : encN b = [.int .i64 (b.1 : Int), .int .i64 (b.2 : Int)] := rfl
      obtain ⟨v1, v2⟩ := hb.vb hv
      repeat' (first
        | (with_reducible first | refine W_seq ?_ | refine W_condT rfl ?_ | refine W_condF rfl ?_ | refine W_tf rfl (fun h => ?_) (fun h => ?_) | refine W_block ?_ | refine endQ_ret ?_ | refine endQ_normal ?_)
        | ((with_reducible first | refine hK _ ?_ | refine hK _ _ ?_); clear hK K)
        | ((first | (with_reducible first | refine ops_cons (fun K hK => ?_) | refine opsd_cons (fun K hK => ?_) | refine ops_nil ?_ | refine fit_i64 (by omega) ?_ | refine fit_any ?_) | ((with_reducible refine opsd_nil ?_); refine And.intro (by kernel_rfl) ?_) | with_reducible refine callV_snap ?_ | ((with_reducible refine call_go rTakeYS rTakeY_ok ?_); refine ⟨(by first | exact alOk_nil _ | exact alOk_f rfl), _, _, rTakeY_at _ _ _ _ v1 v2, ?_⟩) | (with_reducible first | refine idx_map (by omega) ?_ | refine W_reg lv42BdU ?_ | refine W_drw lv42BdU (by kernel_rfl) ?_ | refine W_skip ?_ | refine W_exit ?_ | refine end_at0 ?_) | (with_reducible refine And.intro (fun h => ?_) (fun h => ?_)) | (with_reducible refine And.intro (by omega) ?_)); (try simp only [go_sem, seval, reduceCtorEq, hki, hqv, hp0, hpl, hbe, hb0, lv42BdU, Try.ntmps42, Try.results42, AllocS]))
        | fail)
      refine W_ret (endQ_ret (end_at [2] ?_))
      simp [go_sem, Try.results42, AllocS]
      simpa [flatD, encN] using encNe.flat (bld N (frA m b.1 k))
end Go.Proofs.Ytacfipmigkbncaa
