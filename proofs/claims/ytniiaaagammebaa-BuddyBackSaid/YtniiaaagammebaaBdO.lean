/- buddy.Take by the engine. -/
import Derived.Test.YtniiaaagammebaaBdN
namespace Go.Proofs.Ytniiaaagammebaa
open Go.RowKit
set_option maxRecDepth 100000
set_option linter.unusedSimpArgs false
set_option linter.unusedVariables false

abbrev lv16BdO : List (Nat × List Nat) := [(0, [2, 3, 4, 6]), (1, [2, 3, 4, 6, 8, 9]), (2, [2, 3, 4, 6, 8, 9, 22]), (3, [6, 7]), (4, [2, 3, 4, 6, 10]), (5, [2, 3, 4, 6, 10, 30]), (6, [6, 7]), (7, [2, 3, 4, 6, 10, 11]), (8, [2, 3, 4, 6, 11, 12]), (9, [2, 3, 4, 6, 11, 12]), (10, [2, 3, 4, 6, 11, 12, 49]), (11, [2, 3, 4, 6, 11, 12]), (12, [2, 3, 4, 6, 11, 12, 13]), (13, [2, 3, 4, 6, 11, 12, 13, 58]), (14, [2, 3, 4, 6, 11, 12, 13]), (15, [2, 3, 4, 6, 11, 12]), (16, [2, 3, 4, 6, 11, 12]), (17, [6, 7])]
/-- all frames of the block are free -/
def Allfr (m : List Bl) (w k : Nat) : Prop := ∀ i, inb w k i = true → frM m i = true
theorem tkP_iff {w k : Nat} {b : Bl} : tkP w k b = true ↔ b.1 ≤ w ∧ w + 2 ^ k ≤ b.1 + 2 ^ b.2 := by unfold tkP; simp
theorem allfr_iff {N : Nat} {m : List Bl} {w k : Nat} (h : Vb N m w k) : Allfr m w k ↔ ∃ b ∈ m, tkP w k b = true := by
  constructor
  · intro ha
    obtain ⟨b, h1, h2, h3, h4⟩ := h.z.v.block h.b.1 h.b.2.2 ha
    exact ⟨b, h1, tkP_iff.2 ⟨h2, h3⟩⟩
  · rintro ⟨b, hb, ht⟩ i hi
    obtain ⟨t1, t2⟩ := tkP_iff.1 ht
    obtain ⟨i1, i2⟩ := inb_iff.1 hi
    dsimp only at i1 i2
    exact frM_iff.2 ⟨b, hb, by omega, by omega⟩
def TakeS : Spec := { rel := fun args ins res outs => (∃ (n : Int) (l : List Bi) (a k : Int), l.length ≤ 1000000 ∧ askB n l a k ≠ 0 ∧ args = [zv n l, iv a, iv k] ∧ ins = [] ∧ res = .tup [.agg [iv 0, .nil], iv (askB n l a k)] ∧ outs = []) ∨
  (∃ (N : Nat) (m : List Bl) (w k : Nat), Vb N m w k ∧ ¬ Allfr m w k ∧ args = [.agg [iv N, dN m], iv w, iv k] ∧ ins = [] ∧ res = .tup [.agg [iv 0, .nil], iv 5] ∧ outs = []) ∨
  ∃ (N : Nat) (m : List Bl) (w k : Nat), Vb N m w k ∧ Allfr m w k ∧ args = [.agg [iv N, dN m], iv w, iv k] ∧ ins = [] ∧ res = .tup [.agg [iv N, .row 0 2 0 (bld N (frA m w k)).length], iv 0] ∧ outs = [.rows 50 2 ((bld N (frA m w k)).map encN)] }
set_option maxHeartbeats 16000000 in
theorem Take_ok : Ok Try.prog 16 TakeS := by
  refine fn_ok TakeS Try.func16 rfl rfl ?_
  intro args ins res outs hrel
  refine ⟨?_, ?_⟩
  · rcases hrel with ⟨n, l, a, k, hl, hc, rfl, rfl, rfl, rfl⟩ | ⟨N, m, w, k, hv, hno, rfl, rfl, rfl, rfl⟩ | ⟨N, m, w, k, hv, hno, rfl, rfl, rfl, rfl⟩ <;> simp [Try.ntmps16]
  intro w0 V Bo mu0
  rcases hrel with ⟨n, l, a, k, hl, hc, rfl, rfl, rfl, rfl⟩ | hrel
  · skip
    repeat' (first
      | (with_reducible first | refine W_seq ?_ | refine W_condT rfl ?_ | refine W_condF rfl ?_ | refine W_tf rfl (fun h => ?_) (fun h => ?_) | refine W_block ?_ | refine W_scope ?_ | refine endQ_ret ?_ | refine endQ_normal ?_)
      | ((with_reducible first | refine hK _ ?_ | refine hK _ _ ?_); clear hK K)
      | ((first | (with_reducible first | refine ops_cons (fun K hK => ?_) | refine opsd_cons (fun K hK => ?_) | refine ops_nil ?_ | refine fit_i64 (by omega) ?_ | refine fit_u8 (by omega) ?_ | refine fit_u64 (by omega) ?_ | refine fit_u32 (by omega) ?_ | refine fit_any ?_ | refine quo_nn (by omega) ?_ | refine rem_nn (by omega) ?_ | refine quo_any ?_ | refine rem_any ?_ | refine sh_in (by simp only [IntKind.bits]; omega) ?_) | ((with_reducible refine opsd_nil ?_); refine And.intro (by kernel_rfl) ?_) | with_reducible refine callV_snap ?_ | ((with_reducible refine call_go chkbNS chkbN_ok ?_); refine ⟨(by first | exact alOk_nil _ | exact alOk_f rfl), _, _, chkbN_at _ _ _ _ hl hc, ?_⟩) | (with_reducible first | refine slice_old ?_ | refine app_grow ?_ | refine idx_map (by omega) ?_ | refine W_reg lv16BdO ?_ | refine W_drw lv16BdO (by kernel_rfl) ?_ | refine W_label ?_ | refine W_skip ?_ | refine W_exit ?_ | refine W_ret ?_ | refine end_at0 ?_) | (with_reducible refine And.intro (fun h => ?_) (fun h => ?_)) | (with_reducible refine And.intro (by omega) ?_)); (try simp only [go_sem, seval, reduceCtorEq, hc, lv16BdO, Try.ntmps16, Try.results16, TakeS]))
      | fail)
  have key : ∃ (N : Nat) (m : List Bl) (w k : Nat), Vb N m w k ∧ args = [.agg [iv N, dN m], iv w, iv k] ∧ ins = [] ∧ (¬ Allfr m w k ∧ res = .tup [.agg [iv 0, .nil], iv 5] ∧ outs = [] ∨
      Allfr m w k ∧ res = .tup [.agg [iv N, .row 0 2 0 (bld N (frA m w k)).length], iv 0] ∧ outs = [.rows 50 2 ((bld N (frA m w k)).map encN)]) := by
    rcases hrel with ⟨N, m, w, k, hv, hno, rfl, rfl, rfl, rfl⟩ | ⟨N, m, w, k, hv, hno, rfl, rfl, rfl, rfl⟩
    · exact ⟨N, m, w, k, hv, rfl, rfl, .inl ⟨hno, rfl, rfl⟩⟩
    · exact ⟨N, m, w, k, hv, rfl, rfl, .inr ⟨hno, rfl, rfl⟩⟩
  clear hrel
  obtain ⟨N, m, w, k, hv, rfl, rfl, hout⟩ := key
  rw [allfr_iff hv] at hout
  have hlen : m.length ≤ 1000000 := by have := hv.z.v.len; omega
  obtain ⟨b1, b2, b3⟩ := hv.b
  dsimp only at b1 b2 b3
  have hn := hv.z.v.n
  have hpk := p64 k b1
  have hw256 : w ≤ 256 := by omega
  rcases hout with ⟨hno, rfl, rfl⟩ | ⟨hex, rfl, rfl⟩
  · have hf : fidx (tkP w k) m = -1 := fidx_none (fun b hb => by
      cases h : tkP w k b with
      | false => rfl
      | true => exact absurd ⟨b, hb, h⟩ hno)
    repeat' (first
      | (with_reducible first | refine W_seq ?_ | refine W_condT rfl ?_ | refine W_condF rfl ?_ | refine W_tf rfl (fun h => ?_) (fun h => ?_) | refine W_block ?_ | refine W_scope ?_ | refine endQ_ret ?_ | refine endQ_normal ?_)
      | ((with_reducible first | refine hK _ ?_ | refine hK _ _ ?_); clear hK K)
      | ((first | (with_reducible first | refine ops_cons (fun K hK => ?_) | refine opsd_cons (fun K hK => ?_) | refine ops_nil ?_ | refine fit_i64 (by omega) ?_ | refine fit_u8 (by omega) ?_ | refine fit_u64 (by omega) ?_ | refine fit_u32 (by omega) ?_ | refine fit_any ?_ | refine quo_nn (by omega) ?_ | refine rem_nn (by omega) ?_ | refine quo_any ?_ | refine rem_any ?_ | refine sh_in (by simp only [IntKind.bits]; omega) ?_) | ((with_reducible refine opsd_nil ?_); refine And.intro (by kernel_rfl) ?_) | with_reducible refine callV_snap ?_ | ((with_reducible refine call_go chkbVS chkbV_ok ?_); refine ⟨(by first | exact alOk_nil _ | exact alOk_f rfl), _, _, chkbV_at _ _ _ _ hv, ?_⟩) | ((with_reducible refine call_go ixTS ixT_ok ?_); refine ⟨(by first | exact alOk_nil _ | exact alOk_f rfl), _, _, ixT_at m w k hlen hv.z.v.bls.rng hw256 b1, ?_⟩) | (with_reducible first | refine slice_old ?_ | refine app_grow ?_ | refine idx_map (by omega) ?_ | refine W_reg lv16BdO ?_ | refine W_drw lv16BdO (by kernel_rfl) ?_ | refine W_label ?_ | refine W_skip ?_ | refine W_exit ?_ | refine W_ret ?_ | refine end_at0 ?_) | (with_reducible refine And.intro (fun h => ?_) (fun h => ?_)) | (with_reducible refine And.intro (by omega) ?_)); (try simp only [go_sem, seval, reduceCtorEq, hf, lv16BdO, Try.ntmps16, Try.results16, TakeS]))
      | fail)
  obtain ⟨p, hp, hpt, hpf⟩ : ∃ (p : Nat) (hp : p < m.length), tkP w k m[p] = true ∧ ∀ j (hj : j < m.length), j < p → tkP w k m[j] = false := by
    have : (m.findIdx? (tkP w k)).isSome = true := by
      rw [List.findIdx?_isSome]
      obtain ⟨b, hb, ht⟩ := hex
      exact List.any_eq_true.2 ⟨b, hb, ht⟩
    obtain ⟨p, hp⟩ := Option.isSome_iff_exists.1 this
    rw [List.findIdx?_eq_some_iff_getElem] at hp
    obtain ⟨h1, h2, h3⟩ := hp
    exact ⟨p, h1, h2, fun j hj hjp => by simpa using h3 j hjp⟩
  have hf : fidx (tkP w k) m = p := fidx_some hp hpt hpf
  obtain ⟨t1, t2⟩ := tkP_iff.1 hpt
  have hki : (p : Int) < m.length := by omega
  have hp0 : ¬ (p : Int) < 0 := by omega
  have hmem := List.getElem_mem hp
  obtain ⟨b, hbe⟩ : ∃ b, m[p] = b := ⟨_, rfl⟩
  rw [hbe] at hpt t1 t2 hmem
  have hb0 : encN b = [.int .i64 (b.1 : Int), .int .i64 (b.2 : Int)] := rfl
  obtain ⟨r1, r2⟩ := hv.z.v.bls.rng b hmem
  have hkb : k ≤ b.2 := by
    rcases Nat.lt_or_ge b.2 k with h | h
    · have := Nat.pow_lt_pow_right (a := 2) (by decide) h; omega
    · exact h
  have hsh := hv.z.v.sh
  have hres := take_law hv.z.v b3 hmem t1 t2 hkb
  have hin : b.1 ∈ shv m b.2 := (shv_mem m b.1 b.2).2 hmem
  have hdel := SL_del hsh (b := b)
  have hR : Rest N (upd (shv m) b.2 ((shv m b.2).erase b.1)) b.1 b.2 := by
    have hbag : Bag N (SL (shv m)) := hv.z.v.bag.sub (fun b hb => (hv.z.v.SL b).1 hb)
    refine ⟨hsh.del _ _, hbag.sub (fun c hc => ((hdel c).1 hc).1), hv.z.v.ok b hmem, hn, fun c hc => ?_⟩
    obtain ⟨c1, c2⟩ := (hdel c).1 hc
    exact asc_dj hv.z.v.asc ((hv.z.v.SL c).1 c1) hmem c2
  clear hdel
  repeat' (first
    | (with_reducible first | refine W_seq ?_ | refine W_condT rfl ?_ | refine W_condF rfl ?_ | refine W_tf rfl (fun h => ?_) (fun h => ?_) | refine W_block ?_ | refine W_scope ?_ | refine endQ_ret ?_ | refine endQ_normal ?_)
    | ((with_reducible first | refine hK _ ?_ | refine hK _ _ ?_); clear hK K)
    | ((first | (with_reducible first | refine ops_cons (fun K hK => ?_) | refine opsd_cons (fun K hK => ?_) | refine ops_nil ?_ | refine fit_i64 (by omega) ?_ | refine fit_u8 (by omega) ?_ | refine fit_u64 (by omega) ?_ | refine fit_u32 (by omega) ?_ | refine fit_any ?_ | refine quo_nn (by omega) ?_ | refine rem_nn (by omega) ?_ | refine quo_any ?_ | refine rem_any ?_ | refine sh_in (by simp only [IntKind.bits]; omega) ?_) | ((with_reducible refine opsd_nil ?_); refine And.intro (by kernel_rfl) ?_) | ((with_reducible refine callV_lend removeTS [4,5,6,7,8,9,10,11] removeT_ok rfl ?_); simp only [go_sem, seval, reduceCtorEq, hf, hki, hp0, hbe, hb0, removeS, decide_true, Bool.and_self, lv16BdO]; refine ⟨(by first | exact alOk_nil _ | exact alOk_f rfl), rfl, _, _, removeT_at (shv m) b.2 b.1 r2 r1 hsh hin, ?_⟩) | with_reducible refine callV_snap ?_ | ((with_reducible refine call_go chkbVS chkbV_ok ?_); refine ⟨(by first | exact alOk_nil _ | exact alOk_f rfl), _, _, chkbV_at _ _ _ _ hv, ?_⟩) | ((with_reducible refine call_go ixTS ixT_ok ?_); refine ⟨(by first | exact alOk_nil _ | exact alOk_f rfl), _, _, ixT_at m w k hlen hv.z.v.bls.rng hw256 b1, ?_⟩) | ((with_reducible refine call_go shelveS shelve_ok ?_); refine ⟨(by first | exact alOk_nil _ | exact alOk_f rfl), _, _, shelve_at m hlen hv.z.v.bls, ?_⟩) | (with_reducible first | refine slice_old ?_ | refine app_grow ?_ | refine idx_map (by omega) ?_ | refine W_reg lv16BdO ?_ | refine W_drw lv16BdO (by kernel_rfl) ?_ | refine W_label ?_ | refine W_skip ?_ | refine W_exit ?_ | refine end_at0 ?_) | (with_reducible refine And.intro (fun h => ?_) (fun h => ?_)) | (with_reducible refine And.intro (by omega) ?_)); (try simp only [go_sem, seval, reduceCtorEq, hf, hki, hp0, hbe, hb0, removeS, decide_true, Bool.and_self, lv16BdO, removeTS, Try.ntmps16, Try.results16, TakeS]))
    | fail)
  generalize upd (shv m) b.2 ((shv m b.2).erase b.1) = L1 at *
  refine W_loop (fun y : Shf × Nat × Nat => ⟨[(2, iv k), (3, .ptr 0 0), (4, .ptr 1 0), (6, .ptr 2 0), (11, .ptr 3 0), (12, .ptr 11 0)], [some (.box 24 [iv N, dN m]), some (.box 3 [iv w]), some (.box 24 [iv 0, .nil])] ++ (shBox 4 y.1 :: [rU (y.1 0), rU (y.1 1), rU (y.1 2), rU (y.1 3), rU (y.1 4), rU (y.1 5), rU (y.1 6)]).map some ++ [some (.box 50 [iv y.2.1, iv y.2.2])]⟩)
    (fun y => k ≤ y.2.2 ∧ y.2.1 ≤ w ∧ w + 2 ^ k ≤ y.2.1 + 2 ^ y.2.2 ∧ Rest N y.1 y.2.1 y.2.2 ∧ splitT w k y.2.2 y.1 y.2.1 = splitT w k b.2 L1 b.1) (fun y => y.2.2) (L1, b.1, b.2) ⟨hkb, t1, t2, hR, rfl⟩ [0, 1, 2, 4, 5, 6, 7, 8, 9, 10, 11, 12] ?_ ?_
  · simp [go_sem]
  rintro ⟨M, a, o⟩ ⟨hko, haw, hwa, hRM, hgo⟩
  dsimp only at hko haw hwa hRM hgo
  simp only [List.map_cons, List.map_nil, List.cons_append, List.nil_append]
  obtain ⟨o6, obd, oal⟩ := hRM.ok
  dsimp only at o6 obd oal
  have hMs := hRM.sh
  by_cases hlt : k < o
  · have hki2 : (k : Int) < (o : Int) := by omega
    obtain ⟨i, rfl⟩ : ∃ i, o = i + 1 := ⟨o - 1, by omega⟩
    have hsub : (((i + 1 : Nat) : Int) - 1) = (i : Int) := by omega
    have hpi := p64 i (by omega)
    have h2i := two_succ i
    have i6 : i ≤ 6 := by omega
    have a256 : a ≤ 256 := by omega
    have aL : a < 256 := by omega
    have hL : a + 2 ^ i < 256 := by omega
    rw [splitT, if_pos (by omega)] at hgo
    by_cases hh : a + 2 ^ i ≤ w
    · rw [if_pos hh] at hgo
      have hh2 : ((a + 2 ^ i : Nat) : Int) ≤ (w : Int) := by omega
      repeat' (first
        | (with_reducible first | refine W_seq ?_ | refine W_condT rfl ?_ | refine W_condF rfl ?_ | refine W_tf rfl (fun h => ?_) (fun h => ?_) | refine W_block ?_ | refine W_scope ?_ | refine endQ_ret ?_ | refine endQ_normal ?_)
        | ((with_reducible first | refine hK _ ?_ | refine hK _ _ ?_); clear hK K)
        | ((first | (with_reducible first | refine ops_cons (fun K hK => ?_) | refine opsd_cons (fun K hK => ?_) | refine ops_nil ?_ | refine fit_i64 (by omega) ?_ | refine fit_u8 (by omega) ?_ | refine fit_u64 (by omega) ?_ | refine fit_u32 (by omega) ?_ | refine fit_any ?_ | refine quo_nn (by omega) ?_ | refine rem_nn (by omega) ?_ | refine quo_any ?_ | refine rem_any ?_ | refine sh_in (by simp only [IntKind.bits]; omega) ?_) | ((with_reducible refine opsd_nil ?_); refine And.intro (by kernel_rfl) ?_) | ((with_reducible refine callV_lend addS [3,4,5,6,7,8,9,10] add_ok rfl ?_); simp only [go_sem, seval, reduceCtorEq, hki2, hsub, hh2, addS, decide_true, Bool.and_self, lv16BdO]; refine ⟨(by first | exact alOk_nil _ | exact alOk_f rfl), rfl, _, _, add_at M i a i6 aL hMs, ?_⟩) | with_reducible refine callV_snap ?_ | ((with_reducible refine call_go nendS nend_ok ?_); refine ⟨(by first | exact alOk_nil _ | exact alOk_f rfl), _, _, nend_at (a, i) i6 a256, ?_⟩) | (with_reducible first | refine slice_old ?_ | refine app_grow ?_ | refine idx_map (by omega) ?_ | refine W_reg lv16BdO ?_ | refine W_drw lv16BdO (by kernel_rfl) ?_ | refine W_label ?_ | refine W_skip ?_ | refine W_exit ?_ | refine end_at0 ?_) | (with_reducible refine And.intro (fun h => ?_) (fun h => ?_)) | (with_reducible refine And.intro (by omega) ?_)); (try simp only [go_sem, seval, reduceCtorEq, hki2, hsub, hh2, addS, decide_true, Bool.and_self, lv16BdO, addS, Try.ntmps16, Try.results16, TakeS]))
        | fail)
      refine ⟨(put M (a, i), a + 2 ^ i, i), [0, 1, 2, 3, 12, 13, 14, 15, 16, 17, 18, 11], ⟨by dsimp only; omega, hh, by dsimp only; omega, (hRM.half).1.1, hgo⟩, by dsimp only; omega, ?_⟩
      simp [go_sem, put]
    · rw [if_neg hh] at hgo
      have hh2 : ¬ ((a + 2 ^ i : Nat) : Int) ≤ (w : Int) := by omega
      have hle : w + 2 ^ k ≤ a + 2 ^ i := (nest b3 (al_down oal (show i ≤ i + 1 by omega)) (by omega) (by omega) (by omega)).2
      repeat' (first
        | (with_reducible first | refine W_seq ?_ | refine W_condT rfl ?_ | refine W_condF rfl ?_ | refine W_tf rfl (fun h => ?_) (fun h => ?_) | refine W_block ?_ | refine W_scope ?_ | refine endQ_ret ?_ | refine endQ_normal ?_)
        | ((with_reducible first | refine hK _ ?_ | refine hK _ _ ?_); clear hK K)
        | ((first | (with_reducible first | refine ops_cons (fun K hK => ?_) | refine opsd_cons (fun K hK => ?_) | refine ops_nil ?_ | refine fit_i64 (by omega) ?_ | refine fit_u8 (by omega) ?_ | refine fit_u64 (by omega) ?_ | refine fit_u32 (by omega) ?_ | refine fit_any ?_ | refine quo_nn (by omega) ?_ | refine rem_nn (by omega) ?_ | refine quo_any ?_ | refine rem_any ?_ | refine sh_in (by simp only [IntKind.bits]; omega) ?_) | ((with_reducible refine opsd_nil ?_); refine And.intro (by kernel_rfl) ?_) | ((with_reducible refine callV_lend addS [3,4,5,6,7,8,9,10] add_ok rfl ?_); simp only [go_sem, seval, reduceCtorEq, hki2, hsub, hh2, addS, decide_true, Bool.and_self, lv16BdO]; refine ⟨(by first | exact alOk_nil _ | exact alOk_f rfl), rfl, _, _, add_at M i (a + 2 ^ i) i6 hL hMs, ?_⟩) | with_reducible refine callV_snap ?_ | ((with_reducible refine call_go nendS nend_ok ?_); refine ⟨(by first | exact alOk_nil _ | exact alOk_f rfl), _, _, nend_at (a, i) i6 a256, ?_⟩) | (with_reducible first | refine slice_old ?_ | refine app_grow ?_ | refine idx_map (by omega) ?_ | refine W_reg lv16BdO ?_ | refine W_drw lv16BdO (by kernel_rfl) ?_ | refine W_label ?_ | refine W_skip ?_ | refine W_exit ?_ | refine end_at0 ?_) | (with_reducible refine And.intro (fun h => ?_) (fun h => ?_)) | (with_reducible refine And.intro (by omega) ?_)); (try simp only [go_sem, seval, reduceCtorEq, hki2, hsub, hh2, addS, decide_true, Bool.and_self, lv16BdO, addS, Try.ntmps16, Try.results16, TakeS]))
        | fail)
      refine ⟨(put M (a + 2 ^ i, i), a, i), [0, 1, 2, 3, 12, 13, 14, 15, 16, 17, 18, 11], ⟨by dsimp only; omega, haw, hle, (hRM.half).2.1, hgo⟩, by dsimp only; omega, ?_⟩
      simp [go_sem, put]
  · have hki2 : ¬ (k : Int) < (o : Int) := by omega
    obtain rfl : o = k := by omega
    rw [split_stop] at hgo
    rw [← hgo] at hres
    have hr : Res N (frA m w o) M := hres
    have r1 := hr.sh
    have r2 := hr.perm
    have r3 := hr.srt
    clear hres hr
    generalize bld N (frA m w o) = Z at *
    repeat' (first
      | (with_reducible first | refine W_seq ?_ | refine W_condT rfl ?_ | refine W_condF rfl ?_ | refine W_tf rfl (fun h => ?_) (fun h => ?_) | refine W_block ?_ | refine W_scope ?_ | refine endQ_ret ?_ | refine endQ_normal ?_)
      | ((with_reducible first | refine hK _ ?_ | refine hK _ _ ?_); clear hK K)
      | (with_reducible refine halt_call 42 ?_)
      | ((first | (with_reducible first | refine ops_cons (fun K hK => ?_) | refine opsd_cons (fun K hK => ?_) | refine ops_nil ?_ | refine fit_i64 (by omega) ?_ | refine fit_u8 (by omega) ?_ | refine fit_u64 (by omega) ?_ | refine fit_u32 (by omega) ?_ | refine fit_any ?_ | refine quo_nn (by omega) ?_ | refine rem_nn (by omega) ?_ | refine quo_any ?_ | refine rem_any ?_ | refine sh_in (by simp only [IntKind.bits]; omega) ?_) | ((with_reducible refine opsd_nil ?_); refine And.intro (by kernel_rfl) ?_) | with_reducible refine callV_snap ?_ | (with_reducible first | refine slice_old ?_ | refine app_grow ?_ | refine idx_map (by omega) ?_ | refine W_reg lv16BdO ?_ | refine W_drw lv16BdO (by kernel_rfl) ?_ | refine W_label ?_ | refine W_skip ?_ | refine W_exit ?_ | refine end_at0 ?_) | (with_reducible refine And.intro (fun h => ?_) (fun h => ?_)) | (with_reducible refine And.intro (by omega) ?_)); (try simp only [go_sem, seval, reduceCtorEq, hki2, lv16BdO, Try.ntmps16, Try.results16, TakeS]))
      | fail)
    unfold Halt
    refine callV_lend listS [3, 4, 5, 6, 7, 8, 9, 10] list_ok rfl ?_
    simp only [go_sem, seval, reduceCtorEq]
    refine ⟨(by first | exact alOk_nil _ | exact alOk_f rfl), rfl, _, _, list_at M Z r1 r2 r3, ?_⟩
    simp only [go_sem, seval, reduceCtorEq, listS, shI, List.cons_append, List.nil_append, decide_true, Bool.and_self]
    repeat' (first
      | (with_reducible first | refine W_seq ?_ | refine W_condT rfl ?_ | refine W_condF rfl ?_ | refine W_tf rfl (fun h => ?_) (fun h => ?_) | refine W_block ?_ | refine W_scope ?_ | refine endQ_ret ?_ | refine endQ_normal ?_)
      | ((with_reducible first | refine hK _ ?_ | refine hK _ _ ?_); clear hK K)
      | ((first | (with_reducible first | refine ops_cons (fun K hK => ?_) | refine opsd_cons (fun K hK => ?_) | refine ops_nil ?_ | refine fit_i64 (by omega) ?_ | refine fit_u8 (by omega) ?_ | refine fit_u64 (by omega) ?_ | refine fit_u32 (by omega) ?_ | refine fit_any ?_ | refine quo_nn (by omega) ?_ | refine rem_nn (by omega) ?_ | refine quo_any ?_ | refine rem_any ?_ | refine sh_in (by simp only [IntKind.bits]; omega) ?_) | ((with_reducible refine opsd_nil ?_); refine And.intro (by kernel_rfl) ?_) | with_reducible refine callV_snap ?_ | (with_reducible first | refine slice_old ?_ | refine app_grow ?_ | refine idx_map (by omega) ?_ | refine W_reg lv16BdO ?_ | refine W_drw lv16BdO (by kernel_rfl) ?_ | refine W_label ?_ | refine W_skip ?_ | refine W_exit ?_ | refine end_at0 ?_) | (with_reducible refine And.intro (fun h => ?_) (fun h => ?_)) | (with_reducible refine And.intro (by omega) ?_)); (try simp only [go_sem, seval, reduceCtorEq, decide_true, Bool.and_self, lv16BdO, Try.ntmps16, Try.results16, TakeS]))
      | fail)
    refine W_ret (endQ_ret (end_at [12] ?_))
    simp [go_sem, Try.results16, TakeS]
    simpa [flatD, encN] using encNe.flat Z
end Go.Proofs.Ytniiaaagammebaa
