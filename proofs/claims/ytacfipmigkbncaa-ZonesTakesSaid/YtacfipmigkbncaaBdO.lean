import Derived.Test.YtacfipmigkbncaaBdM

/- buddy.Free and buddy.Take by the engine. -/
namespace Go.Proofs.Ytacfipmigkbncaa
open Go.RowKit
set_option maxRecDepth 100000
set_option linter.unusedSimpArgs false
set_option linter.unusedVariables false

abbrev lv62BdO : List (Nat × List Nat) := [(0, [1, 2, 3, 6]), (1, [1, 2, 3, 6, 8, 9]), (2, [1, 2, 3, 6, 8, 9, 21]), (3, [6, 7]), (4, [1, 2, 3, 6, 8, 25, 26, 27]), (5, [1, 2, 3, 6, 8, 25, 26, 27, 28]), (6, [1, 2, 3, 6, 8, 11, 25, 26, 27]), (7, [1, 2, 3, 6, 8, 25, 26, 27, 42]), (8, [6, 7]), (9, [1, 2, 3, 6, 8, 25, 26, 27]), (10, [1, 2, 3, 6, 12]), (11, [3, 6, 12]), (12, [6, 7])]
theorem natb {n a k : Int} {N : Nat} (hn : n = N) (h1 : ¬ (k < 0 ∨ 6 < k)) (h2 : ¬ (a < 0 ∨ n - 2 ^ k.toNat < a)) (h3 : a % 2 ^ k.toNat = 0) : ∃ w q : Nat, a = w ∧ k = q ∧ OkB N (w, q) := by
  obtain ⟨q, rfl⟩ := Int.eq_ofNat_of_zero_le (show 0 ≤ k by omega)
  obtain ⟨w, rfl⟩ := Int.eq_ofNat_of_zero_le (show 0 ≤ a by omega)
  rw [Int.toNat_natCast, pow_nat] at h2 h3
  refine ⟨w, q, rfl, rfl, by dsimp only; omega, by dsimp only; omega, ?_⟩
  exact_mod_cast h3
/-- a valid zone and a block within it -/
structure Vb (N : Nat) (m : List Bl) (w k : Nat) : Prop where
  z : Vz N m
  b : OkB N (w, k)
theorem vb_of {n : Int} {l : List Bi} {a k : Int} (h : askB n l a k = 0) : ∃ (N : Nat) (m : List Bl) (w q : Nat), n = N ∧ l = m.map toI ∧ a = w ∧ k = q ∧ Vb N m w q := by
  obtain ⟨h1, h2, h3⟩ := askB_zero h
  obtain ⟨h4, h5⟩ := askE_zero h1
  obtain ⟨N, m, rfl, rfl, hz⟩ := vz_of h4
  obtain ⟨w, q, rfl, rfl, hb⟩ := natb (N := N) rfl h5 h2 h3
  exact ⟨N, m, w, q, rfl, rfl, rfl, rfl, hz, hb⟩
theorem Vb.ask {N : Nat} {m : List Bl} {w k : Nat} (h : Vb N m w k) : askB N (m.map toI) w k = 0 := by
  obtain ⟨b1, b2, b3⟩ := h.b
  dsimp only at b1 b2 b3
  refine askB_ok (h.z.ask b1) ?_ ?_
  · rw [Int.toNat_natCast, pow_nat]; omega
  · rw [Int.toNat_natCast, pow_nat]; exact_mod_cast b3
abbrev chkbVS : Spec := chkbS
theorem chkbV_ok : Ok Try.prog 80 chkbVS := chkb_ok
theorem chkbV_at (N : Nat) (m : List Bl) (w k : Nat) (h : Vb N m w k) : chkbVS.rel [.agg [iv N, dN m], iv w, iv k] [] (.tup [iv ((2 ^ k : Nat) : Int), iv 0]) [] := by
  have := chkbY_at (N : Int) (m.map toI) (w : Int) (k : Int) h.z.len6 h.ask
  rwa [zv_toI, Int.toNat_natCast, pow_nat] at this

def frF (m : List Bl) (w k i : Nat) : Bool := frM m i || inb w k i
/-- no frame of the block is free -/
def Nofr (m : List Bl) (w k : Nat) : Prop := ∀ i, inb w k i = true → frM m i = false
theorem nofr_iff {N : Nat} {m : List Bl} {w k : Nat} (h : Vb N m w k) : Nofr m w k ↔ ∀ b ∈ m, ¬ (b.1 < w + 2 ^ k ∧ w < b.1 + 2 ^ b.2) := by
  constructor
  · rintro hn b hb ⟨h1, h2⟩
    have hp := two_pos b.2
    have hpk := two_pos k
    have hi : inb w k (max w b.1) = true := inb_iff.2 ⟨by dsimp only; omega, by dsimp only; omega⟩
    have := hn _ hi
    rw [(frM_iff (l := m)).2 ⟨b, hb, by omega, by omega⟩] at this
    cases this
  · intro hall i hi
    have hi := inb_iff.1 hi
    cases hf : frM m i with
    | false => rfl
    | true =>
      obtain ⟨b, hb, b1, b2⟩ := frM_iff.1 hf
      obtain ⟨i1, i2⟩ := hi
      dsimp only at i1 i2
      exact absurd ⟨by omega, by omega⟩ (hall b hb)

def FreeS : Spec := { rel := fun args ins res outs => (∃ (n : Int) (l : List Bi) (a k : Int), l.length ≤ 1000000 ∧ askB n l a k ≠ 0 ∧ args = [zv n l, iv a, iv k] ∧ ins = [] ∧ res = .tup [.agg [iv 0, .nil], iv (askB n l a k)] ∧ outs = []) ∨
  (∃ (N : Nat) (m : List Bl) (w k : Nat), Vb N m w k ∧ ¬ Nofr m w k ∧ args = [.agg [iv N, dN m], iv w, iv k] ∧ ins = [] ∧ res = .tup [.agg [iv 0, .nil], iv 7] ∧ outs = []) ∨
  ∃ (N : Nat) (m : List Bl) (w k : Nat), Vb N m w k ∧ Nofr m w k ∧ args = [.agg [iv N, dN m], iv w, iv k] ∧ ins = [] ∧ res = .tup [.agg [iv N, .row 0 2 0 (bld N (frF m w k)).length], iv 0] ∧ outs = [.rows 87 2 ((bld N (frF m w k)).map encN)] }
set_option maxHeartbeats 16000000 in
theorem Free_ok : Ok Try.prog 62 FreeS := by
  refine fn_ok FreeS Try.func62 rfl rfl ?_
  intro args ins res outs hrel
  refine ⟨?_, ?_⟩
  · rcases hrel with ⟨n, l, a, k, hl, hc, rfl, rfl, rfl, rfl⟩ | ⟨N, m, w, k, hv, hno, rfl, rfl, rfl, rfl⟩ | ⟨N, m, w, k, hv, hno, rfl, rfl, rfl, rfl⟩ <;> simp [Try.ntmps62]
  intro w0 V Bo mu0
  rcases hrel with ⟨n, l, a, k, hl, hc, rfl, rfl, rfl, rfl⟩ | hrel
  · skip
    repeat' (first
      | (with_reducible first | refine W_seq ?_ | refine W_condT rfl ?_ | refine W_condF rfl ?_ | refine W_tf rfl (fun h => ?_) (fun h => ?_) | refine W_block ?_ | refine endQ_ret ?_ | refine endQ_normal ?_)
      | ((with_reducible first | refine hK _ ?_ | refine hK _ _ ?_); clear hK K)
      | ((first | (with_reducible first | refine ops_cons (fun K hK => ?_) | refine opsd_cons (fun K hK => ?_) | refine ops_nil ?_ | refine fit_i64 (by omega) ?_ | refine fit_any ?_) | ((with_reducible refine opsd_nil ?_); refine And.intro (by kernel_rfl) ?_) | with_reducible refine callV_snap ?_ | ((with_reducible refine call_go chkbNS chkbN_ok ?_); refine ⟨(by first | exact alOk_nil _ | exact alOk_f rfl), _, _, chkbN_at _ _ _ _ hl hc, ?_⟩) | (with_reducible first | refine idx_map (by omega) ?_ | refine W_reg lv62BdO ?_ | refine W_drw lv62BdO (by kernel_rfl) ?_ | refine W_skip ?_ | refine W_exit ?_ | refine W_ret ?_ | refine end_at0 ?_) | (with_reducible refine And.intro (fun h => ?_) (fun h => ?_)) | (with_reducible refine And.intro (by omega) ?_)); (try simp only [go_sem, seval, reduceCtorEq, hc, lv62BdO, Try.ntmps62, Try.results62, FreeS]))
      | fail)
  have key : ∃ (N : Nat) (m : List Bl) (w k : Nat), Vb N m w k ∧ args = [.agg [iv N, dN m], iv w, iv k] ∧ ins = [] ∧ (¬ Nofr m w k ∧ res = .tup [.agg [iv 0, .nil], iv 7] ∧ outs = [] ∨
      Nofr m w k ∧ res = .tup [.agg [iv N, .row 0 2 0 (bld N (frF m w k)).length], iv 0] ∧ outs = [.rows 87 2 ((bld N (frF m w k)).map encN)]) := by
    rcases hrel with ⟨N, m, w, k, hv, hno, rfl, rfl, rfl, rfl⟩ | ⟨N, m, w, k, hv, hno, rfl, rfl, rfl, rfl⟩
    · exact ⟨N, m, w, k, hv, rfl, rfl, .inl ⟨hno, rfl, rfl⟩⟩
    · exact ⟨N, m, w, k, hv, rfl, rfl, .inr ⟨hno, rfl, rfl⟩⟩
  clear hrel
  obtain ⟨N, m, w, k, hv, rfl, rfl, hout⟩ := key
  rw [nofr_iff hv] at hout
  have hlen : m.length ≤ 1000000 := by have := hv.z.v.len; omega
  obtain ⟨b1, b2, b3⟩ := hv.b
  dsimp only at b1 b2 b3
  have hn := hv.z.v.n
  have hpk := p64 k b1
  have hsz : (w : Int) + ((2 ^ k : Nat) : Int) = ((w + 2 ^ k : Nat) : Int) := by omega
  repeat' (first
    | (with_reducible first | refine W_seq ?_ | refine W_condT rfl ?_ | refine W_condF rfl ?_ | refine W_tf rfl (fun h => ?_) (fun h => ?_) | refine W_block ?_ | refine endQ_ret ?_ | refine endQ_normal ?_)
    | ((with_reducible first | refine hK _ ?_ | refine hK _ _ ?_); clear hK K)
    | ((first | (with_reducible first | refine ops_cons (fun K hK => ?_) | refine opsd_cons (fun K hK => ?_) | refine ops_nil ?_ | refine fit_i64 (by omega) ?_ | refine fit_any ?_) | ((with_reducible refine opsd_nil ?_); refine And.intro (by kernel_rfl) ?_) | with_reducible refine callV_snap ?_ | ((with_reducible refine call_go chkbVS chkbV_ok ?_); refine ⟨(by first | exact alOk_nil _ | exact alOk_f rfl), _, _, chkbV_at _ _ _ _ hv, ?_⟩) | (with_reducible first | refine idx_map (by omega) ?_ | refine W_reg lv62BdO ?_ | refine W_drw lv62BdO (by kernel_rfl) ?_ | refine W_skip ?_ | refine W_exit ?_ | refine W_ret ?_ | refine end_at0 ?_) | (with_reducible refine And.intro (fun h => ?_) (fun h => ?_)) | (with_reducible refine And.intro (by omega) ?_)); (try simp only [go_sem, seval, reduceCtorEq, lv62BdO, Try.ntmps62, Try.results62, FreeS]))
    | fail)
  refine W_loop (fun i : Nat => ⟨[(1, iv w), (2, iv k), (3, .ptr 0 0), (6, .ptr 1 0), (8, iv ((2 ^ k : Nat) : Int)), (25, dN m), (26, iv m.length), (27, iv i)], [some (.box 59 [iv N, dN m]), some (.box 59 [iv 0, .nil])]⟩) (fun i => i ≤ m.length ∧ ∀ j (hj : j < m.length), j < i → ¬ ((m[j]).1 < w + 2 ^ k ∧ w < (m[j]).1 + 2 ^ (m[j]).2)) (fun i => m.length - i) 0 ⟨Nat.zero_le _, fun j _ h => by omega⟩ [0, 1] ?_ ?_
  · simp [go_sem]
  rintro i ⟨hi, hno⟩
  by_cases hlt : i < m.length
  · have hki : (i : Int) < m.length := by omega
    obtain ⟨r1, r2⟩ := hv.z.v.bls.rng _ (List.getElem_mem hlt)
    have r3 : (m[i]).1 ≤ 256 := by omega
    have hp := p64 _ r2
    by_cases c1 : (m[i]).1 < w + 2 ^ k
    · have d1 : ((m[i]).1 : Int) < ((w + 2 ^ k : Nat) : Int) := by omega
      by_cases c2 : w < (m[i]).1 + 2 ^ (m[i]).2
      · have d2 : (w : Int) < (((m[i]).1 + 2 ^ (m[i]).2 : Nat) : Int) := by omega
        rcases hout with ⟨_, rfl, rfl⟩ | ⟨hall, rfl, rfl⟩
        · skip
          repeat' (first
            | (with_reducible first | refine W_seq ?_ | refine W_condT rfl ?_ | refine W_condF rfl ?_ | refine W_tf rfl (fun h => ?_) (fun h => ?_) | refine W_block ?_ | refine endQ_ret ?_ | refine endQ_normal ?_)
            | ((with_reducible first | refine hK _ ?_ | refine hK _ _ ?_); clear hK K)
            | ((first | (with_reducible first | refine ops_cons (fun K hK => ?_) | refine opsd_cons (fun K hK => ?_) | refine ops_nil ?_ | refine fit_i64 (by omega) ?_ | refine fit_any ?_) | ((with_reducible refine opsd_nil ?_); refine And.intro (by kernel_rfl) ?_) | with_reducible refine callV_snap ?_ | ((with_reducible refine call_go nendS nend_ok ?_); refine ⟨(by first | exact alOk_nil _ | exact alOk_f rfl), _, _, nend_at _ r2 r3, ?_⟩) | (with_reducible first | refine idx_map (by omega) ?_ | refine W_reg lv62BdO ?_ | refine W_drw lv62BdO (by kernel_rfl) ?_ | refine W_skip ?_ | refine W_exit ?_ | refine W_ret ?_ | refine end_at0 ?_) | (with_reducible refine And.intro (fun h => ?_) (fun h => ?_)) | (with_reducible refine And.intro (by omega) ?_)); (try simp only [go_sem, seval, reduceCtorEq, hki, encN, hsz, d1, d2, lv62BdO, Try.ntmps62, Try.results62, FreeS]))
            | fail)
        · exact absurd ⟨c1, c2⟩ (hall _ (List.getElem_mem hlt))
      · have d2 : ¬ (w : Int) < (((m[i]).1 + 2 ^ (m[i]).2 : Nat) : Int) := by omega
        repeat' (first
          | (with_reducible first | refine W_seq ?_ | refine W_condT rfl ?_ | refine W_condF rfl ?_ | refine W_tf rfl (fun h => ?_) (fun h => ?_) | refine W_block ?_ | refine endQ_ret ?_ | refine endQ_normal ?_)
          | ((with_reducible first | refine hK _ ?_ | refine hK _ _ ?_); clear hK K)
          | ((first | (with_reducible first | refine ops_cons (fun K hK => ?_) | refine opsd_cons (fun K hK => ?_) | refine ops_nil ?_ | refine fit_i64 (by omega) ?_ | refine fit_any ?_) | ((with_reducible refine opsd_nil ?_); refine And.intro (by kernel_rfl) ?_) | with_reducible refine callV_snap ?_ | ((with_reducible refine call_go nendS nend_ok ?_); refine ⟨(by first | exact alOk_nil _ | exact alOk_f rfl), _, _, nend_at _ r2 r3, ?_⟩) | (with_reducible first | refine idx_map (by omega) ?_ | refine W_reg lv62BdO ?_ | refine W_drw lv62BdO (by kernel_rfl) ?_ | refine W_skip ?_ | refine W_exit ?_ | refine W_ret ?_ | refine end_at0 ?_) | (with_reducible refine And.intro (fun h => ?_) (fun h => ?_)) | (with_reducible refine And.intro (by omega) ?_)); (try simp only [go_sem, seval, reduceCtorEq, hki, encN, hsz, d1, d2, lv62BdO, Try.ntmps62, Try.results62, FreeS]))
          | fail)
        refine ⟨i + 1, [0, 1], ⟨by omega, fun j hj hji => ?_⟩, by omega, ?_⟩
        · rcases Nat.lt_or_ge j i with h | h
          · exact hno j hj h
          · obtain rfl : j = i := by omega
            exact fun hh => c2 hh.2
        · simp [go_sem]
    · have d1 : ¬ ((m[i]).1 : Int) < ((w + 2 ^ k : Nat) : Int) := by omega
      repeat' (first
        | (with_reducible first | refine W_seq ?_ | refine W_condT rfl ?_ | refine W_condF rfl ?_ | refine W_tf rfl (fun h => ?_) (fun h => ?_) | refine W_block ?_ | refine endQ_ret ?_ | refine endQ_normal ?_)
        | ((with_reducible first | refine hK _ ?_ | refine hK _ _ ?_); clear hK K)
        | ((first | (with_reducible first | refine ops_cons (fun K hK => ?_) | refine opsd_cons (fun K hK => ?_) | refine ops_nil ?_ | refine fit_i64 (by omega) ?_ | refine fit_any ?_) | ((with_reducible refine opsd_nil ?_); refine And.intro (by kernel_rfl) ?_) | with_reducible refine callV_snap ?_ | ((with_reducible refine call_go nendS nend_ok ?_); refine ⟨(by first | exact alOk_nil _ | exact alOk_f rfl), _, _, nend_at _ r2 r3, ?_⟩) | (with_reducible first | refine idx_map (by omega) ?_ | refine W_reg lv62BdO ?_ | refine W_drw lv62BdO (by kernel_rfl) ?_ | refine W_skip ?_ | refine W_exit ?_ | refine W_ret ?_ | refine end_at0 ?_) | (with_reducible refine And.intro (fun h => ?_) (fun h => ?_)) | (with_reducible refine And.intro (by omega) ?_)); (try simp only [go_sem, seval, reduceCtorEq, hki, encN, hsz, d1, lv62BdO, Try.ntmps62, Try.results62, FreeS]))
        | fail)
      refine ⟨i + 1, [0, 1], ⟨by omega, fun j hj hji => ?_⟩, by omega, ?_⟩
      · rcases Nat.lt_or_ge j i with h | h
        · exact hno j hj h
        · obtain rfl : j = i := by omega
          exact fun hh => c1 hh.1
      · simp [go_sem]
  · have hki : ¬ (i : Int) < m.length := by omega
    have hall : ∀ b ∈ m, ¬ (b.1 < w + 2 ^ k ∧ w < b.1 + 2 ^ b.2) := by
      intro b hb
      obtain ⟨j, hj, rfl⟩ := List.getElem_of_mem hb
      exact hno j hj (by omega)
    rcases hout with ⟨hn, rfl, rfl⟩ | ⟨_, rfl, rfl⟩
    · exact absurd hall hn
    have hres := free_law hv.z.v hv.b ((nofr_iff hv).2 hall)
    have hsh := hv.z.v.sh
    have hr : Res N (frF m w k) (joinL (shv m) w k) := hres
    have r1 := hr.sh
    have r2 := hr.perm
    have r3 := hr.srt
    clear hres hr
    generalize bld N (frF m w k) = Z at *
    have hw : w < 256 := by omega
    repeat' (first
      | (with_reducible first | refine W_seq ?_ | refine W_condT rfl ?_ | refine W_condF rfl ?_ | refine W_tf rfl (fun h => ?_) (fun h => ?_) | refine W_block ?_ | refine endQ_ret ?_ | refine endQ_normal ?_)
      | ((with_reducible first | refine hK _ ?_ | refine hK _ _ ?_); clear hK K)
      | (with_reducible refine halt_call 83 ?_)
      | ((first | (with_reducible first | refine ops_cons (fun K hK => ?_) | refine opsd_cons (fun K hK => ?_) | refine ops_nil ?_ | refine fit_i64 (by omega) ?_ | refine fit_any ?_) | ((with_reducible refine opsd_nil ?_); refine And.intro (by kernel_rfl) ?_) | ((with_reducible refine callV_lend joinS [2,3,4,5,6,7,8,9] join_ok rfl ?_); simp only [go_sem, seval, reduceCtorEq, hki, joinS, decide_true, Bool.and_self, lv62BdO]; refine ⟨(by first | exact alOk_nil _ | exact alOk_f rfl), rfl, _, _, join_at (shv m) k w b1 hw b3 hsh, ?_⟩) | with_reducible refine callV_snap ?_ | ((with_reducible refine call_go shelveS shelve_ok ?_); refine ⟨(by first | exact alOk_nil _ | exact alOk_f rfl), _, _, shelve_at m hlen hv.z.v.bls, ?_⟩) | (with_reducible first | refine idx_map (by omega) ?_ | refine W_reg lv62BdO ?_ | refine W_drw lv62BdO (by kernel_rfl) ?_ | refine W_skip ?_ | refine W_exit ?_ | refine end_at0 ?_) | (with_reducible refine And.intro (fun h => ?_) (fun h => ?_)) | (with_reducible refine And.intro (by omega) ?_)); (try simp only [go_sem, seval, reduceCtorEq, hki, joinS, decide_true, Bool.and_self, lv62BdO, joinS, Try.ntmps62, Try.results62, FreeS]))
      | fail)
    unfold Halt
    refine callV_lend listS [2, 10, 11, 12, 13, 14, 15, 16] list_ok rfl ?_
    simp only [go_sem, seval, reduceCtorEq]
    refine ⟨(by first | exact alOk_nil _ | exact alOk_f rfl), rfl, _, _, list_at (joinL (shv m) w k) Z r1 r2 r3, ?_⟩
    simp only [go_sem, seval, reduceCtorEq, listS, shI, List.cons_append, List.nil_append, decide_true, Bool.and_self]
    repeat' (first
      | (with_reducible first | refine W_seq ?_ | refine W_condT rfl ?_ | refine W_condF rfl ?_ | refine W_tf rfl (fun h => ?_) (fun h => ?_) | refine W_block ?_ | refine endQ_ret ?_ | refine endQ_normal ?_)
      | ((with_reducible first | refine hK _ ?_ | refine hK _ _ ?_); clear hK K)
      | ((first | (with_reducible first | refine ops_cons (fun K hK => ?_) | refine opsd_cons (fun K hK => ?_) | refine ops_nil ?_ | refine fit_i64 (by omega) ?_ | refine fit_any ?_) | ((with_reducible refine opsd_nil ?_); refine And.intro (by kernel_rfl) ?_) | with_reducible refine callV_snap ?_ | (with_reducible first | refine idx_map (by omega) ?_ | refine W_reg lv62BdO ?_ | refine W_drw lv62BdO (by kernel_rfl) ?_ | refine W_skip ?_ | refine W_exit ?_ | refine end_at0 ?_) | (with_reducible refine And.intro (fun h => ?_) (fun h => ?_)) | (with_reducible refine And.intro (by omega) ?_)); (try simp only [go_sem, seval, reduceCtorEq, decide_true, Bool.and_self, lv62BdO, Try.ntmps62, Try.results62, FreeS]))
      | fail)
    refine W_ret (endQ_ret (end_at [17] ?_))
    simp [go_sem, Try.results62, FreeS]
    simpa [flatD, encN] using encNe.flat Z
end Go.Proofs.Ytacfipmigkbncaa

/- buddy.Take by the engine. -/
namespace Go.Proofs.Ytacfipmigkbncaa
open Go.RowKit
set_option maxRecDepth 100000
set_option linter.unusedSimpArgs false
set_option linter.unusedVariables false

/-- all frames of the block are free -/
def Allfr (m : List Bl) (w k : Nat) : Prop := ∀ i, inb w k i = true → frM m i = true
theorem tkP_iff {w k : Nat} {b : Bl} : tkP w k b = true ↔ b.1 ≤ w ∧ w + 2 ^ k ≤ b.1 + 2 ^ b.2 := by unfold tkP; simp
theorem allfr_iff {N : Nat} {m : List Bl} {w k : Nat} (h : Vb N m w k) : Allfr m w k ↔ ∃ b ∈ m, tkP w k b = true := by
  constructor
  · intro ha
    obtain ⟨b, h1, h2, h3, h4⟩ := h.z.v.block h.b.1 h.b.2.2 ha
    exact ⟨b, h1, tkP_iff.2 ⟨h2, h3⟩⟩
  · rintro ⟨b, hb, ht⟩ i hi
    obtain ⟨t1, t2⟩ := tkP_iff.1 ht
    obtain ⟨i1, i2⟩ := inb_iff.1 hi
    dsimp only at i1 i2
    exact frM_iff.2 ⟨b, hb, by omega, by omega⟩
def TakeS : Spec := { rel := fun args ins res outs => (∃ (n : Int) (l : List Bi) (a k : Int), l.length ≤ 1000000 ∧ askB n l a k ≠ 0 ∧ args = [zv n l, iv a, iv k] ∧ ins = [] ∧ res = .tup [.agg [iv 0, .nil], iv (askB n l a k)] ∧ outs = []) ∨
  (∃ (N : Nat) (m : List Bl) (w k : Nat), Vb N m w k ∧ ¬ Allfr m w k ∧ args = [.agg [iv N, dN m], iv w, iv k] ∧ ins = [] ∧ res = .tup [.agg [iv 0, .nil], iv 5] ∧ outs = []) ∨
  ∃ (N : Nat) (m : List Bl) (w k : Nat), Vb N m w k ∧ Allfr m w k ∧ args = [.agg [iv N, dN m], iv w, iv k] ∧ ins = [] ∧ res = .tup [.agg [iv N, .row 0 2 0 (bld N (frA m w k)).length], iv 0] ∧ outs = [.rows 87 2 ((bld N (frA m w k)).map encN)] }
end Go.Proofs.Ytacfipmigkbncaa
