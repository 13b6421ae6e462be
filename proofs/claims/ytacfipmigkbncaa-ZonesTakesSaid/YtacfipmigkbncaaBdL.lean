/- buddy: Most, Is, Counts, New; by the engine. -/
import Derived.Test.YtacfipmigkbncaaBdK
namespace Go.Proofs.Ytacfipmigkbncaa
open Go.RowKit
set_option maxRecDepth 100000
set_option linter.unusedSimpArgs false
set_option linter.unusedVariables false

abbrev lv57BdL : List (Nat × List Nat) := [(0, [2, 3]), (1, [2, 3, 6]), (2, [2, 3, 6, 14]), (3, [4, 5]), (4, [2, 3, 23]), (5, [4, 5]), (6, [4, 5])]
abbrev lv89BdL : List (Nat × List Nat) := [(0, [0, 1]), (1, [0, 1, 7, 8]), (2, [0, 1, 7, 8, 9]), (3, [0, 1, 5, 7, 8]), (4, [0, 1, 5, 7, 8, 16]), (5, [4]), (6, [0, 1, 7, 8]), (7, [4])]
/-- a valid zone that the check passes -/
structure Vz (N : Nat) (m : List Bl) : Prop where
  v : Vn N m
  c : zchk N (m.map toI) = (0, 0)
theorem Vz.c1 {N : Nat} {m : List Bl} (h : Vz N m) : (zchk N (m.map toI)).1 = 0 := by rw [h.c]
theorem vz_of {n : Int} {l : List Bi} (h : (zchk n l).1 = 0) : ∃ (N : Nat) (m : List Bl), n = N ∧ l = m.map toI ∧ Vz N m := by
  have hz := zchk_val h
  obtain ⟨N, m, rfl, rfl, hv⟩ := zi_vn hz
  exact ⟨N, m, rfl, rfl, hv, val_zchk hz⟩
theorem Vz.ask {N : Nat} {m : List Bl} (h : Vz N m) {k : Nat} (hk : k ≤ 6) : askE N (m.map toI) k = 0 := askE_ok h.c1 (by omega)
theorem Vz.len6 {N : Nat} {m : List Bl} (h : Vz N m) : (m.map toI).length ≤ 1000000 := by have := h.v.len; simp; omega

abbrev chkdVS : Spec := chkdS
theorem chkdV_ok : Ok Try.prog 85 chkdVS := chkd_ok
theorem chkdV_at (N : Nat) (m : List Bl) (k : Nat) (h : Vz N m) (hk : k ≤ 6) : chkdVS.rel [.agg [iv N, dN m], iv k] [] (.tup [iv ((2 ^ k : Nat) : Int), iv 0]) [] := by
  have := chkdY_at (N : Int) (m.map toI) (k : Int) h.len6 (h.ask hk)
  rwa [zv_toI, Int.toNat_natCast, pow_nat] at this
abbrev CheckWS : Spec := CheckS
theorem CheckW_ok : Ok Try.prog 50 CheckWS := Check_ok
theorem CheckW_at (N : Nat) (m : List Bl) (h : Vz N m) : CheckWS.rel [.agg [iv N, dN m]] [] (.tup [iv 0, iv 0]) [] := by
  have := Check_at (N : Int) (m.map toI) h.len6
  rwa [zv_toI, h.c] at this

def MostS : Spec := { rel := fun args ins res outs => (∃ (n : Int) (l : List Bi) (k : Int), l.length ≤ 1000000 ∧ askE n l k ≠ 0 ∧ args = [zv n l, iv k] ∧ ins = [] ∧ res = .tup [iv 0, iv (askE n l k)] ∧ outs = []) ∨
  ∃ (N : Nat) (m : List Bl) (k : Nat), Vz N m ∧ k ≤ 6 ∧ args = [.agg [iv N, dN m], iv k] ∧ ins = [] ∧ res = .tup [iv (mst m k), iv 0] ∧ outs = [] }
abbrev MostNS : Spec := MostS
theorem MostN_at (n : Int) (l : List Bi) (k : Int) (h : l.length ≤ 1000000) (hc : askE n l k ≠ 0) : MostNS.rel [zv n l, iv k] [] (.tup [iv 0, iv (askE n l k)]) [] := .inl ⟨n, l, k, h, hc, rfl, rfl, rfl, rfl⟩
theorem Most_at (N : Nat) (m : List Bl) (k : Nat) (h : Vz N m) (hk : k ≤ 6) : MostS.rel [.agg [iv N, dN m], iv k] [] (.tup [iv (mst m k), iv 0]) [] := .inr ⟨N, m, k, h, hk, rfl, rfl, rfl, rfl⟩

/-! ### the first block that .. -/
def fidx (p : Bl → Bool) (l : List Bl) : Int := match l.findIdx? p with
  | some k => (k : Int)
  | none => -1
theorem fidx_some {p : Bl → Bool} {l : List Bl} {k : Nat} (hk : k < l.length) (h1 : p l[k] = true) (h2 : ∀ j (hj : j < l.length), j < k → p l[j] = false) : fidx p l = k := by
  have : l.findIdx? p = some k := by
    rw [List.findIdx?_eq_some_iff_getElem]
    exact ⟨hk, h1, fun j hj => by simpa using h2 j (by omega) hj⟩
  simp only [fidx, this]
theorem fidx_none {p : Bl → Bool} {l : List Bl} (h : ∀ b ∈ l, p b = false) : fidx p l = -1 := by
  have : l.findIdx? p = none := by rw [List.findIdx?_eq_none_iff]; exact h
  simp only [fidx, this]
def ix1S (f : FuncId) (ds : List D) (p : Bl → Bool) : Spec := { rel := fun args ins res outs => ∃ l : List Bl, l.length ≤ 1000000 ∧ (∀ b ∈ l, b.1 < 256 ∧ b.2 ≤ 6) ∧ args = [dN l, .fn f [.dp ds]] ∧ ins = [] ∧ res = iv (fidx p l) ∧ outs = [] }
set_option maxHeartbeats 1000000 in
theorem ix1_ok {f : FuncId} {ds : List D} {p : Bl → Bool} (pcS : Spec) (pc_ok : Ok Try.prog f pcS) (pc_at : ∀ x : Bl, x.1 < 256 → x.2 ≤ 6 → pcS.rel [.agg [iv x.1, iv x.2], .dp ds] [] (bv (p x)) []) : Ok Try.prog 89 (ix1S f ds p) := by
  refine fn_ok (ix1S f ds p) Try.func89 rfl rfl ?_
  rintro args ins res outs ⟨l, hl, hr, rfl, rfl, rfl, rfl⟩
  refine ⟨by simp [Try.ntmps89], fun w0 V Bo mu0 => ?_⟩
  repeat' (first
    | (with_reducible first | refine W_seq ?_ | refine W_condT rfl ?_ | refine W_condF rfl ?_ | refine W_tf rfl (fun h => ?_) (fun h => ?_) | refine W_block ?_ | refine endQ_ret ?_ | refine endQ_normal ?_)
    | ((with_reducible first | refine hK _ ?_ | refine hK _ _ ?_); clear hK K)
    | ((first | (with_reducible first | refine ops_cons (fun K hK => ?_) | refine ops_nil ?_ | refine fit_i64 (by omega) ?_ | refine fit_any ?_) | with_reducible refine callV_snap ?_ | (with_reducible first | refine idx_map (by omega) ?_ | refine W_reg lv89BdL ?_ | refine W_skip ?_ | refine W_exit ?_ | refine W_ret ?_ | refine end_at0 ?_) | (with_reducible refine And.intro (fun h => ?_) (fun h => ?_)) | (with_reducible refine And.intro (by omega) ?_)); (try simp only [go_sem, seval, reduceCtorEq, lv89BdL, Try.ntmps89, Try.results89, ix1S]))
    | fail)
  refine W_loop (fun k : Nat => ⟨[(0, dN l), (1, .fn f [.dp ds]), (7, iv l.length), (8, iv k)], []⟩) (fun k => k ≤ l.length ∧ ∀ j (hj : j < l.length), j < k → p (l[j]) = false) (fun k => l.length - k) 0 ⟨Nat.zero_le _, fun _ _ h => absurd h (by omega)⟩ [] ?_ ?_
  · simp [go_sem]
  rintro k ⟨hk, hp⟩
  by_cases hlt : k < l.length
  · have hki : (k : Int) < l.length := by omega
    obtain ⟨r1, r2⟩ := hr _ (List.getElem_mem hlt)
    cases h1 : p l[k] with
    | true =>
      have e : fidx p l = k := fidx_some hlt h1 (fun j hj hjk => hp j hj hjk)
      repeat' (first
        | (with_reducible first | refine W_seq ?_ | refine W_condT rfl ?_ | refine W_condF rfl ?_ | refine W_tf rfl (fun h => ?_) (fun h => ?_) | refine W_block ?_ | refine endQ_ret ?_ | refine endQ_normal ?_)
        | ((with_reducible first | refine hK _ ?_ | refine hK _ _ ?_); clear hK K)
        | ((first | (with_reducible first | refine ops_cons (fun K hK => ?_) | refine ops_nil ?_ | refine fit_i64 (by omega) ?_ | refine fit_any ?_) | with_reducible refine callV_snap ?_ | ((with_reducible refine call_go pcS pc_ok ?_); refine ⟨(by first | exact alOk_nil _ | exact alOk_f rfl), _, _, pc_at l[k] r1 r2, ?_⟩) | (with_reducible first | refine idx_map (by omega) ?_ | refine W_reg lv89BdL ?_ | refine W_skip ?_ | refine W_exit ?_ | refine W_ret ?_ | refine end_at0 ?_) | (with_reducible refine And.intro (fun h => ?_) (fun h => ?_)) | (with_reducible refine And.intro (by omega) ?_)); (try simp only [go_sem, seval, reduceCtorEq, encN, hki, h1, e, lv89BdL, Try.ntmps89, Try.results89, ix1S]))
        | fail)
    | false =>
      repeat' (first
        | (with_reducible first | refine W_seq ?_ | refine W_condT rfl ?_ | refine W_condF rfl ?_ | refine W_tf rfl (fun h => ?_) (fun h => ?_) | refine W_block ?_ | refine endQ_ret ?_ | refine endQ_normal ?_)
        | ((with_reducible first | refine hK _ ?_ | refine hK _ _ ?_); clear hK K)
        | ((first | (with_reducible first | refine ops_cons (fun K hK => ?_) | refine ops_nil ?_ | refine fit_i64 (by omega) ?_ | refine fit_any ?_) | with_reducible refine callV_snap ?_ | ((with_reducible refine call_go pcS pc_ok ?_); refine ⟨(by first | exact alOk_nil _ | exact alOk_f rfl), _, _, pc_at l[k] r1 r2, ?_⟩) | (with_reducible first | refine idx_map (by omega) ?_ | refine W_reg lv89BdL ?_ | refine W_skip ?_ | refine W_exit ?_ | refine W_ret ?_ | refine end_at0 ?_) | (with_reducible refine And.intro (fun h => ?_) (fun h => ?_)) | (with_reducible refine And.intro (by omega) ?_)); (try simp only [go_sem, seval, reduceCtorEq, encN, hki, h1, lv89BdL, Try.ntmps89, Try.results89, ix1S]))
        | fail)
      refine ⟨k + 1, [], ⟨by omega, fun j hj hjk => ?_⟩, by omega, ?_⟩
      · rcases Nat.lt_or_ge j k with h | h
        · exact hp j hj h
        · obtain rfl : j = k := by omega
          exact h1
      · simp [go_sem]
  · have hki : ¬ (k : Int) < l.length := by omega
    have e : fidx p l = -1 := fidx_none (fun b hb => by
      obtain ⟨j, hj, rfl⟩ := List.getElem_of_mem hb
      exact hp j hj (by omega))
    repeat' (first
      | (with_reducible first | refine W_seq ?_ | refine W_condT rfl ?_ | refine W_condF rfl ?_ | refine W_tf rfl (fun h => ?_) (fun h => ?_) | refine W_block ?_ | refine endQ_ret ?_ | refine endQ_normal ?_)
      | ((with_reducible first | refine hK _ ?_ | refine hK _ _ ?_); clear hK K)
      | ((first | (with_reducible first | refine ops_cons (fun K hK => ?_) | refine ops_nil ?_ | refine fit_i64 (by omega) ?_ | refine fit_any ?_) | with_reducible refine callV_snap ?_ | (with_reducible first | refine idx_map (by omega) ?_ | refine W_reg lv89BdL ?_ | refine W_skip ?_ | refine W_exit ?_ | refine W_ret ?_ | refine end_at0 ?_) | (with_reducible refine And.intro (fun h => ?_) (fun h => ?_)) | (with_reducible refine And.intro (by omega) ?_)); (try simp only [go_sem, seval, reduceCtorEq, hki, e, lv89BdL, Try.ntmps89, Try.results89, ix1S]))
      | fail)
def ix2S (f : FuncId) (ds es : List D) (p : Bl → Bool) : Spec := { rel := fun args ins res outs => ∃ l : List Bl, l.length ≤ 1000000 ∧ (∀ b ∈ l, b.1 < 256 ∧ b.2 ≤ 6) ∧ args = [dN l, .fn f [.dp ds, .dp es]] ∧ ins = [] ∧ res = iv (fidx p l) ∧ outs = [] }
set_option maxHeartbeats 1000000 in
theorem ix2_ok {f : FuncId} {ds es : List D} {p : Bl → Bool} (pcS : Spec) (pc_ok : Ok Try.prog f pcS) (pc_at : ∀ x : Bl, x.1 < 256 → x.2 ≤ 6 → pcS.rel [.agg [iv x.1, iv x.2], .dp ds, .dp es] [] (bv (p x)) []) : Ok Try.prog 89 (ix2S f ds es p) := by
  refine fn_ok (ix2S f ds es p) Try.func89 rfl rfl ?_
  rintro args ins res outs ⟨l, hl, hr, rfl, rfl, rfl, rfl⟩
  refine ⟨by simp [Try.ntmps89], fun w0 V Bo mu0 => ?_⟩
  repeat' (first
    | (with_reducible first | refine W_seq ?_ | refine W_condT rfl ?_ | refine W_condF rfl ?_ | refine W_tf rfl (fun h => ?_) (fun h => ?_) | refine W_block ?_ | refine endQ_ret ?_ | refine endQ_normal ?_)
    | ((with_reducible first | refine hK _ ?_ | refine hK _ _ ?_); clear hK K)
    | ((first | (with_reducible first | refine ops_cons (fun K hK => ?_) | refine ops_nil ?_ | refine fit_i64 (by omega) ?_ | refine fit_any ?_) | with_reducible refine callV_snap ?_ | (with_reducible first | refine idx_map (by omega) ?_ | refine W_reg lv89BdL ?_ | refine W_skip ?_ | refine W_exit ?_ | refine W_ret ?_ | refine end_at0 ?_) | (with_reducible refine And.intro (fun h => ?_) (fun h => ?_)) | (with_reducible refine And.intro (by omega) ?_)); (try simp only [go_sem, seval, reduceCtorEq, lv89BdL, Try.ntmps89, Try.results89, ix2S]))
    | fail)
  refine W_loop (fun k : Nat => ⟨[(0, dN l), (1, .fn f [.dp ds, .dp es]), (7, iv l.length), (8, iv k)], []⟩) (fun k => k ≤ l.length ∧ ∀ j (hj : j < l.length), j < k → p (l[j]) = false) (fun k => l.length - k) 0 ⟨Nat.zero_le _, fun _ _ h => absurd h (by omega)⟩ [] ?_ ?_
  · simp [go_sem]
  rintro k ⟨hk, hp⟩
  by_cases hlt : k < l.length
  · have hki : (k : Int) < l.length := by omega
    obtain ⟨r1, r2⟩ := hr _ (List.getElem_mem hlt)
    cases h1 : p l[k] with
    | true =>
      have e : fidx p l = k := fidx_some hlt h1 (fun j hj hjk => hp j hj hjk)
      repeat' (first
        | (with_reducible first | refine W_seq ?_ | refine W_condT rfl ?_ | refine W_condF rfl ?_ | refine W_tf rfl (fun h => ?_) (fun h => ?_) | refine W_block ?_ | refine endQ_ret ?_ | refine endQ_normal ?_)
        | ((with_reducible first | refine hK _ ?_ | refine hK _ _ ?_); clear hK K)
        | ((first | (with_reducible first | refine ops_cons (fun K hK => ?_) | refine ops_nil ?_ | refine fit_i64 (by omega) ?_ | refine fit_any ?_) | with_reducible refine callV_snap ?_ | ((with_reducible refine call_go pcS pc_ok ?_); refine ⟨(by first | exact alOk_nil _ | exact alOk_f rfl), _, _, pc_at l[k] r1 r2, ?_⟩) | (with_reducible first | refine idx_map (by omega) ?_ | refine W_reg lv89BdL ?_ | refine W_skip ?_ | refine W_exit ?_ | refine W_ret ?_ | refine end_at0 ?_) | (with_reducible refine And.intro (fun h => ?_) (fun h => ?_)) | (with_reducible refine And.intro (by omega) ?_)); (try simp only [go_sem, seval, reduceCtorEq, encN, hki, h1, e, lv89BdL, Try.ntmps89, Try.results89, ix2S]))
        | fail)
    | false =>
      repeat' (first
        | (with_reducible first | refine W_seq ?_ | refine W_condT rfl ?_ | refine W_condF rfl ?_ | refine W_tf rfl (fun h => ?_) (fun h => ?_) | refine W_block ?_ | refine endQ_ret ?_ | refine endQ_normal ?_)
        | ((with_reducible first | refine hK _ ?_ | refine hK _ _ ?_); clear hK K)
        | ((first | (with_reducible first | refine ops_cons (fun K hK => ?_) | refine ops_nil ?_ | refine fit_i64 (by omega) ?_ | refine fit_any ?_) | with_reducible refine callV_snap ?_ | ((with_reducible refine call_go pcS pc_ok ?_); refine ⟨(by first | exact alOk_nil _ | exact alOk_f rfl), _, _, pc_at l[k] r1 r2, ?_⟩) | (with_reducible first | refine idx_map (by omega) ?_ | refine W_reg lv89BdL ?_ | refine W_skip ?_ | refine W_exit ?_ | refine W_ret ?_ | refine end_at0 ?_) | (with_reducible refine And.intro (fun h => ?_) (fun h => ?_)) | (with_reducible refine And.intro (by omega) ?_)); (try simp only [go_sem, seval, reduceCtorEq, encN, hki, h1, lv89BdL, Try.ntmps89, Try.results89, ix2S]))
        | fail)
      refine ⟨k + 1, [], ⟨by omega, fun j hj hjk => ?_⟩, by omega, ?_⟩
      · rcases Nat.lt_or_ge j k with h | h
        · exact hp j hj h
        · obtain rfl : j = k := by omega
          exact h1
      · simp [go_sem]
  · have hki : ¬ (k : Int) < l.length := by omega
    have e : fidx p l = -1 := fidx_none (fun b hb => by
      obtain ⟨j, hj, rfl⟩ := List.getElem_of_mem hb
      exact hp j hj (by omega))
    repeat' (first
      | (with_reducible first | refine W_seq ?_ | refine W_condT rfl ?_ | refine W_condF rfl ?_ | refine W_tf rfl (fun h => ?_) (fun h => ?_) | refine W_block ?_ | refine endQ_ret ?_ | refine endQ_normal ?_)
      | ((with_reducible first | refine hK _ ?_ | refine hK _ _ ?_); clear hK K)
      | ((first | (with_reducible first | refine ops_cons (fun K hK => ?_) | refine ops_nil ?_ | refine fit_i64 (by omega) ?_ | refine fit_any ?_) | with_reducible refine callV_snap ?_ | (with_reducible first | refine idx_map (by omega) ?_ | refine W_reg lv89BdL ?_ | refine W_skip ?_ | refine W_exit ?_ | refine W_ret ?_ | refine end_at0 ?_) | (with_reducible refine And.intro (fun h => ?_) (fun h => ?_)) | (with_reducible refine And.intro (by omega) ?_)); (try simp only [go_sem, seval, reduceCtorEq, hki, e, lv89BdL, Try.ntmps89, Try.results89, ix2S]))
      | fail)

def is1S : Spec := { rel := fun args ins res outs => ∃ (x : Bl) (a : Nat), x.1 < 256 ∧ x.2 ≤ 6 ∧ args = [.agg [iv x.1, iv x.2], .dp [.int .i64 (a : Int)]] ∧ ins = [] ∧ res = bv (decide (x.1 ≤ a) && decide (a < x.1 + 2 ^ x.2)) ∧ outs = [] }
theorem is1_ok : Ok Try.prog 78 is1S := by
  refine fn_ok is1S Try.func78 rfl rfl ?_
  rintro args ins res outs ⟨x, a, h1, h2, rfl, rfl, rfl, rfl⟩
  refine ⟨by simp [Try.ntmps78], fun w0 V Bo mu0 => ?_⟩
  have h3 : x.1 ≤ 256 := by omega
  by_cases c1 : x.1 ≤ a
  · have d1 : (x.1 : Int) ≤ a := by omega
    by_cases c2 : a < x.1 + 2 ^ x.2
    · have d2 : (a : Int) < ((x.1 + 2 ^ x.2 : Nat) : Int) := by omega
      rw [decide_eq_true c1, decide_eq_true c2]
      repeat' (first
        | (with_reducible first | refine W_seq ?_ | refine endQ_ret ?_ | refine endQ_normal ?_)
        | ((with_reducible first | refine hK _ ?_ | refine hK _ _ ?_); clear hK K)
        | ((first | (with_reducible first | refine ops_cons (fun K hK => ?_) | refine opsd_cons (fun K hK => ?_) | refine ops_nil ?_) | ((with_reducible refine opsd_nil ?_); refine And.intro (by kernel_rfl) ?_) | with_reducible refine callV_snap ?_ | ((with_reducible refine call_go nendS nend_ok ?_); refine ⟨(by first | exact alOk_nil _ | exact alOk_f rfl), _, _, nend_at _ h2 h3, ?_⟩) | (with_reducible first | refine W_reg [(0, [1, 2]), (1, [3])] ?_ | refine W_drw [(0, [1, 2]), (1, [3])] (by kernel_rfl) ?_ | refine W_ret ?_ | refine end_at0 ?_) | (with_reducible refine And.intro (fun h => ?_) (fun h => ?_)) | (with_reducible refine And.intro (by omega) ?_)); (try simp only [go_sem, seval, reduceCtorEq, d1, d2, Try.ntmps78, Try.results78, is1S]))
        | fail)
    · have d2 : ¬ (a : Int) < ((x.1 + 2 ^ x.2 : Nat) : Int) := by omega
      rw [decide_eq_true c1, decide_eq_false c2]
      repeat' (first
        | (with_reducible first | refine W_seq ?_ | refine endQ_ret ?_ | refine endQ_normal ?_)
        | ((with_reducible first | refine hK _ ?_ | refine hK _ _ ?_); clear hK K)
        | ((first | (with_reducible first | refine ops_cons (fun K hK => ?_) | refine opsd_cons (fun K hK => ?_) | refine ops_nil ?_) | ((with_reducible refine opsd_nil ?_); refine And.intro (by kernel_rfl) ?_) | with_reducible refine callV_snap ?_ | ((with_reducible refine call_go nendS nend_ok ?_); refine ⟨(by first | exact alOk_nil _ | exact alOk_f rfl), _, _, nend_at _ h2 h3, ?_⟩) | (with_reducible first | refine W_reg [(0, [1, 2]), (1, [3])] ?_ | refine W_drw [(0, [1, 2]), (1, [3])] (by kernel_rfl) ?_ | refine W_ret ?_ | refine end_at0 ?_) | (with_reducible refine And.intro (fun h => ?_) (fun h => ?_)) | (with_reducible refine And.intro (by omega) ?_)); (try simp only [go_sem, seval, reduceCtorEq, d1, d2, Try.ntmps78, Try.results78, is1S]))
        | fail)
  · have d1 : ¬ (x.1 : Int) ≤ a := by omega
    rw [decide_eq_false c1, Bool.false_and]
    repeat' (first
      | (with_reducible first | refine W_seq ?_ | refine endQ_ret ?_ | refine endQ_normal ?_)
      | ((with_reducible first | refine hK _ ?_ | refine hK _ _ ?_); clear hK K)
      | ((first | (with_reducible first | refine ops_cons (fun K hK => ?_) | refine opsd_cons (fun K hK => ?_) | refine ops_nil ?_) | ((with_reducible refine opsd_nil ?_); refine And.intro (by kernel_rfl) ?_) | with_reducible refine callV_snap ?_ | ((with_reducible refine call_go nendS nend_ok ?_); refine ⟨(by first | exact alOk_nil _ | exact alOk_f rfl), _, _, nend_at _ h2 h3, ?_⟩) | (with_reducible first | refine W_reg [(0, [1, 2]), (1, [3])] ?_ | refine W_drw [(0, [1, 2]), (1, [3])] (by kernel_rfl) ?_ | refine W_ret ?_ | refine end_at0 ?_) | (with_reducible refine And.intro (fun h => ?_) (fun h => ?_)) | (with_reducible refine And.intro (by omega) ?_)); (try simp only [go_sem, seval, reduceCtorEq, d1, Try.ntmps78, Try.results78, is1S]))
      | fail)
def tk1S : Spec := { rel := fun args ins res outs => ∃ (x : Bl) (a k : Nat), x.1 < 256 ∧ x.2 ≤ 6 ∧ a ≤ 256 ∧ k ≤ 6 ∧ args = [.agg [iv x.1, iv x.2], .dp [.int .i64 (a : Int)], .dp [.int .i64 ((2 ^ k : Nat) : Int)]] ∧ ins = [] ∧ res = bv (decide (x.1 ≤ a) && decide (a + 2 ^ k ≤ x.1 + 2 ^ x.2)) ∧ outs = [] }

def isP (a : Nat) (x : Bl) : Bool := decide (x.1 ≤ a) && decide (a < x.1 + 2 ^ x.2)
def tkP (a k : Nat) (x : Bl) : Bool := decide (x.1 ≤ a) && decide (a + 2 ^ k ≤ x.1 + 2 ^ x.2)
def ixIS : Spec := { rel := fun args ins res outs => ∃ (l : List Bl) (a : Nat), l.length ≤ 1000000 ∧ (∀ b ∈ l, b.1 < 256 ∧ b.2 ≤ 6) ∧ args = [dN l, .fn 78 [.dp [.int .i64 (a : Int)]]] ∧ ins = [] ∧ res = iv (fidx (isP a) l) ∧ outs = [] }
theorem ixI_at (l : List Bl) (a : Nat) (h : l.length ≤ 1000000) (hr : ∀ b ∈ l, b.1 < 256 ∧ b.2 ≤ 6) : ixIS.rel [dN l, .fn 78 [.dp [.int .i64 (a : Int)]]] [] (iv (fidx (isP a) l)) [] := ⟨l, a, h, hr, rfl, rfl, rfl, rfl⟩
theorem ixI_ok : Ok Try.prog 89 ixIS := by
  have h0 := fun a : Nat => ix1_ok (p := isP a) is1S is1_ok (fun x h1 h2 => ⟨x, a, h1, h2, rfl, rfl, rfl, rfl⟩)
  refine ⟨(h0 0).1, ?_⟩
  rintro args ins res outs ⟨l, a, hl, hr, rfl, rfl, rfl, rfl⟩
  exact (h0 a).2 _ _ _ _ ⟨l, hl, hr, rfl, rfl, rfl, rfl⟩
theorem fidx_ge (p : Bl → Bool) (l : List Bl) : decide (0 ≤ fidx p l) = l.any p := by
  unfold fidx
  cases h : l.findIdx? p with
  | none =>
    rw [List.findIdx?_eq_none_iff] at h
    have : l.any p = false := by rw [List.any_eq_false]; intro x hx; simp [h x hx]
    simp [this]
  | some k =>
    rw [List.findIdx?_eq_some_iff_getElem] at h
    obtain ⟨h1, h2, _⟩ := h
    have : l.any p = true := List.any_eq_true.2 ⟨_, List.getElem_mem h1, h2⟩
    simp [this]
def ctIS : Spec := { rel := fun args ins res outs => ∃ (l : List Bl) (a : Nat), l.length ≤ 1000000 ∧ (∀ b ∈ l, b.1 < 256 ∧ b.2 ≤ 6) ∧ args = [dN l, .fn 78 [.dp [.int .i64 (a : Int)]]] ∧ ins = [] ∧ res = bv (frM l a) ∧ outs = [] }
theorem ctI_at (l : List Bl) (a : Nat) (h : l.length ≤ 1000000) (hr : ∀ b ∈ l, b.1 < 256 ∧ b.2 ≤ 6) : ctIS.rel [dN l, .fn 78 [.dp [.int .i64 (a : Int)]]] [] (bv (frM l a)) [] := ⟨l, a, h, hr, rfl, rfl, rfl, rfl⟩
theorem ctI_ok : Ok Try.prog 77 ctIS := by
  refine fn_ok ctIS Try.func77 rfl rfl ?_
  rintro args ins res outs ⟨l, a, hl, hr, rfl, rfl, rfl, rfl⟩
  refine ⟨by simp [Try.ntmps77], fun w0 V Bo mu0 => ?_⟩
  have e : frM l a = decide (0 ≤ fidx (isP a) l) := by rw [fidx_ge]; rfl
  rw [e]
  by_cases h0 : 0 ≤ fidx (isP a) l
  · rw [decide_eq_true h0]
    repeat' (first
      | (with_reducible first | refine W_seq ?_ | refine endQ_ret ?_ | refine endQ_normal ?_)
      | ((with_reducible first | refine hK _ ?_ | refine hK _ _ ?_); clear hK K)
      | ((first | (with_reducible first | refine ops_cons (fun K hK => ?_) | refine ops_nil ?_) | with_reducible refine callV_snap ?_ | ((with_reducible refine call_go ixIS ixI_ok ?_); refine ⟨(by first | exact alOk_nil _ | exact alOk_f rfl), _, _, ixI_at l a hl hr, ?_⟩) | (with_reducible first | refine W_reg [(0, [0, 1]), (1, [4])] ?_ | refine W_ret ?_ | refine end_at0 ?_) | (with_reducible refine And.intro (fun h => ?_) (fun h => ?_)) | (with_reducible refine And.intro (by omega) ?_)); (try simp only [go_sem, seval, reduceCtorEq, h0, Try.ntmps77, Try.results77, ctIS]))
      | fail)
  · rw [decide_eq_false h0]
    repeat' (first
      | (with_reducible first | refine W_seq ?_ | refine endQ_ret ?_ | refine endQ_normal ?_)
      | ((with_reducible first | refine hK _ ?_ | refine hK _ _ ?_); clear hK K)
      | ((first | (with_reducible first | refine ops_cons (fun K hK => ?_) | refine ops_nil ?_) | with_reducible refine callV_snap ?_ | ((with_reducible refine call_go ixIS ixI_ok ?_); refine ⟨(by first | exact alOk_nil _ | exact alOk_f rfl), _, _, ixI_at l a hl hr, ?_⟩) | (with_reducible first | refine W_reg [(0, [0, 1]), (1, [4])] ?_ | refine W_ret ?_ | refine end_at0 ?_) | (with_reducible refine And.intro (fun h => ?_) (fun h => ?_)) | (with_reducible refine And.intro (by omega) ?_)); (try simp only [go_sem, seval, reduceCtorEq, h0, Try.ntmps77, Try.results77, ctIS]))
      | fail)

def isE (n : Int) (l : List Bi) (a : Int) : Int := if (zchk n l).1 ≠ 0 then (zchk n l).1 else if a < 0 ∨ n ≤ a then 2 else 0
def IsS : Spec := { rel := fun args ins res outs => (∃ (n : Int) (l : List Bi) (a : Int), l.length ≤ 1000000 ∧ isE n l a ≠ 0 ∧ args = [zv n l, iv a] ∧ ins = [] ∧ res = .tup [bv false, iv (isE n l a)] ∧ outs = []) ∨
  ∃ (N : Nat) (m : List Bl) (a : Nat), Vz N m ∧ a < N ∧ args = [.agg [iv N, dN m], iv a] ∧ ins = [] ∧ res = .tup [bv (frM m a), iv 0] ∧ outs = [] }
abbrev IsNS : Spec := IsS
theorem IsN_at (n : Int) (l : List Bi) (a : Int) (h : l.length ≤ 1000000) (hc : isE n l a ≠ 0) : IsNS.rel [zv n l, iv a] [] (.tup [bv false, iv (isE n l a)]) [] := .inl ⟨n, l, a, h, hc, rfl, rfl, rfl, rfl⟩
theorem Is_at (N : Nat) (m : List Bl) (a : Nat) (h : Vz N m) (ha : a < N) : IsS.rel [.agg [iv N, dN m], iv a] [] (.tup [bv (frM m a), iv 0]) [] := .inr ⟨N, m, a, h, ha, rfl, rfl, rfl, rfl⟩
set_option maxHeartbeats 2000000 in
theorem Is_ok : Ok Try.prog 57 IsS := by
  refine fn_ok IsS Try.func57 rfl rfl ?_
  rintro args ins res outs (⟨n, l, a, hl, hc, rfl, rfl, rfl, rfl⟩ | ⟨N, m, a, hv, ha, rfl, rfl, rfl, rfl⟩)
  all_goals refine ⟨by simp [Try.ntmps57], fun w0 V Bo mu0 => ?_⟩
  · by_cases h1 : (zchk n l).1 = 0
    · have e : isE n l a = 2 := by
        unfold isE at hc ⊢
        rw [if_neg (by simpa using h1)] at hc ⊢
        split at hc
        · rename_i h; rw [if_pos h]
        · exact absurd rfl hc
      have h2 : a < 0 ∨ n ≤ a := by
        unfold isE at e
        rw [if_neg (by simpa using h1)] at e
        split at e
        · assumption
        · cases e
      rw [e]
      by_cases h3 : a < 0
      · skip
        repeat' (first
          | (with_reducible first | refine W_seq ?_ | refine W_condT rfl ?_ | refine W_condF rfl ?_ | refine W_tf rfl (fun h => ?_) (fun h => ?_) | refine endQ_ret ?_ | refine endQ_normal ?_)
          | ((with_reducible first | refine hK _ ?_ | refine hK _ _ ?_); clear hK K)
          | ((first | (with_reducible first | refine ops_cons (fun K hK => ?_) | refine ops_nil ?_) | with_reducible refine callV_snap ?_ | ((with_reducible refine call_go CheckS Check_ok ?_); refine ⟨(by first | exact alOk_nil _ | exact alOk_f rfl), _, _, Check_at _ _ hl, ?_⟩) | (with_reducible first | refine W_reg lv57BdL ?_ | refine W_skip ?_ | refine W_ret ?_ | refine end_at0 ?_) | (with_reducible refine And.intro (fun h => ?_) (fun h => ?_)) | (with_reducible refine And.intro (by omega) ?_)); (try simp only [go_sem, seval, reduceCtorEq, h1, h3, lv57BdL, Try.ntmps57, Try.results57, IsS]))
          | fail)
      · have h4 : n ≤ a := by omega
        repeat' (first
          | (with_reducible first | refine W_seq ?_ | refine W_condT rfl ?_ | refine W_condF rfl ?_ | refine W_tf rfl (fun h => ?_) (fun h => ?_) | refine endQ_ret ?_ | refine endQ_normal ?_)
          | ((with_reducible first | refine hK _ ?_ | refine hK _ _ ?_); clear hK K)
          | ((first | (with_reducible first | refine ops_cons (fun K hK => ?_) | refine ops_nil ?_) | with_reducible refine callV_snap ?_ | ((with_reducible refine call_go CheckS Check_ok ?_); refine ⟨(by first | exact alOk_nil _ | exact alOk_f rfl), _, _, Check_at _ _ hl, ?_⟩) | (with_reducible first | refine W_reg lv57BdL ?_ | refine W_skip ?_ | refine W_ret ?_ | refine end_at0 ?_) | (with_reducible refine And.intro (fun h => ?_) (fun h => ?_)) | (with_reducible refine And.intro (by omega) ?_)); (try simp only [go_sem, seval, reduceCtorEq, h1, h3, h4, lv57BdL, Try.ntmps57, Try.results57, IsS]))
          | fail)
    · have e : isE n l a = (zchk n l).1 := by unfold isE; rw [if_pos h1]
      rw [e]
      repeat' (first
        | (with_reducible first | refine W_seq ?_ | refine W_condT rfl ?_ | refine W_condF rfl ?_ | refine W_tf rfl (fun h => ?_) (fun h => ?_) | refine endQ_ret ?_ | refine endQ_normal ?_)
        | ((with_reducible first | refine hK _ ?_ | refine hK _ _ ?_); clear hK K)
        | ((first | (with_reducible first | refine ops_cons (fun K hK => ?_) | refine ops_nil ?_) | with_reducible refine callV_snap ?_ | ((with_reducible refine call_go CheckS Check_ok ?_); refine ⟨(by first | exact alOk_nil _ | exact alOk_f rfl), _, _, Check_at _ _ hl, ?_⟩) | (with_reducible first | refine W_reg lv57BdL ?_ | refine W_skip ?_ | refine W_ret ?_ | refine end_at0 ?_) | (with_reducible refine And.intro (fun h => ?_) (fun h => ?_)) | (with_reducible refine And.intro (by omega) ?_)); (try simp only [go_sem, seval, reduceCtorEq, h1, lv57BdL, Try.ntmps57, Try.results57, IsS]))
        | fail)
  · have h1 : ¬ (a : Int) < 0 := by omega
    have h2 : ¬ (N : Int) ≤ a := by omega
    have hlen : m.length ≤ 1000000 := by have := hv.v.len; omega
    repeat' (first
      | (with_reducible first | refine W_seq ?_ | refine W_condT rfl ?_ | refine W_condF rfl ?_ | refine W_tf rfl (fun h => ?_) (fun h => ?_) | refine endQ_ret ?_ | refine endQ_normal ?_)
      | ((with_reducible first | refine hK _ ?_ | refine hK _ _ ?_); clear hK K)
      | ((first | (with_reducible first | refine ops_cons (fun K hK => ?_) | refine ops_nil ?_) | with_reducible refine callV_snap ?_ | ((with_reducible refine call_go CheckWS CheckW_ok ?_); refine ⟨(by first | exact alOk_nil _ | exact alOk_f rfl), _, _, CheckW_at _ _ hv, ?_⟩) | ((with_reducible refine call_go ctIS ctI_ok ?_); refine ⟨(by first | exact alOk_nil _ | exact alOk_f rfl), _, _, ctI_at _ _ hlen hv.v.bls.rng, ?_⟩) | (with_reducible first | refine W_reg lv57BdL ?_ | refine W_skip ?_ | refine W_ret ?_ | refine end_at0 ?_) | (with_reducible refine And.intro (fun h => ?_) (fun h => ?_)) | (with_reducible refine And.intro (by omega) ?_)); (try simp only [go_sem, seval, reduceCtorEq, h1, h2, lv57BdL, Try.ntmps57, Try.results57, IsS]))
      | fail)
end Go.Proofs.Ytacfipmigkbncaa
