/- buddy: errors of zones, orders and blocks; Total, Most, Is; by the engine. -/
import Derived.Test.YtacfipmigkbncaaBdH
import Derived.Test.YtacfipmigkbncaaBdX
namespace Go.Proofs.Ytacfipmigkbncaa
open Go.RowKit
set_option maxRecDepth 100000
set_option linter.unusedSimpArgs false
set_option linter.unusedVariables false

abbrev lv60BdK : List (Nat × List Nat) := [(0, [1]), (1, [1, 4]), (2, [1, 4, 15]), (3, [2, 3]), (4, [1, 6]), (5, [6, 18, 19, 20]), (6, [6, 18, 19, 20, 21]), (7, [6, 8, 18, 19, 20]), (8, [6, 18, 19, 20]), (9, [6, 18, 19, 20]), (10, [2, 3])]
abbrev lv80BdK : List (Nat × List Nat) := [(0, [1, 2, 3]), (1, [1, 3, 8, 9]), (2, [1, 3, 8, 9, 17]), (3, [6, 7]), (4, [1, 8, 28]), (5, [6, 7]), (6, [8, 33]), (7, [6, 7]), (8, [6, 7])]
abbrev lv85BdK : List (Nat × List Nat) := [(0, [1, 2]), (1, [1, 6]), (2, [1, 6, 14]), (3, [4, 5]), (4, [4, 5])]
def askE (n : Int) (l : List Bi) (k : Int) : Int := if (zchk n l).1 ≠ 0 then (zchk n l).1 else if k < 0 ∨ 6 < k then 2 else 0
def askB (n : Int) (l : List Bi) (a k : Int) : Int := if askE n l k ≠ 0 then askE n l k else if a < 0 ∨ n - 2 ^ k.toNat < a then 2 else if a % 2 ^ k.toNat ≠ 0 then 13 else 0
theorem askE_chk {n : Int} {l : List Bi} {k : Int} (h : (zchk n l).1 ≠ 0) : askE n l k = (zchk n l).1 := by rw [askE, if_pos h]
theorem askE_ord {n : Int} {l : List Bi} {k : Int} (h : (zchk n l).1 = 0) (h2 : k < 0 ∨ 6 < k) : askE n l k = 2 := by rw [askE, if_neg (by simpa using h), if_pos h2]
theorem askE_ok {n : Int} {l : List Bi} {k : Int} (h : (zchk n l).1 = 0) (h2 : ¬ (k < 0 ∨ 6 < k)) : askE n l k = 0 := by rw [askE, if_neg (by simpa using h), if_neg h2]
theorem askE_zero {n : Int} {l : List Bi} {k : Int} (h : askE n l k = 0) : (zchk n l).1 = 0 ∧ ¬ (k < 0 ∨ 6 < k) := by
  unfold askE at h
  split at h
  · rename_i hc; exact absurd h hc
  · split at h
    · cases h
    · rename_i h1 h2; exact ⟨by simpa using h1, h2⟩
theorem askB_ask {n : Int} {l : List Bi} {a k : Int} (h : askE n l k ≠ 0) : askB n l a k = askE n l k := by rw [askB, if_pos h]
theorem askB_rng {n : Int} {l : List Bi} {a k : Int} (h : askE n l k = 0) (h2 : a < 0 ∨ n - 2 ^ k.toNat < a) : askB n l a k = 2 := by rw [askB, if_neg (by simpa using h), if_pos h2]
theorem askB_al {n : Int} {l : List Bi} {a k : Int} (h : askE n l k = 0) (h2 : ¬ (a < 0 ∨ n - 2 ^ k.toNat < a)) (h3 : a % 2 ^ k.toNat ≠ 0) : askB n l a k = 13 := by rw [askB, if_neg (by simpa using h), if_neg h2, if_pos h3]
theorem askB_ok {n : Int} {l : List Bi} {a k : Int} (h : askE n l k = 0) (h2 : ¬ (a < 0 ∨ n - 2 ^ k.toNat < a)) (h3 : a % 2 ^ k.toNat = 0) : askB n l a k = 0 := by rw [askB, if_neg (by simpa using h), if_neg h2, if_neg (by simpa using h3)]
theorem askB_zero {n : Int} {l : List Bi} {a k : Int} (h : askB n l a k = 0) : askE n l k = 0 ∧ ¬ (a < 0 ∨ n - 2 ^ k.toNat < a) ∧ a % 2 ^ k.toNat = 0 := by
  unfold askB at h
  split at h
  · rename_i hc; exact absurd h hc
  · split at h
    · cases h
    · split at h
      · cases h
      · rename_i h1 h2 h3; exact ⟨by simpa using h1, h2, by simpa using h3⟩

def chkdS : Spec := { rel := fun args ins res outs => ∃ (n : Int) (l : List Bi) (k : Int), l.length ≤ 1000000 ∧ args = [zv n l, iv k] ∧ ins = [] ∧ res = (if askE n l k = 0 then .tup [iv (2 ^ k.toNat), iv 0] else .tup [iv 0, iv (askE n l k)]) ∧ outs = [] }
abbrev chkdYS : Spec := chkdS
abbrev chkdNS : Spec := chkdS
theorem chkdY_at (n : Int) (l : List Bi) (k : Int) (hl : l.length ≤ 1000000) (h : askE n l k = 0) : chkdYS.rel [zv n l, iv k] [] (.tup [iv (2 ^ k.toNat), iv 0]) [] := ⟨n, l, k, hl, rfl, rfl, by rw [if_pos h], rfl⟩
theorem chkdN_at (n : Int) (l : List Bi) (k : Int) (hl : l.length ≤ 1000000) (h : askE n l k ≠ 0) : chkdNS.rel [zv n l, iv k] [] (.tup [iv 0, iv (askE n l k)]) [] := ⟨n, l, k, hl, rfl, rfl, by rw [if_neg h], rfl⟩
set_option maxHeartbeats 1000000 in
theorem chkd_ok : Ok Try.prog 85 chkdS := by
  refine fn_ok chkdS Try.func85 rfl rfl ?_
  rintro args ins res outs ⟨n, l, k, hl, rfl, rfl, rfl, rfl⟩
  refine ⟨by simp [Try.ntmps85], fun w0 V Bo mu0 => ?_⟩
  by_cases h1 : (zchk n l).1 = 0
  · by_cases h2 : k < 0 ∨ 6 < k
    · rw [askE_ord h1 h2, if_neg (by decide)]
      repeat' (first
        | (with_reducible first | refine W_seq ?_ | refine W_condT rfl ?_ | refine W_condF rfl ?_ | refine W_tf rfl (fun h => ?_) (fun h => ?_) | refine endQ_ret ?_ | refine endQ_normal ?_)
        | ((with_reducible first | refine hK _ ?_ | refine hK _ _ ?_); clear hK K)
        | ((first | (with_reducible first | refine ops_cons (fun K hK => ?_) | refine ops_nil ?_) | with_reducible refine callV_snap ?_ | ((with_reducible refine call_go CheckS Check_ok ?_); refine ⟨(by first | exact alOk_nil _ | exact alOk_f rfl), _, _, Check_at _ _ hl, ?_⟩) | ((with_reducible refine call_go SizeBadS SizeBad_ok ?_); refine ⟨(by first | exact alOk_nil _ | exact alOk_f rfl), _, _, SizeBad_at _ h2, ?_⟩) | (with_reducible first | refine W_reg lv85BdK ?_ | refine W_skip ?_ | refine W_ret ?_ | refine end_at0 ?_) | (with_reducible refine And.intro (fun h => ?_) (fun h => ?_)) | (with_reducible refine And.intro (by omega) ?_)); (try simp only [go_sem, seval, reduceCtorEq, h1, lv85BdK, Try.ntmps85, Try.results85, chkdS]))
        | fail)
    · rw [askE_ok h1 h2, if_pos rfl]
      repeat' (first
        | (with_reducible first | refine W_seq ?_ | refine W_condT rfl ?_ | refine W_condF rfl ?_ | refine W_tf rfl (fun h => ?_) (fun h => ?_) | refine endQ_ret ?_ | refine endQ_normal ?_)
        | ((with_reducible first | refine hK _ ?_ | refine hK _ _ ?_); clear hK K)
        | ((first | (with_reducible first | refine ops_cons (fun K hK => ?_) | refine ops_nil ?_) | with_reducible refine callV_snap ?_ | ((with_reducible refine call_go CheckS Check_ok ?_); refine ⟨(by first | exact alOk_nil _ | exact alOk_f rfl), _, _, Check_at _ _ hl, ?_⟩) | ((with_reducible refine call_go SizeOkS SizeOk_ok ?_); refine ⟨(by first | exact alOk_nil _ | exact alOk_f rfl), _, _, SizeOk_at _ h2, ?_⟩) | (with_reducible first | refine W_reg lv85BdK ?_ | refine W_skip ?_ | refine W_ret ?_ | refine end_at0 ?_) | (with_reducible refine And.intro (fun h => ?_) (fun h => ?_)) | (with_reducible refine And.intro (by omega) ?_)); (try simp only [go_sem, seval, reduceCtorEq, h1, lv85BdK, Try.ntmps85, Try.results85, chkdS]))
        | fail)
  · rw [askE_chk h1, if_neg h1]
    repeat' (first
      | (with_reducible first | refine W_seq ?_ | refine W_condT rfl ?_ | refine W_condF rfl ?_ | refine W_tf rfl (fun h => ?_) (fun h => ?_) | refine endQ_ret ?_ | refine endQ_normal ?_)
      | ((with_reducible first | refine hK _ ?_ | refine hK _ _ ?_); clear hK K)
      | ((first | (with_reducible first | refine ops_cons (fun K hK => ?_) | refine ops_nil ?_) | with_reducible refine callV_snap ?_ | ((with_reducible refine call_go CheckS Check_ok ?_); refine ⟨(by first | exact alOk_nil _ | exact alOk_f rfl), _, _, Check_at _ _ hl, ?_⟩) | (with_reducible first | refine W_reg lv85BdK ?_ | refine W_skip ?_ | refine W_ret ?_ | refine end_at0 ?_) | (with_reducible refine And.intro (fun h => ?_) (fun h => ?_)) | (with_reducible refine And.intro (by omega) ?_)); (try simp only [go_sem, seval, reduceCtorEq, h1, lv85BdK, Try.ntmps85, Try.results85, chkdS]))
      | fail)
theorem chkdY_ok : Ok Try.prog 85 chkdYS := chkd_ok
theorem chkdN_ok : Ok Try.prog 85 chkdNS := chkd_ok
def chkbS : Spec := { rel := fun args ins res outs => ∃ (n : Int) (l : List Bi) (a k : Int), l.length ≤ 1000000 ∧ args = [zv n l, iv a, iv k] ∧ ins = [] ∧ res = (if askB n l a k = 0 then .tup [iv (2 ^ k.toNat), iv 0] else .tup [iv 0, iv (askB n l a k)]) ∧ outs = [] }
abbrev chkbYS : Spec := chkbS
abbrev chkbNS : Spec := chkbS
theorem chkbY_at (n : Int) (l : List Bi) (a k : Int) (hl : l.length ≤ 1000000) (h : askB n l a k = 0) : chkbYS.rel [zv n l, iv a, iv k] [] (.tup [iv (2 ^ k.toNat), iv 0]) [] := ⟨n, l, a, k, hl, rfl, rfl, by rw [if_pos h], rfl⟩
theorem chkbN_at (n : Int) (l : List Bi) (a k : Int) (hl : l.length ≤ 1000000) (h : askB n l a k ≠ 0) : chkbNS.rel [zv n l, iv a, iv k] [] (.tup [iv 0, iv (askB n l a k)]) [] := ⟨n, l, a, k, hl, rfl, rfl, by rw [if_neg h], rfl⟩
set_option maxHeartbeats 1000000 in
theorem chkb_ok : Ok Try.prog 80 chkbS := by
  refine fn_ok chkbS Try.func80 rfl rfl ?_
  rintro args ins res outs ⟨n, l, a, k, hl, rfl, rfl, rfl, rfl⟩
  refine ⟨by simp [Try.ntmps80], fun w0 V Bo mu0 => ?_⟩
  by_cases h1 : askE n l k = 0
  case neg =>
    rw [askB_ask h1, if_neg h1]
    repeat' (first
      | (with_reducible first | refine W_seq ?_ | refine W_condT rfl ?_ | refine W_condF rfl ?_ | refine W_tf rfl (fun h => ?_) (fun h => ?_) | refine endQ_ret ?_ | refine endQ_normal ?_)
      | ((with_reducible first | refine hK _ ?_ | refine hK _ _ ?_); clear hK K)
      | ((first | (with_reducible first | refine ops_cons (fun K hK => ?_) | refine ops_nil ?_ | refine fit_i64 (by omega) ?_ | refine fit_any ?_) | with_reducible refine callV_snap ?_ | ((with_reducible refine call_go chkdNS chkdN_ok ?_); refine ⟨(by first | exact alOk_nil _ | exact alOk_f rfl), _, _, chkdN_at _ _ _ hl h1, ?_⟩) | (with_reducible first | refine W_reg lv80BdK ?_ | refine W_skip ?_ | refine W_ret ?_ | refine end_at0 ?_) | (with_reducible refine And.intro (fun h => ?_) (fun h => ?_)) | (with_reducible refine And.intro (by omega) ?_)); (try simp only [go_sem, seval, reduceCtorEq, h1, lv80BdK, Try.ntmps80, Try.results80, chkbS]))
      | fail)
  obtain ⟨h1a, h1b⟩ := askE_zero h1
  have hz := zchk_val h1a
  have n0 := hz.n0
  have n1 := hz.n1
  have hp := pow64 k (by omega) (by omega)
  by_cases h2 : a < 0
  · rw [askB_rng h1 (.inl h2), if_neg (by decide)]
    repeat' (first
      | (with_reducible first | refine W_seq ?_ | refine W_condT rfl ?_ | refine W_condF rfl ?_ | refine W_tf rfl (fun h => ?_) (fun h => ?_) | refine endQ_ret ?_ | refine endQ_normal ?_)
      | ((with_reducible first | refine hK _ ?_ | refine hK _ _ ?_); clear hK K)
      | ((first | (with_reducible first | refine ops_cons (fun K hK => ?_) | refine ops_nil ?_ | refine fit_i64 (by omega) ?_ | refine fit_any ?_) | with_reducible refine callV_snap ?_ | ((with_reducible refine call_go chkdYS chkdY_ok ?_); refine ⟨(by first | exact alOk_nil _ | exact alOk_f rfl), _, _, chkdY_at _ _ _ hl h1, ?_⟩) | (with_reducible first | refine W_reg lv80BdK ?_ | refine W_skip ?_ | refine W_ret ?_ | refine end_at0 ?_) | (with_reducible refine And.intro (fun h => ?_) (fun h => ?_)) | (with_reducible refine And.intro (by omega) ?_)); (try simp only [go_sem, seval, reduceCtorEq, h2, lv80BdK, Try.ntmps80, Try.results80, chkbS]))
      | fail)
  by_cases h3 : n - 2 ^ k.toNat < a
  · rw [askB_rng h1 (.inr h3), if_neg (by decide)]
    repeat' (first
      | (with_reducible first | refine W_seq ?_ | refine W_condT rfl ?_ | refine W_condF rfl ?_ | refine W_tf rfl (fun h => ?_) (fun h => ?_) | refine endQ_ret ?_ | refine endQ_normal ?_)
      | ((with_reducible first | refine hK _ ?_ | refine hK _ _ ?_); clear hK K)
      | ((first | (with_reducible first | refine ops_cons (fun K hK => ?_) | refine ops_nil ?_ | refine fit_i64 (by omega) ?_ | refine fit_any ?_) | with_reducible refine callV_snap ?_ | ((with_reducible refine call_go chkdYS chkdY_ok ?_); refine ⟨(by first | exact alOk_nil _ | exact alOk_f rfl), _, _, chkdY_at _ _ _ hl h1, ?_⟩) | (with_reducible first | refine W_reg lv80BdK ?_ | refine W_skip ?_ | refine W_ret ?_ | refine end_at0 ?_) | (with_reducible refine And.intro (fun h => ?_) (fun h => ?_)) | (with_reducible refine And.intro (by omega) ?_)); (try simp only [go_sem, seval, reduceCtorEq, h2, h3, lv80BdK, Try.ntmps80, Try.results80, chkbS]))
      | fail)
  have hb := and_low a k.toNat (by omega) (by omega) (by omega)
  by_cases h4 : a % 2 ^ k.toNat = 0
  · rw [askB_ok h1 (by omega) h4, if_pos rfl]
    repeat' (first
      | (with_reducible first | refine W_seq ?_ | refine W_condT rfl ?_ | refine W_condF rfl ?_ | refine W_tf rfl (fun h => ?_) (fun h => ?_) | refine endQ_ret ?_ | refine endQ_normal ?_)
      | ((with_reducible first | refine hK _ ?_ | refine hK _ _ ?_); clear hK K)
      | ((first | (with_reducible first | refine ops_cons (fun K hK => ?_) | refine ops_nil ?_ | refine fit_i64 (by omega) ?_ | refine fit_any ?_) | with_reducible refine callV_snap ?_ | ((with_reducible refine call_go chkdYS chkdY_ok ?_); refine ⟨(by first | exact alOk_nil _ | exact alOk_f rfl), _, _, chkdY_at _ _ _ hl h1, ?_⟩) | (with_reducible first | refine W_reg lv80BdK ?_ | refine W_skip ?_ | refine W_ret ?_ | refine end_at0 ?_) | (with_reducible refine And.intro (fun h => ?_) (fun h => ?_)) | (with_reducible refine And.intro (by omega) ?_)); (try simp only [go_sem, seval, reduceCtorEq, h2, h3, hb, h4, lv80BdK, Try.ntmps80, Try.results80, chkbS]))
      | fail)
  · rw [askB_al h1 (by omega) h4, if_neg (by decide)]
    repeat' (first
      | (with_reducible first | refine W_seq ?_ | refine W_condT rfl ?_ | refine W_condF rfl ?_ | refine W_tf rfl (fun h => ?_) (fun h => ?_) | refine endQ_ret ?_ | refine endQ_normal ?_)
      | ((with_reducible first | refine hK _ ?_ | refine hK _ _ ?_); clear hK K)
      | ((first | (with_reducible first | refine ops_cons (fun K hK => ?_) | refine ops_nil ?_ | refine fit_i64 (by omega) ?_ | refine fit_any ?_) | with_reducible refine callV_snap ?_ | ((with_reducible refine call_go chkdYS chkdY_ok ?_); refine ⟨(by first | exact alOk_nil _ | exact alOk_f rfl), _, _, chkdY_at _ _ _ hl h1, ?_⟩) | (with_reducible first | refine W_reg lv80BdK ?_ | refine W_skip ?_ | refine W_ret ?_ | refine end_at0 ?_) | (with_reducible refine And.intro (fun h => ?_) (fun h => ?_)) | (with_reducible refine And.intro (by omega) ?_)); (try simp only [go_sem, seval, reduceCtorEq, h2, h3, hb, h4, lv80BdK, Try.ntmps80, Try.results80, chkbS]))
      | fail)
theorem chkbY_ok : Ok Try.prog 80 chkbYS := chkb_ok
theorem chkbN_ok : Ok Try.prog 80 chkbNS := chkb_ok

/-- sizes of blocks that are natural numbers -/
abbrev nendS : Spec := endS
theorem nend_ok : Ok Try.prog 74 nendS := bend_ok
theorem nend_at (b : Bl) (h : b.2 ≤ 6) (h2 : b.1 ≤ 256) : nendS.rel [.agg [iv b.1, iv b.2]] [] (iv ((b.1 + 2 ^ b.2 : Nat) : Int)) [] := by
  have := bend_at (b.1 : Int) (b.2 : Int) (by omega) (by omega) (by omega) (by omega)
  rw [Int.toNat_natCast, pow_nat, ← Int.natCast_add] at this
  exact this
theorem dK_toI (m : List Bl) : dK (m.map toI) = dN m := by unfold dK dN; rw [toI_enc]
theorem zv_toI (N : Nat) (m : List Bl) : zv (N : Int) (m.map toI) = .agg [iv N, dN m] := by unfold zv; rw [dK_toI]
theorem p64 (k : Nat) (h : k ≤ 6) : 1 ≤ 2 ^ k ∧ 2 ^ k ≤ 64 := by
  have : ∀ k : Fin 7, 1 ≤ 2 ^ k.1 ∧ 2 ^ k.1 ≤ 64 := by decide
  exact this ⟨k, by omega⟩

def totTo (m : List Bl) (i : Nat) : Nat := ((m.take i).map fun b => 2 ^ b.2).sum
def tot (m : List Bl) : Nat := totTo m m.length
theorem totTo_step (m : List Bl) (i : Nat) (h : i < m.length) : totTo m (i + 1) = totTo m i + 2 ^ (m[i]).2 := by unfold totTo; rw [take_get m i h, List.map_append, List.sum_append]; simp only [List.map_cons, List.map_nil, List.sum_cons, List.sum_nil, Nat.add_zero]
theorem totTo_le (m : List Bl) (h : ∀ b ∈ m, b.2 ≤ 6) : ∀ i, i ≤ m.length → totTo m i ≤ 64 * i
  | 0, _ => by simp [totTo]
  | i + 1, hi => by
    have := totTo_le m h i (by omega)
    have := p64 _ (h _ (List.getElem_mem (show i < m.length by omega)))
    rw [totTo_step m i (by omega)]; omega
def mstTo (m : List Bl) (k i : Nat) : Nat := ((m.take i).map fun b => 2 ^ b.2 / 2 ^ k).sum
def mst (m : List Bl) (k : Nat) : Nat := mstTo m k m.length
theorem mstTo_step (m : List Bl) (k i : Nat) (h : i < m.length) : mstTo m k (i + 1) = mstTo m k i + 2 ^ (m[i]).2 / 2 ^ k := by unfold mstTo; rw [take_get m i h, List.map_append, List.sum_append]; simp only [List.map_cons, List.map_nil, List.sum_cons, List.sum_nil, Nat.add_zero]
theorem mstTo_le (m : List Bl) (k : Nat) (h : ∀ b ∈ m, b.2 ≤ 6) : ∀ i, i ≤ m.length → mstTo m k i ≤ 64 * i
  | 0, _ => by simp [mstTo]
  | i + 1, hi => by
    have h1 := mstTo_le m k h i (by omega)
    have h2 := p64 _ (h _ (List.getElem_mem (show i < m.length by omega)))
    have h3 := Nat.div_le_self (2 ^ (m[i]'(by omega)).2) (2 ^ k)
    rw [mstTo_step m k i (by omega)]; omega

def TotalS : Spec := { rel := fun args ins res outs => (∃ (n : Int) (l : List Bi), l.length ≤ 1000000 ∧ (zchk n l).1 ≠ 0 ∧ args = [zv n l] ∧ ins = [] ∧ res = .tup [iv 0, iv (zchk n l).1] ∧ outs = []) ∨
  ∃ (N : Nat) (m : List Bl), Vn N m ∧ (zchk N (m.map toI)).1 = 0 ∧ args = [.agg [iv N, dN m]] ∧ ins = [] ∧ res = .tup [iv (tot m), iv 0] ∧ outs = [] }
abbrev TotalNS : Spec := TotalS
theorem TotalN_at (n : Int) (l : List Bi) (h : l.length ≤ 1000000) (hc : (zchk n l).1 ≠ 0) : TotalNS.rel [zv n l] [] (.tup [iv 0, iv (zchk n l).1]) [] := .inl ⟨n, l, h, hc, rfl, rfl, rfl, rfl⟩
theorem Total_at (N : Nat) (m : List Bl) (h : Vn N m) (hc : (zchk N (m.map toI)).1 = 0) : TotalS.rel [.agg [iv N, dN m]] [] (.tup [iv (tot m), iv 0]) [] := .inr ⟨N, m, h, hc, rfl, rfl, rfl, rfl⟩
abbrev CheckVS : Spec := CheckS
theorem CheckV_ok : Ok Try.prog 50 CheckVS := Check_ok
theorem CheckV_at (N : Nat) (m : List Bl) (h : Vn N m) (hc : (zchk N (m.map toI)).1 = 0) : CheckVS.rel [.agg [iv N, dN m]] [] (.tup [iv 0, iv (zchk N (m.map toI)).2]) [] := by
  have := Check_at (N : Int) (m.map toI) (by have := h.len; simp; omega)
  rwa [zv_toI, hc] at this
set_option maxHeartbeats 2000000 in
theorem Total_ok : Ok Try.prog 60 TotalS := by
  refine fn_ok TotalS Try.func60 rfl rfl ?_
  rintro args ins res outs (⟨n, l, hl, hc, rfl, rfl, rfl, rfl⟩ | ⟨N, m, hv, hc, rfl, rfl, rfl, rfl⟩)
  all_goals refine ⟨by simp [Try.ntmps60], fun w0 V Bo mu0 => ?_⟩
  · skip
    repeat' (first
      | (with_reducible first | refine W_seq ?_ | refine W_condT rfl ?_ | refine W_condF rfl ?_ | refine W_tf rfl (fun h => ?_) (fun h => ?_) | refine W_block ?_ | refine endQ_ret ?_ | refine endQ_normal ?_)
      | ((with_reducible first | refine hK _ ?_ | refine hK _ _ ?_); clear hK K)
      | ((first | (with_reducible first | refine ops_cons (fun K hK => ?_) | refine opsd_cons (fun K hK => ?_) | refine ops_nil ?_ | refine fit_i64 (by omega) ?_ | refine fit_any ?_) | ((with_reducible refine opsd_nil ?_); refine And.intro (by kernel_rfl) ?_) | with_reducible refine callV_snap ?_ | ((with_reducible refine call_go CheckS Check_ok ?_); refine ⟨(by first | exact alOk_nil _ | exact alOk_f rfl), _, _, Check_at _ _ hl, ?_⟩) | (with_reducible first | refine idx_map (by omega) ?_ | refine W_reg lv60BdK ?_ | refine W_drw lv60BdK (by kernel_rfl) ?_ | refine W_skip ?_ | refine W_exit ?_ | refine W_ret ?_ | refine end_at0 ?_) | (with_reducible refine And.intro (fun h => ?_) (fun h => ?_)) | (with_reducible refine And.intro (by omega) ?_)); (try simp only [go_sem, seval, reduceCtorEq, hc, lv60BdK, Try.ntmps60, Try.results60, TotalS]))
      | fail)
  · have hlen := hv.len
    have h6 : ∀ b ∈ m, b.2 ≤ 6 := fun b hb => (hv.bls.rng b hb).2
    repeat' (first
      | (with_reducible first | refine W_seq ?_ | refine W_condT rfl ?_ | refine W_condF rfl ?_ | refine W_tf rfl (fun h => ?_) (fun h => ?_) | refine W_block ?_ | refine endQ_ret ?_ | refine endQ_normal ?_)
      | ((with_reducible first | refine hK _ ?_ | refine hK _ _ ?_); clear hK K)
      | ((first | (with_reducible first | refine ops_cons (fun K hK => ?_) | refine opsd_cons (fun K hK => ?_) | refine ops_nil ?_ | refine fit_i64 (by omega) ?_ | refine fit_any ?_) | ((with_reducible refine opsd_nil ?_); refine And.intro (by kernel_rfl) ?_) | with_reducible refine callV_snap ?_ | ((with_reducible refine call_go CheckVS CheckV_ok ?_); refine ⟨(by first | exact alOk_nil _ | exact alOk_f rfl), _, _, CheckV_at _ _ hv hc, ?_⟩) | (with_reducible first | refine idx_map (by omega) ?_ | refine W_reg lv60BdK ?_ | refine W_drw lv60BdK (by kernel_rfl) ?_ | refine W_skip ?_ | refine W_exit ?_ | refine W_ret ?_ | refine end_at0 ?_) | (with_reducible refine And.intro (fun h => ?_) (fun h => ?_)) | (with_reducible refine And.intro (by omega) ?_)); (try simp only [go_sem, seval, reduceCtorEq, lv60BdK, Try.ntmps60, Try.results60, TotalS]))
      | fail)
    refine W_loop (fun i : Nat => ⟨[(6, iv (totTo m i)), (18, dN m), (19, iv m.length), (20, iv i)], []⟩) (fun i => i ≤ m.length) (fun i => m.length - i) 0 (Nat.zero_le _) [] ?_ ?_
    · simp [go_sem, totTo]
    intro i hi
    have ht := totTo_le m h6 i hi
    by_cases hlt : i < m.length
    · have hki : (i : Int) < m.length := by omega
      obtain ⟨r1, r2⟩ := hv.bls.rng _ (List.getElem_mem hlt)
      have hp := p64 _ r2
      have hst := totTo_step m i hlt
      have hs : ((m[i]).1 + 2 ^ (m[i]).2 : Nat) - ((m[i]).1 : Int) = ((2 ^ (m[i]).2 : Nat) : Int) := by omega
      have r3 : (m[i]).1 ≤ 256 := by omega
      repeat' (first
        | (with_reducible first | refine W_seq ?_ | refine W_condT rfl ?_ | refine W_condF rfl ?_ | refine W_tf rfl (fun h => ?_) (fun h => ?_) | refine W_block ?_ | refine endQ_ret ?_ | refine endQ_normal ?_)
        | ((with_reducible first | refine hK _ ?_ | refine hK _ _ ?_); clear hK K)
        | ((first | (with_reducible first | refine ops_cons (fun K hK => ?_) | refine opsd_cons (fun K hK => ?_) | refine ops_nil ?_ | refine fit_i64 (by omega) ?_ | refine fit_any ?_) | ((with_reducible refine opsd_nil ?_); refine And.intro (by kernel_rfl) ?_) | with_reducible refine callV_snap ?_ | ((with_reducible refine call_go nendS nend_ok ?_); refine ⟨(by first | exact alOk_nil _ | exact alOk_f rfl), _, _, nend_at _ r2 r3, ?_⟩) | (with_reducible first | refine idx_map (by omega) ?_ | refine W_reg lv60BdK ?_ | refine W_drw lv60BdK (by kernel_rfl) ?_ | refine W_skip ?_ | refine W_exit ?_ | refine W_ret ?_ | refine end_at0 ?_) | (with_reducible refine And.intro (fun h => ?_) (fun h => ?_)) | (with_reducible refine And.intro (by omega) ?_)); (try simp only [go_sem, seval, reduceCtorEq, hki, encN, hs, lv60BdK, Try.ntmps60, Try.results60, TotalS]))
        | fail)
      refine ⟨i + 1, [], by omega, by omega, ?_⟩
      simp [go_sem, hst]
    · have hki : ¬ (i : Int) < m.length := by omega
      obtain rfl : i = m.length := by omega
      have e : totTo m m.length = tot m := rfl
      repeat' (first
        | (with_reducible first | refine W_seq ?_ | refine W_condT rfl ?_ | refine W_condF rfl ?_ | refine W_tf rfl (fun h => ?_) (fun h => ?_) | refine W_block ?_ | refine endQ_ret ?_ | refine endQ_normal ?_)
        | ((with_reducible first | refine hK _ ?_ | refine hK _ _ ?_); clear hK K)
        | ((first | (with_reducible first | refine ops_cons (fun K hK => ?_) | refine opsd_cons (fun K hK => ?_) | refine ops_nil ?_ | refine fit_i64 (by omega) ?_ | refine fit_any ?_) | ((with_reducible refine opsd_nil ?_); refine And.intro (by kernel_rfl) ?_) | with_reducible refine callV_snap ?_ | (with_reducible first | refine idx_map (by omega) ?_ | refine W_reg lv60BdK ?_ | refine W_drw lv60BdK (by kernel_rfl) ?_ | refine W_skip ?_ | refine W_exit ?_ | refine W_ret ?_ | refine end_at0 ?_) | (with_reducible refine And.intro (fun h => ?_) (fun h => ?_)) | (with_reducible refine And.intro (by omega) ?_)); (try simp only [go_sem, seval, reduceCtorEq, hki, e, lv60BdK, Try.ntmps60, Try.results60, TotalS]))
        | fail)
end Go.Proofs.Ytacfipmigkbncaa
