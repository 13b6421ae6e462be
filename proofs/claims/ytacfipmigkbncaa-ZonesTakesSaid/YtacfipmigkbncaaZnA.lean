/- Two zones: small functions, Check, Which, by the engine. -/
import Derived.Test.YtacfipmigkbncaaBdJ
namespace Go.Proofs.Ytacfipmigkbncaa
open Go.RowKit
set_option maxRecDepth 100000
set_option linter.unusedSimpArgs false
set_option linter.unusedVariables false

abbrev lv22ZnA : List (Nat × List Nat) := [(0, [1]), (1, [1, 11]), (2, [2]), (3, [1, 3]), (4, [1, 3, 16]), (5, [2]), (6, [3, 18, 19, 20]), (7, [3, 18, 19, 20, 21]), (8, [3, 5, 18, 19, 20]), (9, [3, 6, 18, 19, 20]), (10, [3, 6, 18, 19, 20, 30]), (11, [2]), (12, [3, 18, 19, 20]), (13, [35]), (14, [2]), (15, [2])]
abbrev lv23ZnA : List (Nat × List Nat) := [(0, [1]), (1, [1, 9]), (2, [2]), (3, [1, 22]), (4, [2]), (5, [1, 3]), (6, [1, 3, 24]), (7, [1, 3]), (8, [1, 3, 4]), (9, [1, 3, 4, 37]), (10, [2]), (11, [50]), (12, [2]), (13, [2])]
abbrev lv53ZnA : List (Nat × List Nat) := [(0, [0, 1]), (1, [0, 1, 8]), (2, [1, 6]), (3, [4, 5]), (4, [4, 5])]
abbrev lv54ZnA : List (Nat × List Nat) := [(0, [1, 2, 3]), (1, [1, 2, 3, 8]), (2, [6, 7]), (3, [20]), (4, [6, 7]), (5, [6, 7])]
abbrev lv56ZnA : List (Nat × List Nat) := [(0, [0, 1]), (1, [0, 1, 8]), (2, [1, 6]), (3, [4, 5]), (4, [4, 5])]
abbrev Zo := Int × List Bi
def encZi (z : Zo) : List D := [.int .i64 z.1, .sl (z.2.map encBk)]
abbrev zzv (low : Int) (zs : List Zo) : AV := .agg [iv low, .d (.sl (zs.map encZi))]
abbrev zz2 (low : Int) (a b : Zo) : AV := .agg [iv low, .d (.sl [[.int .i64 a.1, .sl (a.2.map encBk)], [.int .i64 b.1, .sl (b.2.map encBk)]])]
theorem zz2_eq (low : Int) (a b : Zo) : zzv low [a, b] = zz2 low a b := rfl
def zzchk (low : Int) : List Zo → Int
  | [a, b] => if low < 1 ∨ low ≠ a.1 then 2 else if (zchk a.1 a.2).1 ≠ 0 then (zchk a.1 a.2).1 else if (zchk b.1 b.2).1 ≠ 0 then (zchk b.1 b.2).1 else if 256 < a.1 + b.1 then 2 else 0
  | _ => 3
def frmz : List Zo → Int
  | [a, b] => a.1 + b.1
  | _ => 0
theorem zs_two {zs : List Zo} (h : zs.length = 2) : ∃ a b, zs = [a, b] := by
  match zs, h with
  | [a, b], _ => exact ⟨a, b, rfl⟩
theorem zzchk_ne {low : Int} {zs : List Zo} (h : zs.length ≠ 2) : zzchk low zs = 3 := by
  match zs, h with
  | [], _ => rfl
  | [_], _ => rfl
  | [_, _], h => exact absurd rfl h
  | _ :: _ :: _ :: _, _ => rfl
theorem zchk_rng {n : Int} {l : List Bi} (h : (zchk n l).1 = 0) : 0 ≤ n ∧ n ≤ 256 := by
  unfold zchk at h
  split at h
  · cases h
  · omega

def sizeOfS : Spec := { rel := fun args ins res outs => ∃ o : Int, args = [iv o] ∧ ins = [] ∧ res = .tup [iv (if o < 0 ∨ 6 < o then 0 else 2 ^ o.toNat), iv (if o < 0 ∨ 6 < o then 2 else 0)] ∧ outs = [] }
theorem sizeOf_at (o : Int) : sizeOfS.rel [iv o] [] (.tup [iv (if o < 0 ∨ 6 < o then 0 else 2 ^ o.toNat), iv (if o < 0 ∨ 6 < o then 2 else 0)]) [] := ⟨o, rfl, rfl, rfl, rfl⟩
theorem sizeOf_ok : Ok Try.prog 39 sizeOfS := by
  refine fn_ok sizeOfS Try.func39 rfl rfl ?_
  rintro args ins res outs ⟨o, rfl, rfl, rfl, rfl⟩
  refine ⟨by simp [Try.ntmps39], fun w0 V Bo mu0 => ?_⟩
  by_cases h : o < 0 ∨ 6 < o
  · simp only [if_pos h]
    by_cases h1 : o < 0
    · skip
      repeat' (first
        | (with_reducible first | refine W_seq ?_ | refine W_condT rfl ?_ | refine W_condF rfl ?_ | refine W_tf rfl (fun h => ?_) (fun h => ?_) | refine endQ_ret ?_ | refine endQ_normal ?_)
        | ((with_reducible first | refine hK _ ?_ | refine hK _ _ ?_); clear hK K)
        | ((first | (with_reducible first | refine ops_cons (fun K hK => ?_) | refine ops_nil ?_ | refine fit_i64 (by omega) ?_ | refine fit_u8 (by omega) ?_ | refine fit_u64 (by omega) ?_ | refine fit_u32 (by omega) ?_ | refine fit_any ?_ | refine sh_in (by simp only [IntKind.bits]; omega) ?_) | (with_reducible first | refine W_reg [(0, [0]), (1, [0, 9]), (2, [2, 3]), (3, [2, 3])] ?_ | refine W_skip ?_ | refine W_ret ?_ | refine end_at0 ?_) | (with_reducible refine And.intro (fun h => ?_) (fun h => ?_)) | (with_reducible refine And.intro (by omega) ?_)); (try simp only [go_sem, seval, reduceCtorEq, h1, Try.ntmps39, Try.results39, sizeOfS]))
        | fail)
    · have h2 : 6 < o := by omega
      repeat' (first
        | (with_reducible first | refine W_seq ?_ | refine W_condT rfl ?_ | refine W_condF rfl ?_ | refine W_tf rfl (fun h => ?_) (fun h => ?_) | refine endQ_ret ?_ | refine endQ_normal ?_)
        | ((with_reducible first | refine hK _ ?_ | refine hK _ _ ?_); clear hK K)
        | ((first | (with_reducible first | refine ops_cons (fun K hK => ?_) | refine ops_nil ?_ | refine fit_i64 (by omega) ?_ | refine fit_u8 (by omega) ?_ | refine fit_u64 (by omega) ?_ | refine fit_u32 (by omega) ?_ | refine fit_any ?_ | refine sh_in (by simp only [IntKind.bits]; omega) ?_) | (with_reducible first | refine W_reg [(0, [0]), (1, [0, 9]), (2, [2, 3]), (3, [2, 3])] ?_ | refine W_skip ?_ | refine W_ret ?_ | refine end_at0 ?_) | (with_reducible refine And.intro (fun h => ?_) (fun h => ?_)) | (with_reducible refine And.intro (by omega) ?_)); (try simp only [go_sem, seval, reduceCtorEq, h1, h2, Try.ntmps39, Try.results39, sizeOfS]))
        | fail)
  · have h1 : ¬ o < 0 := by omega
    have h2 : ¬ 6 < o := by omega
    have hp := pow64 o (by omega) (by omega)
    simp only [if_neg h]
    repeat' (first
      | (with_reducible first | refine W_seq ?_ | refine W_condT rfl ?_ | refine W_condF rfl ?_ | refine W_tf rfl (fun h => ?_) (fun h => ?_) | refine endQ_ret ?_ | refine endQ_normal ?_)
      | ((with_reducible first | refine hK _ ?_ | refine hK _ _ ?_); clear hK K)
      | ((first | (with_reducible first | refine ops_cons (fun K hK => ?_) | refine ops_nil ?_ | refine fit_i64 (by omega) ?_ | refine fit_u8 (by omega) ?_ | refine fit_u64 (by omega) ?_ | refine fit_u32 (by omega) ?_ | refine fit_any ?_ | refine sh_in (by simp only [IntKind.bits]; omega) ?_) | (with_reducible first | refine W_reg [(0, [0]), (1, [0, 9]), (2, [2, 3]), (3, [2, 3])] ?_ | refine W_skip ?_ | refine W_ret ?_ | refine end_at0 ?_) | (with_reducible refine And.intro (fun h => ?_) (fun h => ?_)) | (with_reducible refine And.intro (by omega) ?_)); (try simp only [go_sem, seval, reduceCtorEq, h1, h2, Int.one_mul, Try.ntmps39, Try.results39, sizeOfS]))
      | fail)
def choiceS : Spec := { rel := fun args ins res outs => ∃ p : Int, args = [iv p] ∧ ins = [] ∧ res = bv (decide (p = 0 ∨ p = 1)) ∧ outs = [] }
theorem choice_at (p : Int) : choiceS.rel [iv p] [] (bv (decide (p = 0 ∨ p = 1))) [] := ⟨p, rfl, rfl, rfl, rfl⟩
theorem choice_ok : Ok Try.prog 40 choiceS := by
  refine fn_ok choiceS Try.func40 rfl rfl ?_
  rintro args ins res outs ⟨p, rfl, rfl, rfl, rfl⟩
  refine ⟨by simp [Try.ntmps40], fun w0 V Bo mu0 => ?_⟩
  by_cases h0 : p = 0
  · rw [decide_eq_true (.inl h0)]
    repeat' (first
      | (with_reducible first | refine W_seq ?_ | refine endQ_ret ?_ | refine endQ_normal ?_)
      | ((with_reducible first | refine hK _ ?_ | refine hK _ _ ?_); clear hK K)
      | ((first | (with_reducible first | refine ops_cons (fun K hK => ?_) | refine ops_nil ?_) | (with_reducible first | refine W_reg [(0, [0]), (1, [2])] ?_ | refine W_ret ?_ | refine end_at0 ?_) | (with_reducible refine And.intro (fun h => ?_) (fun h => ?_)) | (with_reducible refine And.intro (by omega) ?_)); (try simp only [go_sem, seval, reduceCtorEq, h0, Try.ntmps40, Try.results40, choiceS]))
      | fail)
  · by_cases h1 : p = 1
    · rw [decide_eq_true (.inr h1)]
      repeat' (first
        | (with_reducible first | refine W_seq ?_ | refine endQ_ret ?_ | refine endQ_normal ?_)
        | ((with_reducible first | refine hK _ ?_ | refine hK _ _ ?_); clear hK K)
        | ((first | (with_reducible first | refine ops_cons (fun K hK => ?_) | refine ops_nil ?_) | (with_reducible first | refine W_reg [(0, [0]), (1, [2])] ?_ | refine W_ret ?_ | refine end_at0 ?_) | (with_reducible refine And.intro (fun h => ?_) (fun h => ?_)) | (with_reducible refine And.intro (by omega) ?_)); (try simp only [go_sem, seval, reduceCtorEq, h0, h1, Try.ntmps40, Try.results40, choiceS]))
        | fail)
    · rw [decide_eq_false (by omega)]
      repeat' (first
        | (with_reducible first | refine W_seq ?_ | refine endQ_ret ?_ | refine endQ_normal ?_)
        | ((with_reducible first | refine hK _ ?_ | refine hK _ _ ?_); clear hK K)
        | ((first | (with_reducible first | refine ops_cons (fun K hK => ?_) | refine ops_nil ?_) | (with_reducible first | refine W_reg [(0, [0]), (1, [2])] ?_ | refine W_ret ?_ | refine end_at0 ?_) | (with_reducible refine And.intro (fun h => ?_) (fun h => ?_)) | (with_reducible refine And.intro (by omega) ?_)); (try simp only [go_sem, seval, reduceCtorEq, h0, h1, Try.ntmps40, Try.results40, choiceS]))
        | fail)
def splitS : Spec := { rel := fun args ins res outs => ∃ (low : Int) (a b : Zo) (r : Bool), (r = true ↔ 1 ≤ low ∧ low = a.1) ∧ args = [zz2 low a b] ∧ ins = [] ∧ res = bv r ∧ outs = [] }
theorem split_at (low : Int) (a b : Zo) (r : Bool) (h : r = true ↔ 1 ≤ low ∧ low = a.1) : splitS.rel [zz2 low a b] [] (bv r) [] := ⟨low, a, b, r, h, rfl, rfl, rfl, rfl⟩
theorem split_ok : Ok Try.prog 49 splitS := by
  refine fn_ok splitS Try.func49 rfl rfl ?_
  rintro args ins res outs ⟨low, a, b, r, hr, rfl, rfl, rfl, rfl⟩
  refine ⟨by simp [Try.ntmps49], fun w0 V Bo mu0 => ?_⟩
  by_cases h0 : 1 ≤ low
  · by_cases h1 : low = a.1
    · rw [hr.2 ⟨h0, h1⟩]
      subst h1
      repeat' (first
        | (with_reducible first | refine W_seq ?_ | refine endQ_ret ?_ | refine endQ_normal ?_)
        | ((with_reducible first | refine hK _ ?_ | refine hK _ _ ?_); clear hK K)
        | ((first | (with_reducible first | refine ops_cons (fun K hK => ?_) | refine opsd_cons (fun K hK => ?_) | refine ops_nil ?_) | ((with_reducible refine opsd_nil ?_); refine And.intro (by kernel_rfl) ?_) | (with_reducible first | refine idx_map (by omega) ?_ | refine W_reg [(0, [1]), (1, [2])] ?_ | refine W_drw [(0, [1]), (1, [2])] (by kernel_rfl) ?_ | refine W_ret ?_ | refine end_at0 ?_) | (with_reducible refine And.intro (fun h => ?_) (fun h => ?_)) | (with_reducible refine And.intro (by omega) ?_)); (try simp only [go_sem, seval, reduceCtorEq, h0, Try.ntmps49, Try.results49, splitS]))
        | fail)
    · rw [Bool.eq_false_iff.2 (fun h => h1 (hr.1 h).2)]
      repeat' (first
        | (with_reducible first | refine W_seq ?_ | refine endQ_ret ?_ | refine endQ_normal ?_)
        | ((with_reducible first | refine hK _ ?_ | refine hK _ _ ?_); clear hK K)
        | ((first | (with_reducible first | refine ops_cons (fun K hK => ?_) | refine opsd_cons (fun K hK => ?_) | refine ops_nil ?_) | ((with_reducible refine opsd_nil ?_); refine And.intro (by kernel_rfl) ?_) | (with_reducible first | refine idx_map (by omega) ?_ | refine W_reg [(0, [1]), (1, [2])] ?_ | refine W_drw [(0, [1]), (1, [2])] (by kernel_rfl) ?_ | refine W_ret ?_ | refine end_at0 ?_) | (with_reducible refine And.intro (fun h => ?_) (fun h => ?_)) | (with_reducible refine And.intro (by omega) ?_)); (try simp only [go_sem, seval, reduceCtorEq, h0, h1, Try.ntmps49, Try.results49, splitS]))
        | fail)
  · rw [Bool.eq_false_iff.2 (fun h => h0 (hr.1 h).1)]
    repeat' (first
      | (with_reducible first | refine W_seq ?_ | refine endQ_ret ?_ | refine endQ_normal ?_)
      | ((with_reducible first | refine hK _ ?_ | refine hK _ _ ?_); clear hK K)
      | ((first | (with_reducible first | refine ops_cons (fun K hK => ?_) | refine opsd_cons (fun K hK => ?_) | refine ops_nil ?_) | ((with_reducible refine opsd_nil ?_); refine And.intro (by kernel_rfl) ?_) | (with_reducible first | refine idx_map (by omega) ?_ | refine W_reg [(0, [1]), (1, [2])] ?_ | refine W_drw [(0, [1]), (1, [2])] (by kernel_rfl) ?_ | refine W_ret ?_ | refine end_at0 ?_) | (with_reducible refine And.intro (fun h => ?_) (fun h => ?_)) | (with_reducible refine And.intro (by omega) ?_)); (try simp only [go_sem, seval, reduceCtorEq, h0, Try.ntmps49, Try.results49, splitS]))
      | fail)
def framesS : Spec := { rel := fun args ins res outs => ∃ (low : Int) (a b : Zo), 0 ≤ a.1 ∧ a.1 ≤ 256 ∧ 0 ≤ b.1 ∧ b.1 ≤ 256 ∧ args = [zz2 low a b] ∧ ins = [] ∧ res = iv (a.1 + b.1) ∧ outs = [] }
theorem frames_at (low : Int) (a b : Zo) (h1 : 0 ≤ a.1 ∧ a.1 ≤ 256) (h2 : 0 ≤ b.1 ∧ b.1 ≤ 256) : framesS.rel [zz2 low a b] [] (iv (a.1 + b.1)) [] := ⟨low, a, b, h1.1, h1.2, h2.1, h2.2, rfl, rfl, rfl, rfl⟩
theorem frames_ok : Ok Try.prog 51 framesS := by
  refine fn_ok framesS Try.func51 rfl rfl ?_
  rintro args ins res outs ⟨low, a, b, a0, a1, b0, b1, rfl, rfl, rfl, rfl⟩
  refine ⟨by simp [Try.ntmps51], fun w0 V Bo mu0 => ?_⟩
  repeat' (first
    | (with_reducible first | refine W_seq ?_ | refine endQ_ret ?_ | refine endQ_normal ?_)
    | ((with_reducible first | refine hK _ ?_ | refine hK _ _ ?_); clear hK K)
    | ((first | (with_reducible first | refine ops_cons (fun K hK => ?_) | refine opsd_cons (fun K hK => ?_) | refine ops_nil ?_ | refine fit_i64 (by omega) ?_ | refine fit_any ?_) | ((with_reducible refine opsd_nil ?_); refine And.intro (by kernel_rfl) ?_) | (with_reducible first | refine idx_map (by omega) ?_ | refine W_reg [(0, [1]), (1, [2])] ?_ | refine W_drw [(0, [1]), (1, [2])] (by kernel_rfl) ?_ | refine W_ret ?_ | refine end_at0 ?_) | (with_reducible refine And.intro (fun h => ?_) (fun h => ?_)) | (with_reducible refine And.intro (by omega) ?_)); (try simp only [go_sem, seval, reduceCtorEq, Try.ntmps51, Try.results51, framesS]))
    | fail)
abbrev rframeS : Spec := framesS
theorem rframe_at (low : Int) (a b : Zo) (h1 : 0 ≤ a.1 ∧ a.1 ≤ 256) (h2 : 0 ≤ b.1 ∧ b.1 ≤ 256) : rframeS.rel [zz2 low a b] [] (iv (a.1 + b.1)) [] := ⟨low, a, b, h1.1, h1.2, h2.1, h2.2, rfl, rfl, rfl, rfl⟩
theorem rframe_ok : Ok Try.prog 55 rframeS := by
  refine fn_ok rframeS Try.func55 rfl rfl ?_
  rintro args ins res outs ⟨low, a, b, a0, a1, b0, b1, rfl, rfl, rfl, rfl⟩
  refine ⟨by simp [Try.ntmps55], fun w0 V Bo mu0 => ?_⟩
  repeat' (first
    | (with_reducible first | refine W_seq ?_ | refine endQ_ret ?_ | refine endQ_normal ?_)
    | ((with_reducible first | refine hK _ ?_ | refine hK _ _ ?_); clear hK K)
    | ((first | (with_reducible first | refine ops_cons (fun K hK => ?_) | refine opsd_cons (fun K hK => ?_) | refine ops_nil ?_ | refine fit_i64 (by omega) ?_ | refine fit_any ?_) | ((with_reducible refine opsd_nil ?_); refine And.intro (by kernel_rfl) ?_) | (with_reducible first | refine idx_map (by omega) ?_ | refine W_reg [(0, [1]), (1, [2])] ?_ | refine W_drw [(0, [1]), (1, [2])] (by kernel_rfl) ?_ | refine W_ret ?_ | refine end_at0 ?_) | (with_reducible refine And.intro (fun h => ?_) (fun h => ?_)) | (with_reducible refine And.intro (by omega) ?_)); (try simp only [go_sem, seval, reduceCtorEq, Try.ntmps55, Try.results55, framesS]))
    | fail)
def baseS : Spec := { rel := fun args ins res outs => ∃ (low : Int) (a b : Zo) (k : Int), 0 ≤ low ∧ low ≤ 256 ∧ (k = 0 ∨ k = 1) ∧ args = [zz2 low a b, iv k] ∧ ins = [] ∧ res = iv (k * low) ∧ outs = [] }
theorem base_at (low : Int) (a b : Zo) (k : Int) (h1 : 0 ≤ low ∧ low ≤ 256) (hk : k = 0 ∨ k = 1) : baseS.rel [zz2 low a b, iv k] [] (iv (k * low)) [] := ⟨low, a, b, k, h1.1, h1.2, hk, rfl, rfl, rfl, rfl⟩
theorem base_ok : Ok Try.prog 58 baseS := by
  refine fn_ok baseS Try.func58 rfl rfl ?_
  rintro args ins res outs ⟨low, a, b, k, h0, h1, hk, rfl, rfl, rfl, rfl⟩
  refine ⟨by simp [Try.ntmps58], fun w0 V Bo mu0 => ?_⟩
  rcases hk with rfl | rfl
  · have e : (0 : Int) * low = 0 := Int.zero_mul low
    repeat' (first
      | (with_reducible first | refine W_seq ?_ | refine endQ_ret ?_ | refine endQ_normal ?_)
      | ((with_reducible first | refine hK _ ?_ | refine hK _ _ ?_); clear hK K)
      | ((first | (with_reducible first | refine ops_cons (fun K hK => ?_) | refine ops_nil ?_ | refine fit_i64 (by omega) ?_ | refine fit_any ?_) | (with_reducible first | refine W_reg [(0, [1, 2]), (1, [4])] ?_ | refine W_ret ?_ | refine end_at0 ?_) | (with_reducible refine And.intro (fun h => ?_) (fun h => ?_)) | (with_reducible refine And.intro (by omega) ?_)); (try simp only [go_sem, seval, reduceCtorEq, e, Try.ntmps58, Try.results58, baseS]))
      | fail)
  · have e : (1 : Int) * low = low := Int.one_mul low
    repeat' (first
      | (with_reducible first | refine W_seq ?_ | refine endQ_ret ?_ | refine endQ_normal ?_)
      | ((with_reducible first | refine hK _ ?_ | refine hK _ _ ?_); clear hK K)
      | ((first | (with_reducible first | refine ops_cons (fun K hK => ?_) | refine ops_nil ?_ | refine fit_i64 (by omega) ?_ | refine fit_any ?_) | (with_reducible first | refine W_reg [(0, [1, 2]), (1, [4])] ?_ | refine W_ret ?_ | refine end_at0 ?_) | (with_reducible refine And.intro (fun h => ?_) (fun h => ?_)) | (with_reducible refine And.intro (by omega) ?_)); (try simp only [go_sem, seval, reduceCtorEq, e, Try.ntmps58, Try.results58, baseS]))
      | fail)
def zof (low fr at' size : Int) : Int × Int := if 0 ≤ at' ∧ at' ≤ low - size then (0, 0) else if low ≤ at' ∧ at' ≤ fr - size then (1, 0) else (0, 2)
def zoneOfS : Spec := { rel := fun args ins res outs => ∃ (low : Int) (a b : Zo) (w s : Int), 0 ≤ low ∧ low ≤ 256 ∧ (0 ≤ a.1 ∧ a.1 ≤ 256) ∧ (0 ≤ b.1 ∧ b.1 ≤ 256) ∧ 0 ≤ s ∧ s ≤ 64 ∧ args = [zz2 low a b, iv w, iv s] ∧ ins = [] ∧ res = .tup [iv (zof low (a.1 + b.1) w s).1, iv (zof low (a.1 + b.1) w s).2] ∧ outs = [] }
theorem zoneOf_at (low : Int) (a b : Zo) (w s : Int) (h1 : 0 ≤ low ∧ low ≤ 256) (ha : 0 ≤ a.1 ∧ a.1 ≤ 256) (hb : 0 ≤ b.1 ∧ b.1 ≤ 256) (hs : 0 ≤ s ∧ s ≤ 64) : zoneOfS.rel [zz2 low a b, iv w, iv s] [] (.tup [iv (zof low (a.1 + b.1) w s).1, iv (zof low (a.1 + b.1) w s).2]) [] := ⟨low, a, b, w, s, h1.1, h1.2, ha, hb, hs.1, hs.2, rfl, rfl, rfl, rfl⟩
theorem zoneOf_ok : Ok Try.prog 54 zoneOfS := by
  refine fn_ok zoneOfS Try.func54 rfl rfl ?_
  rintro args ins res outs ⟨low, a, b, w, s, h0, h1, ha, hb, s0, s1, rfl, rfl, rfl, rfl⟩
  refine ⟨by simp [Try.ntmps54], fun w0 V Bo mu0 => ?_⟩
  obtain ⟨a0, a1⟩ := ha
  obtain ⟨b0, b1⟩ := hb
  unfold zof
  by_cases c0 : 0 ≤ w ∧ w ≤ low - s
  · obtain ⟨c1, c2⟩ := c0
    rw [if_pos ⟨c1, c2⟩]
    repeat' (first
      | (with_reducible first | refine W_seq ?_ | refine W_condT rfl ?_ | refine W_condF rfl ?_ | refine W_tf rfl (fun h => ?_) (fun h => ?_) | refine W_block ?_ | refine endQ_ret ?_ | refine endQ_normal ?_)
      | ((with_reducible first | refine hK _ ?_ | refine hK _ _ ?_); clear hK K)
      | ((first | (with_reducible first | refine ops_cons (fun K hK => ?_) | refine ops_nil ?_ | refine fit_i64 (by omega) ?_ | refine fit_any ?_) | with_reducible refine callV_snap ?_ | (with_reducible first | refine W_reg lv54ZnA ?_ | refine W_skip ?_ | refine W_ret ?_ | refine end_at0 ?_) | (with_reducible refine And.intro (fun h => ?_) (fun h => ?_)) | (with_reducible refine And.intro (by omega) ?_)); (try simp only [go_sem, seval, reduceCtorEq, c1, c2, lv54ZnA, Try.ntmps54, Try.results54, zoneOfS]))
      | fail)
  · rw [if_neg c0]
    by_cases d0 : low ≤ w ∧ w ≤ a.1 + b.1 - s
    · obtain ⟨d1, d2⟩ := d0
      have c1 : 0 ≤ w := by omega
      have c2 : ¬ w ≤ low - s := by omega
      rw [if_pos ⟨d1, d2⟩]
      repeat' (first
        | (with_reducible first | refine W_seq ?_ | refine W_condT rfl ?_ | refine W_condF rfl ?_ | refine W_tf rfl (fun h => ?_) (fun h => ?_) | refine W_block ?_ | refine endQ_ret ?_ | refine endQ_normal ?_)
        | ((with_reducible first | refine hK _ ?_ | refine hK _ _ ?_); clear hK K)
        | ((first | (with_reducible first | refine ops_cons (fun K hK => ?_) | refine ops_nil ?_ | refine fit_i64 (by omega) ?_ | refine fit_any ?_) | with_reducible refine callV_snap ?_ | ((with_reducible refine call_go framesS frames_ok ?_); refine ⟨(by first | exact alOk_nil _ | exact alOk_f rfl), _, _, frames_at low a b ⟨a0, a1⟩ ⟨b0, b1⟩, ?_⟩) | (with_reducible first | refine W_reg lv54ZnA ?_ | refine W_skip ?_ | refine W_ret ?_ | refine end_at0 ?_) | (with_reducible refine And.intro (fun h => ?_) (fun h => ?_)) | (with_reducible refine And.intro (by omega) ?_)); (try simp only [go_sem, seval, reduceCtorEq, c1, c2, d1, d2, lv54ZnA, Try.ntmps54, Try.results54, zoneOfS]))
        | fail)
    · rw [if_neg d0]
      by_cases c1 : 0 ≤ w
      · have c2 : ¬ w ≤ low - s := by omega
        by_cases d1 : low ≤ w
        · have d2 : ¬ w ≤ a.1 + b.1 - s := by omega
          repeat' (first
            | (with_reducible first | refine W_seq ?_ | refine W_condT rfl ?_ | refine W_condF rfl ?_ | refine W_tf rfl (fun h => ?_) (fun h => ?_) | refine W_block ?_ | refine endQ_ret ?_ | refine endQ_normal ?_)
            | ((with_reducible first | refine hK _ ?_ | refine hK _ _ ?_); clear hK K)
            | ((first | (with_reducible first | refine ops_cons (fun K hK => ?_) | refine ops_nil ?_ | refine fit_i64 (by omega) ?_ | refine fit_any ?_) | with_reducible refine callV_snap ?_ | ((with_reducible refine call_go framesS frames_ok ?_); refine ⟨(by first | exact alOk_nil _ | exact alOk_f rfl), _, _, frames_at low a b ⟨a0, a1⟩ ⟨b0, b1⟩, ?_⟩) | (with_reducible first | refine W_reg lv54ZnA ?_ | refine W_skip ?_ | refine W_ret ?_ | refine end_at0 ?_) | (with_reducible refine And.intro (fun h => ?_) (fun h => ?_)) | (with_reducible refine And.intro (by omega) ?_)); (try simp only [go_sem, seval, reduceCtorEq, c1, c2, d1, d2, lv54ZnA, Try.ntmps54, Try.results54, zoneOfS]))
            | fail)
        · skip
          repeat' (first
            | (with_reducible first | refine W_seq ?_ | refine W_condT rfl ?_ | refine W_condF rfl ?_ | refine W_tf rfl (fun h => ?_) (fun h => ?_) | refine W_block ?_ | refine endQ_ret ?_ | refine endQ_normal ?_)
            | ((with_reducible first | refine hK _ ?_ | refine hK _ _ ?_); clear hK K)
            | ((first | (with_reducible first | refine ops_cons (fun K hK => ?_) | refine ops_nil ?_ | refine fit_i64 (by omega) ?_ | refine fit_any ?_) | with_reducible refine callV_snap ?_ | ((with_reducible refine call_go framesS frames_ok ?_); refine ⟨(by first | exact alOk_nil _ | exact alOk_f rfl), _, _, frames_at low a b ⟨a0, a1⟩ ⟨b0, b1⟩, ?_⟩) | (with_reducible first | refine W_reg lv54ZnA ?_ | refine W_skip ?_ | refine W_ret ?_ | refine end_at0 ?_) | (with_reducible refine And.intro (fun h => ?_) (fun h => ?_)) | (with_reducible refine And.intro (by omega) ?_)); (try simp only [go_sem, seval, reduceCtorEq, c1, c2, d1, lv54ZnA, Try.ntmps54, Try.results54, zoneOfS]))
            | fail)
      · have d1 : ¬ low ≤ w := by omega
        repeat' (first
          | (with_reducible first | refine W_seq ?_ | refine W_condT rfl ?_ | refine W_condF rfl ?_ | refine W_tf rfl (fun h => ?_) (fun h => ?_) | refine W_block ?_ | refine endQ_ret ?_ | refine endQ_normal ?_)
          | ((with_reducible first | refine hK _ ?_ | refine hK _ _ ?_); clear hK K)
          | ((first | (with_reducible first | refine ops_cons (fun K hK => ?_) | refine ops_nil ?_ | refine fit_i64 (by omega) ?_ | refine fit_any ?_) | with_reducible refine callV_snap ?_ | ((with_reducible refine call_go framesS frames_ok ?_); refine ⟨(by first | exact alOk_nil _ | exact alOk_f rfl), _, _, frames_at low a b ⟨a0, a1⟩ ⟨b0, b1⟩, ?_⟩) | (with_reducible first | refine W_reg lv54ZnA ?_ | refine W_skip ?_ | refine W_ret ?_ | refine end_at0 ?_) | (with_reducible refine And.intro (fun h => ?_) (fun h => ?_)) | (with_reducible refine And.intro (by omega) ?_)); (try simp only [go_sem, seval, reduceCtorEq, c1, d1, lv54ZnA, Try.ntmps54, Try.results54, zoneOfS]))
          | fail)
def resIS : Spec := { rel := fun args ins res outs => ∃ v e : Int, args = [iv v, iv e] ∧ ins = [] ∧ res = .tup [iv (if e = 0 then v else 0), iv e] ∧ outs = [] }
theorem resI_at (v e : Int) : resIS.rel [iv v, iv e] [] (.tup [iv (if e = 0 then v else 0), iv e]) [] := ⟨v, e, rfl, rfl, rfl, rfl⟩
theorem resI_ok : Ok Try.prog 53 resIS := by
  refine fn_ok resIS Try.func53 rfl rfl ?_
  rintro args ins res outs ⟨v, e, rfl, rfl, rfl, rfl⟩
  refine ⟨by simp [Try.ntmps53], fun w0 V Bo mu0 => ?_⟩
  by_cases h : e = 0
  · subst h
    simp only [if_true]
    repeat' (first
      | (with_reducible first | refine W_seq ?_ | refine W_condT rfl ?_ | refine W_condF rfl ?_ | refine W_tf rfl (fun h => ?_) (fun h => ?_) | refine endQ_ret ?_ | refine endQ_normal ?_)
      | ((with_reducible first | refine hK _ ?_ | refine hK _ _ ?_); clear hK K)
      | ((first | (with_reducible first | refine ops_cons (fun K hK => ?_) | refine ops_nil ?_) | (with_reducible first | refine W_reg lv53ZnA ?_ | refine W_skip ?_ | refine W_ret ?_ | refine end_at0 ?_) | (with_reducible refine And.intro (fun h => ?_) (fun h => ?_)) | (with_reducible refine And.intro (by omega) ?_)); (try simp only [go_sem, seval, reduceCtorEq, lv53ZnA, Try.ntmps53, Try.results53, resIS]))
      | fail)
  · rw [if_neg h]
    repeat' (first
      | (with_reducible first | refine W_seq ?_ | refine W_condT rfl ?_ | refine W_condF rfl ?_ | refine W_tf rfl (fun h => ?_) (fun h => ?_) | refine endQ_ret ?_ | refine endQ_normal ?_)
      | ((with_reducible first | refine hK _ ?_ | refine hK _ _ ?_); clear hK K)
      | ((first | (with_reducible first | refine ops_cons (fun K hK => ?_) | refine ops_nil ?_) | (with_reducible first | refine W_reg lv53ZnA ?_ | refine W_skip ?_ | refine W_ret ?_ | refine end_at0 ?_) | (with_reducible refine And.intro (fun h => ?_) (fun h => ?_)) | (with_reducible refine And.intro (by omega) ?_)); (try simp only [go_sem, seval, reduceCtorEq, h, lv53ZnA, Try.ntmps53, Try.results53, resIS]))
      | fail)
def resBS : Spec := { rel := fun args ins res outs => ∃ (v : Bool) (e : Int), args = [bv v, iv e] ∧ ins = [] ∧ res = .tup [bv (if e = 0 then v else false), iv e] ∧ outs = [] }
theorem resB_at (v : Bool) (e : Int) : resBS.rel [bv v, iv e] [] (.tup [bv (if e = 0 then v else false), iv e]) [] := ⟨v, e, rfl, rfl, rfl, rfl⟩
theorem resB_ok : Ok Try.prog 56 resBS := by
  refine fn_ok resBS Try.func56 rfl rfl ?_
  rintro args ins res outs ⟨v, e, rfl, rfl, rfl, rfl⟩
  refine ⟨by simp [Try.ntmps56], fun w0 V Bo mu0 => ?_⟩
  by_cases h : e = 0
  · subst h
    simp only [if_true]
    repeat' (first
      | (with_reducible first | refine W_seq ?_ | refine W_condT rfl ?_ | refine W_condF rfl ?_ | refine W_tf rfl (fun h => ?_) (fun h => ?_) | refine endQ_ret ?_ | refine endQ_normal ?_)
      | ((with_reducible first | refine hK _ ?_ | refine hK _ _ ?_); clear hK K)
      | ((first | (with_reducible first | refine ops_cons (fun K hK => ?_) | refine ops_nil ?_) | (with_reducible first | refine W_reg lv56ZnA ?_ | refine W_skip ?_ | refine W_ret ?_ | refine end_at0 ?_) | (with_reducible refine And.intro (fun h => ?_) (fun h => ?_)) | (with_reducible refine And.intro (by omega) ?_)); (try simp only [go_sem, seval, reduceCtorEq, lv56ZnA, Try.ntmps56, Try.results56, resBS]))
      | fail)
  · rw [if_neg h]
    repeat' (first
      | (with_reducible first | refine W_seq ?_ | refine W_condT rfl ?_ | refine W_condF rfl ?_ | refine W_tf rfl (fun h => ?_) (fun h => ?_) | refine endQ_ret ?_ | refine endQ_normal ?_)
      | ((with_reducible first | refine hK _ ?_ | refine hK _ _ ?_); clear hK K)
      | ((first | (with_reducible first | refine ops_cons (fun K hK => ?_) | refine ops_nil ?_) | (with_reducible first | refine W_reg lv56ZnA ?_ | refine W_skip ?_ | refine W_ret ?_ | refine end_at0 ?_) | (with_reducible refine And.intro (fun h => ?_) (fun h => ?_)) | (with_reducible refine And.intro (by omega) ?_)); (try simp only [go_sem, seval, reduceCtorEq, h, lv56ZnA, Try.ntmps56, Try.results56, resBS]))
      | fail)
def CkzS : Spec := { rel := fun args ins res outs => ∃ (low : Int) (zs : List Zo), zs.length ≤ 1000000 ∧ (∀ z ∈ zs, z.2.length ≤ 1000000) ∧ args = [zzv low zs] ∧ ins = [] ∧ res = iv (zzchk low zs) ∧ outs = [] }
theorem Ckz_at (low : Int) (zs : List Zo) (h : zs.length ≤ 1000000) (h2 : ∀ z ∈ zs, z.2.length ≤ 1000000) : CkzS.rel [zzv low zs] [] (iv (zzchk low zs)) [] := ⟨low, zs, h, h2, rfl, rfl, rfl, rfl⟩
abbrev Ckz2S : Spec := CkzS
theorem Ckz2_at (low : Int) (a b : Zo) (ha : a.2.length ≤ 1000000) (hb : b.2.length ≤ 1000000) : Ckz2S.rel [zz2 low a b] [] (iv (zzchk low [a, b])) [] := ⟨low, [a, b], by simp, by simp [ha, hb], rfl, rfl, rfl, rfl⟩
abbrev rCkzS : Spec := CkzS
theorem rCkz_at (low : Int) (zs : List Zo) (h : zs.length ≤ 1000000) (h2 : ∀ z ∈ zs, z.2.length ≤ 1000000) : rCkzS.rel [zzv low zs] [] (iv (zzchk low zs)) [] := Ckz_at low zs h h2
set_option maxHeartbeats 2000000 in
theorem Ckz_ok : Ok Try.prog 22 CkzS := by
  refine fn_ok CkzS Try.func22 rfl rfl ?_
  rintro args ins res outs ⟨low, zs, hl, hz, rfl, rfl, rfl, rfl⟩
  refine ⟨by simp [Try.ntmps22], fun w0 V Bo mu0 => ?_⟩
  by_cases h2 : zs.length = 2
  · obtain ⟨a, b, rfl⟩ := zs_two h2
    have ha := hz a (by simp)
    have hb := hz b (by simp)
    rw [zz2_eq]
    simp only [zzchk]
    by_cases hs : low < 1 ∨ low ≠ a.1
    · rw [if_pos hs]
      by_cases s1 : low < 1
      · have s2 : ¬ 1 ≤ low := by omega
        repeat' (first
          | (with_reducible first | refine W_seq ?_ | refine W_condT rfl ?_ | refine W_condF rfl ?_ | refine W_tf rfl (fun h => ?_) (fun h => ?_) | refine W_block ?_ | refine endQ_ret ?_ | refine endQ_normal ?_)
          | ((with_reducible first | refine hK _ ?_ | refine hK _ _ ?_); clear hK K)
          | ((first | (with_reducible first | refine ops_cons (fun K hK => ?_) | refine ops_nil ?_ | refine fit_i64 (by omega) ?_ | refine fit_any ?_) | with_reducible refine callV_snap ?_ | ((with_reducible refine call_go splitS split_ok ?_); refine ⟨(by first | exact alOk_nil _ | exact alOk_f rfl), _, _, split_at low a b false (by simp; omega), ?_⟩) | (with_reducible first | refine idx_map (by omega) ?_ | refine W_reg lv22ZnA ?_ | refine W_skip ?_ | refine W_exit ?_ | refine W_ret ?_ | refine end_at0 ?_) | (with_reducible refine And.intro (fun h => ?_) (fun h => ?_)) | (with_reducible refine And.intro (by omega) ?_)); (try simp only [go_sem, seval, reduceCtorEq, s1, s2, lv22ZnA, Try.ntmps22, Try.results22, CkzS]))
          | fail)
      · have s2 : ¬ low = a.1 := by omega
        repeat' (first
          | (with_reducible first | refine W_seq ?_ | refine W_condT rfl ?_ | refine W_condF rfl ?_ | refine W_tf rfl (fun h => ?_) (fun h => ?_) | refine W_block ?_ | refine endQ_ret ?_ | refine endQ_normal ?_)
          | ((with_reducible first | refine hK _ ?_ | refine hK _ _ ?_); clear hK K)
          | ((first | (with_reducible first | refine ops_cons (fun K hK => ?_) | refine ops_nil ?_ | refine fit_i64 (by omega) ?_ | refine fit_any ?_) | with_reducible refine callV_snap ?_ | ((with_reducible refine call_go splitS split_ok ?_); refine ⟨(by first | exact alOk_nil _ | exact alOk_f rfl), _, _, split_at low a b false (by simp; omega), ?_⟩) | (with_reducible first | refine idx_map (by omega) ?_ | refine W_reg lv22ZnA ?_ | refine W_skip ?_ | refine W_exit ?_ | refine W_ret ?_ | refine end_at0 ?_) | (with_reducible refine And.intro (fun h => ?_) (fun h => ?_)) | (with_reducible refine And.intro (by omega) ?_)); (try simp only [go_sem, seval, reduceCtorEq, s1, s2, lv22ZnA, Try.ntmps22, Try.results22, CkzS]))
          | fail)
    · rw [if_neg hs]
      have s1 : ¬ low < 1 := by omega
      have s2 : low = a.1 := by omega
      subst s2
      have sp := split_at a.1 a b true (by simp; omega)
      by_cases ea : (zchk a.1 a.2).1 = 0
      · rw [if_neg (by simpa using ea)]
        by_cases eb : (zchk b.1 b.2).1 = 0
        · rw [if_neg (by simpa using eb)]
          have ra := zchk_rng ea
          have rb := zchk_rng eb
          obtain ⟨ra0, ra1⟩ := zchk_rng ea
          obtain ⟨rb0, rb1⟩ := zchk_rng eb
          by_cases hf : 256 < a.1 + b.1
          · rw [if_pos hf]
            repeat' (first
              | (with_reducible first | refine W_seq ?_ | refine W_condT rfl ?_ | refine W_condF rfl ?_ | refine W_tf rfl (fun h => ?_) (fun h => ?_) | refine W_block ?_ | refine endQ_ret ?_ | refine endQ_normal ?_)
              | ((with_reducible first | refine hK _ ?_ | refine hK _ _ ?_); clear hK K)
              | ((first | (with_reducible first | refine ops_cons (fun K hK => ?_) | refine ops_nil ?_ | refine fit_i64 (by omega) ?_ | refine fit_any ?_) | with_reducible refine callV_snap ?_ | ((with_reducible refine call_go splitS split_ok ?_); refine ⟨(by first | exact alOk_nil _ | exact alOk_f rfl), _, _, split_at a.1 a b true (by simp; omega), ?_⟩) | (with_reducible first | refine idx_map (by omega) ?_ | refine W_reg lv22ZnA ?_ | refine W_skip ?_ | refine W_exit ?_ | refine W_ret ?_ | refine end_at0 ?_) | (with_reducible refine And.intro (fun h => ?_) (fun h => ?_)) | (with_reducible refine And.intro (by omega) ?_)); (try simp only [go_sem, seval, reduceCtorEq, s1, hf, lv22ZnA, Try.ntmps22, Try.results22, CkzS]))
              | fail)
            refine W_rounds 3 ?_
            repeat' (first
              | (with_reducible first | refine W_seq ?_ | refine W_condT rfl ?_ | refine W_condF rfl ?_ | refine W_tf rfl (fun h => ?_) (fun h => ?_) | refine W_block ?_ | refine endQ_ret ?_ | refine endQ_normal ?_)
              | ((with_reducible first | refine hK _ ?_ | refine hK _ _ ?_); clear hK K)
              | (with_reducible refine Wn_succ ?_)
              | ((first | (with_reducible first | refine ops_cons (fun K hK => ?_) | refine ops_nil ?_ | refine fit_i64 (by omega) ?_ | refine fit_any ?_) | with_reducible refine callV_snap ?_ | ((with_reducible refine call_go CheckS Check_ok ?_); refine ⟨(by first | exact alOk_nil _ | exact alOk_f rfl), _, _, Check_at _ _ ha, ?_⟩) | ((with_reducible refine call_go CheckS Check_ok ?_); refine ⟨(by first | exact alOk_nil _ | exact alOk_f rfl), _, _, Check_at _ _ hb, ?_⟩) | ((with_reducible refine call_go framesS frames_ok ?_); refine ⟨(by first | exact alOk_nil _ | exact alOk_f rfl), _, _, frames_at a.1 a b ra rb, ?_⟩) | (with_reducible first | refine idx_map (by omega) ?_ | refine W_reg lv22ZnA ?_ | refine W_skip ?_ | refine W_exit ?_ | refine W_ret ?_ | refine end_at0 ?_) | (with_reducible refine And.intro (fun h => ?_) (fun h => ?_)) | (with_reducible refine And.intro (by omega) ?_)); (try simp only [go_sem, seval, reduceCtorEq, s1, ea, eb, hf, lv22ZnA, Try.ntmps22, Try.results22, CkzS]))
              | fail)
          · rw [if_neg hf]
            repeat' (first
              | (with_reducible first | refine W_seq ?_ | refine W_condT rfl ?_ | refine W_condF rfl ?_ | refine W_tf rfl (fun h => ?_) (fun h => ?_) | refine W_block ?_ | refine endQ_ret ?_ | refine endQ_normal ?_)
              | ((with_reducible first | refine hK _ ?_ | refine hK _ _ ?_); clear hK K)
              | ((first | (with_reducible first | refine ops_cons (fun K hK => ?_) | refine ops_nil ?_ | refine fit_i64 (by omega) ?_ | refine fit_any ?_) | with_reducible refine callV_snap ?_ | ((with_reducible refine call_go splitS split_ok ?_); refine ⟨(by first | exact alOk_nil _ | exact alOk_f rfl), _, _, split_at a.1 a b true (by simp; omega), ?_⟩) | (with_reducible first | refine idx_map (by omega) ?_ | refine W_reg lv22ZnA ?_ | refine W_skip ?_ | refine W_exit ?_ | refine W_ret ?_ | refine end_at0 ?_) | (with_reducible refine And.intro (fun h => ?_) (fun h => ?_)) | (with_reducible refine And.intro (by omega) ?_)); (try simp only [go_sem, seval, reduceCtorEq, s1, hf, lv22ZnA, Try.ntmps22, Try.results22, CkzS]))
              | fail)
            refine W_rounds 3 ?_
            repeat' (first
              | (with_reducible first | refine W_seq ?_ | refine W_condT rfl ?_ | refine W_condF rfl ?_ | refine W_tf rfl (fun h => ?_) (fun h => ?_) | refine W_block ?_ | refine endQ_ret ?_ | refine endQ_normal ?_)
              | ((with_reducible first | refine hK _ ?_ | refine hK _ _ ?_); clear hK K)
              | (with_reducible refine Wn_succ ?_)
              | ((first | (with_reducible first | refine ops_cons (fun K hK => ?_) | refine ops_nil ?_ | refine fit_i64 (by omega) ?_ | refine fit_any ?_) | with_reducible refine callV_snap ?_ | ((with_reducible refine call_go CheckS Check_ok ?_); refine ⟨(by first | exact alOk_nil _ | exact alOk_f rfl), _, _, Check_at _ _ ha, ?_⟩) | ((with_reducible refine call_go CheckS Check_ok ?_); refine ⟨(by first | exact alOk_nil _ | exact alOk_f rfl), _, _, Check_at _ _ hb, ?_⟩) | ((with_reducible refine call_go framesS frames_ok ?_); refine ⟨(by first | exact alOk_nil _ | exact alOk_f rfl), _, _, frames_at a.1 a b ra rb, ?_⟩) | (with_reducible first | refine idx_map (by omega) ?_ | refine W_reg lv22ZnA ?_ | refine W_skip ?_ | refine W_exit ?_ | refine W_ret ?_ | refine end_at0 ?_) | (with_reducible refine And.intro (fun h => ?_) (fun h => ?_)) | (with_reducible refine And.intro (by omega) ?_)); (try simp only [go_sem, seval, reduceCtorEq, s1, ea, eb, hf, lv22ZnA, Try.ntmps22, Try.results22, CkzS]))
              | fail)
        · rw [if_pos eb]
          repeat' (first
            | (with_reducible first | refine W_seq ?_ | refine W_condT rfl ?_ | refine W_condF rfl ?_ | refine W_tf rfl (fun h => ?_) (fun h => ?_) | refine W_block ?_ | refine endQ_ret ?_ | refine endQ_normal ?_)
            | ((with_reducible first | refine hK _ ?_ | refine hK _ _ ?_); clear hK K)
            | ((first | (with_reducible first | refine ops_cons (fun K hK => ?_) | refine ops_nil ?_ | refine fit_i64 (by omega) ?_ | refine fit_any ?_) | with_reducible refine callV_snap ?_ | ((with_reducible refine call_go splitS split_ok ?_); refine ⟨(by first | exact alOk_nil _ | exact alOk_f rfl), _, _, split_at a.1 a b true (by simp; omega), ?_⟩) | (with_reducible first | refine idx_map (by omega) ?_ | refine W_reg lv22ZnA ?_ | refine W_skip ?_ | refine W_exit ?_ | refine W_ret ?_ | refine end_at0 ?_) | (with_reducible refine And.intro (fun h => ?_) (fun h => ?_)) | (with_reducible refine And.intro (by omega) ?_)); (try simp only [go_sem, seval, reduceCtorEq, s1, lv22ZnA, Try.ntmps22, Try.results22, CkzS]))
            | fail)
          refine W_rounds 3 ?_
          repeat' (first
            | (with_reducible first | refine W_seq ?_ | refine W_condT rfl ?_ | refine W_condF rfl ?_ | refine W_tf rfl (fun h => ?_) (fun h => ?_) | refine W_block ?_ | refine endQ_ret ?_ | refine endQ_normal ?_)
            | ((with_reducible first | refine hK _ ?_ | refine hK _ _ ?_); clear hK K)
            | (with_reducible refine Wn_succ ?_)
            | ((first | (with_reducible first | refine ops_cons (fun K hK => ?_) | refine ops_nil ?_ | refine fit_i64 (by omega) ?_ | refine fit_any ?_) | with_reducible refine callV_snap ?_ | ((with_reducible refine call_go CheckS Check_ok ?_); refine ⟨(by first | exact alOk_nil _ | exact alOk_f rfl), _, _, Check_at _ _ ha, ?_⟩) | ((with_reducible refine call_go CheckS Check_ok ?_); refine ⟨(by first | exact alOk_nil _ | exact alOk_f rfl), _, _, Check_at _ _ hb, ?_⟩) | (with_reducible first | refine idx_map (by omega) ?_ | refine W_reg lv22ZnA ?_ | refine W_skip ?_ | refine W_exit ?_ | refine W_ret ?_ | refine end_at0 ?_) | (with_reducible refine And.intro (fun h => ?_) (fun h => ?_)) | (with_reducible refine And.intro (by omega) ?_)); (try simp only [go_sem, seval, reduceCtorEq, s1, ea, eb, lv22ZnA, Try.ntmps22, Try.results22, CkzS]))
            | fail)
      · rw [if_pos ea]
        repeat' (first
          | (with_reducible first | refine W_seq ?_ | refine W_condT rfl ?_ | refine W_condF rfl ?_ | refine W_tf rfl (fun h => ?_) (fun h => ?_) | refine W_block ?_ | refine endQ_ret ?_ | refine endQ_normal ?_)
          | ((with_reducible first | refine hK _ ?_ | refine hK _ _ ?_); clear hK K)
          | ((first | (with_reducible first | refine ops_cons (fun K hK => ?_) | refine ops_nil ?_ | refine fit_i64 (by omega) ?_ | refine fit_any ?_) | with_reducible refine callV_snap ?_ | ((with_reducible refine call_go splitS split_ok ?_); refine ⟨(by first | exact alOk_nil _ | exact alOk_f rfl), _, _, split_at a.1 a b true (by simp; omega), ?_⟩) | (with_reducible first | refine idx_map (by omega) ?_ | refine W_reg lv22ZnA ?_ | refine W_skip ?_ | refine W_exit ?_ | refine W_ret ?_ | refine end_at0 ?_) | (with_reducible refine And.intro (fun h => ?_) (fun h => ?_)) | (with_reducible refine And.intro (by omega) ?_)); (try simp only [go_sem, seval, reduceCtorEq, s1, lv22ZnA, Try.ntmps22, Try.results22, CkzS]))
          | fail)
        refine W_rounds 3 ?_
        repeat' (first
          | (with_reducible first | refine W_seq ?_ | refine W_condT rfl ?_ | refine W_condF rfl ?_ | refine W_tf rfl (fun h => ?_) (fun h => ?_) | refine W_block ?_ | refine endQ_ret ?_ | refine endQ_normal ?_)
          | ((with_reducible first | refine hK _ ?_ | refine hK _ _ ?_); clear hK K)
          | (with_reducible refine Wn_succ ?_)
          | ((first | (with_reducible first | refine ops_cons (fun K hK => ?_) | refine ops_nil ?_ | refine fit_i64 (by omega) ?_ | refine fit_any ?_) | with_reducible refine callV_snap ?_ | ((with_reducible refine call_go CheckS Check_ok ?_); refine ⟨(by first | exact alOk_nil _ | exact alOk_f rfl), _, _, Check_at _ _ ha, ?_⟩) | ((with_reducible refine call_go CheckS Check_ok ?_); refine ⟨(by first | exact alOk_nil _ | exact alOk_f rfl), _, _, Check_at _ _ hb, ?_⟩) | (with_reducible first | refine idx_map (by omega) ?_ | refine W_reg lv22ZnA ?_ | refine W_skip ?_ | refine W_exit ?_ | refine W_ret ?_ | refine end_at0 ?_) | (with_reducible refine And.intro (fun h => ?_) (fun h => ?_)) | (with_reducible refine And.intro (by omega) ?_)); (try simp only [go_sem, seval, reduceCtorEq, s1, ea, lv22ZnA, Try.ntmps22, Try.results22, CkzS]))
          | fail)
  · rw [zzchk_ne h2]
    have h3 : ¬ (zs.length : Int) = 2 := by omega
    repeat' (first
      | (with_reducible first | refine W_seq ?_ | refine W_condT rfl ?_ | refine W_condF rfl ?_ | refine W_tf rfl (fun h => ?_) (fun h => ?_) | refine W_block ?_ | refine endQ_ret ?_ | refine endQ_normal ?_)
      | ((with_reducible first | refine hK _ ?_ | refine hK _ _ ?_); clear hK K)
      | ((first | (with_reducible first | refine ops_cons (fun K hK => ?_) | refine ops_nil ?_ | refine fit_i64 (by omega) ?_ | refine fit_any ?_) | with_reducible refine callV_snap ?_ | (with_reducible first | refine idx_map (by omega) ?_ | refine W_reg lv22ZnA ?_ | refine W_skip ?_ | refine W_exit ?_ | refine W_ret ?_ | refine end_at0 ?_) | (with_reducible refine And.intro (fun h => ?_) (fun h => ?_)) | (with_reducible refine And.intro (by omega) ?_)); (try simp only [go_sem, seval, reduceCtorEq, h3, lv22ZnA, Try.ntmps22, Try.results22, CkzS]))
      | fail)
set_option maxHeartbeats 2000000 in
theorem rCkz_ok : Ok Try.prog 23 CkzS := by
  refine fn_ok CkzS Try.func23 rfl rfl ?_
  rintro args ins res outs ⟨low, zs, hl, hz, rfl, rfl, rfl, rfl⟩
  refine ⟨by simp [Try.ntmps23], fun w0 V Bo mu0 => ?_⟩
  by_cases h2 : zs.length = 2
  · obtain ⟨a, b, rfl⟩ := zs_two h2
    have ha := hz a (by simp)
    have hb := hz b (by simp)
    rw [zz2_eq]
    simp only [zzchk]
    by_cases hs : low < 1 ∨ low ≠ a.1
    · rw [if_pos hs]
      by_cases s1 : low < 1
      · have s2 : ¬ 1 ≤ low := by omega
        repeat' (first
          | (with_reducible first | refine W_seq ?_ | refine W_condT rfl ?_ | refine W_condF rfl ?_ | refine W_tf rfl (fun h => ?_) (fun h => ?_) | refine W_block ?_ | refine endQ_ret ?_ | refine endQ_normal ?_)
          | ((with_reducible first | refine hK _ ?_ | refine hK _ _ ?_); clear hK K)
          | ((first | (with_reducible first | refine ops_cons (fun K hK => ?_) | refine opsd_cons (fun K hK => ?_) | refine ops_nil ?_ | refine fit_i64 (by omega) ?_ | refine fit_any ?_) | ((with_reducible refine opsd_nil ?_); refine And.intro (by kernel_rfl) ?_) | with_reducible refine callV_snap ?_ | ((with_reducible refine call_go splitS split_ok ?_); refine ⟨(by first | exact alOk_nil _ | exact alOk_f rfl), _, _, split_at low a b false (by simp; omega), ?_⟩) | (with_reducible first | refine idx_map (by omega) ?_ | refine W_reg lv23ZnA ?_ | refine W_drw lv23ZnA (by kernel_rfl) ?_ | refine W_skip ?_ | refine W_exit ?_ | refine W_ret ?_ | refine end_at0 ?_) | (with_reducible refine And.intro (fun h => ?_) (fun h => ?_)) | (with_reducible refine And.intro (by omega) ?_)); (try simp only [go_sem, seval, reduceCtorEq, s1, s2, lv23ZnA, Try.ntmps23, Try.results23, CkzS]))
          | fail)
      · have s2 : ¬ low = a.1 := by omega
        repeat' (first
          | (with_reducible first | refine W_seq ?_ | refine W_condT rfl ?_ | refine W_condF rfl ?_ | refine W_tf rfl (fun h => ?_) (fun h => ?_) | refine W_block ?_ | refine endQ_ret ?_ | refine endQ_normal ?_)
          | ((with_reducible first | refine hK _ ?_ | refine hK _ _ ?_); clear hK K)
          | ((first | (with_reducible first | refine ops_cons (fun K hK => ?_) | refine opsd_cons (fun K hK => ?_) | refine ops_nil ?_ | refine fit_i64 (by omega) ?_ | refine fit_any ?_) | ((with_reducible refine opsd_nil ?_); refine And.intro (by kernel_rfl) ?_) | with_reducible refine callV_snap ?_ | ((with_reducible refine call_go splitS split_ok ?_); refine ⟨(by first | exact alOk_nil _ | exact alOk_f rfl), _, _, split_at low a b false (by simp; omega), ?_⟩) | (with_reducible first | refine idx_map (by omega) ?_ | refine W_reg lv23ZnA ?_ | refine W_drw lv23ZnA (by kernel_rfl) ?_ | refine W_skip ?_ | refine W_exit ?_ | refine W_ret ?_ | refine end_at0 ?_) | (with_reducible refine And.intro (fun h => ?_) (fun h => ?_)) | (with_reducible refine And.intro (by omega) ?_)); (try simp only [go_sem, seval, reduceCtorEq, s1, s2, lv23ZnA, Try.ntmps23, Try.results23, CkzS]))
          | fail)
    · rw [if_neg hs]
      have s1 : ¬ low < 1 := by omega
      have s2 : low = a.1 := by omega
      subst s2
      have sp := split_at a.1 a b true (by simp; omega)
      by_cases ea : (zchk a.1 a.2).1 = 0
      · rw [if_neg (by simpa using ea)]
        by_cases eb : (zchk b.1 b.2).1 = 0
        · rw [if_neg (by simpa using eb)]
          have ra := zchk_rng ea
          have rb := zchk_rng eb
          obtain ⟨ra0, ra1⟩ := zchk_rng ea
          obtain ⟨rb0, rb1⟩ := zchk_rng eb
          by_cases hf : 256 < a.1 + b.1
          · rw [if_pos hf]
            repeat' (first
              | (with_reducible first | refine W_seq ?_ | refine W_condT rfl ?_ | refine W_condF rfl ?_ | refine W_tf rfl (fun h => ?_) (fun h => ?_) | refine W_block ?_ | refine endQ_ret ?_ | refine endQ_normal ?_)
              | ((with_reducible first | refine hK _ ?_ | refine hK _ _ ?_); clear hK K)
              | ((first | (with_reducible first | refine ops_cons (fun K hK => ?_) | refine opsd_cons (fun K hK => ?_) | refine ops_nil ?_ | refine fit_i64 (by omega) ?_ | refine fit_any ?_) | ((with_reducible refine opsd_nil ?_); refine And.intro (by kernel_rfl) ?_) | with_reducible refine callV_snap ?_ | ((with_reducible refine call_go splitS split_ok ?_); refine ⟨(by first | exact alOk_nil _ | exact alOk_f rfl), _, _, split_at a.1 a b true (by simp; omega), ?_⟩) | (with_reducible first | refine idx_map (by omega) ?_ | refine W_reg lv23ZnA ?_ | refine W_drw lv23ZnA (by kernel_rfl) ?_ | refine W_skip ?_ | refine W_exit ?_ | refine W_ret ?_ | refine end_at0 ?_) | (with_reducible refine And.intro (fun h => ?_) (fun h => ?_)) | (with_reducible refine And.intro (by omega) ?_)); (try simp only [go_sem, seval, reduceCtorEq, s1, hf, lv23ZnA, Try.ntmps23, Try.results23, CkzS]))
              | fail)
            refine W_rounds 3 ?_
            repeat' (first
              | (with_reducible first | refine W_seq ?_ | refine W_condT rfl ?_ | refine W_condF rfl ?_ | refine W_tf rfl (fun h => ?_) (fun h => ?_) | refine W_block ?_ | refine endQ_ret ?_ | refine endQ_normal ?_)
              | ((with_reducible first | refine hK _ ?_ | refine hK _ _ ?_); clear hK K)
              | (with_reducible refine Wn_succ ?_)
              | ((first | (with_reducible first | refine ops_cons (fun K hK => ?_) | refine opsd_cons (fun K hK => ?_) | refine ops_nil ?_ | refine fit_i64 (by omega) ?_ | refine fit_any ?_) | ((with_reducible refine opsd_nil ?_); refine And.intro (by kernel_rfl) ?_) | with_reducible refine callV_snap ?_ | ((with_reducible refine call_go rCheckS rCheck_ok ?_); refine ⟨(by first | exact alOk_nil _ | exact alOk_f rfl), _, _, rCheck_at _ _ ha, ?_⟩) | ((with_reducible refine call_go rCheckS rCheck_ok ?_); refine ⟨(by first | exact alOk_nil _ | exact alOk_f rfl), _, _, rCheck_at _ _ hb, ?_⟩) | ((with_reducible refine call_go framesS frames_ok ?_); refine ⟨(by first | exact alOk_nil _ | exact alOk_f rfl), _, _, frames_at a.1 a b ra rb, ?_⟩) | (with_reducible first | refine idx_map (by omega) ?_ | refine W_reg lv23ZnA ?_ | refine W_drw lv23ZnA (by kernel_rfl) ?_ | refine W_skip ?_ | refine W_exit ?_ | refine W_ret ?_ | refine end_at0 ?_) | (with_reducible refine And.intro (fun h => ?_) (fun h => ?_)) | (with_reducible refine And.intro (by omega) ?_)); (try simp only [go_sem, seval, reduceCtorEq, s1, ea, eb, hf, lv23ZnA, Try.ntmps23, Try.results23, CkzS]))
              | fail)
          · rw [if_neg hf]
            repeat' (first
              | (with_reducible first | refine W_seq ?_ | refine W_condT rfl ?_ | refine W_condF rfl ?_ | refine W_tf rfl (fun h => ?_) (fun h => ?_) | refine W_block ?_ | refine endQ_ret ?_ | refine endQ_normal ?_)
              | ((with_reducible first | refine hK _ ?_ | refine hK _ _ ?_); clear hK K)
              | ((first | (with_reducible first | refine ops_cons (fun K hK => ?_) | refine opsd_cons (fun K hK => ?_) | refine ops_nil ?_ | refine fit_i64 (by omega) ?_ | refine fit_any ?_) | ((with_reducible refine opsd_nil ?_); refine And.intro (by kernel_rfl) ?_) | with_reducible refine callV_snap ?_ | ((with_reducible refine call_go splitS split_ok ?_); refine ⟨(by first | exact alOk_nil _ | exact alOk_f rfl), _, _, split_at a.1 a b true (by simp; omega), ?_⟩) | (with_reducible first | refine idx_map (by omega) ?_ | refine W_reg lv23ZnA ?_ | refine W_drw lv23ZnA (by kernel_rfl) ?_ | refine W_skip ?_ | refine W_exit ?_ | refine W_ret ?_ | refine end_at0 ?_) | (with_reducible refine And.intro (fun h => ?_) (fun h => ?_)) | (with_reducible refine And.intro (by omega) ?_)); (try simp only [go_sem, seval, reduceCtorEq, s1, hf, lv23ZnA, Try.ntmps23, Try.results23, CkzS]))
              | fail)
            refine W_rounds 3 ?_
            repeat' (first
              | (with_reducible first | refine W_seq ?_ | refine W_condT rfl ?_ | refine W_condF rfl ?_ | refine W_tf rfl (fun h => ?_) (fun h => ?_) | refine W_block ?_ | refine endQ_ret ?_ | refine endQ_normal ?_)
              | ((with_reducible first | refine hK _ ?_ | refine hK _ _ ?_); clear hK K)
              | (with_reducible refine Wn_succ ?_)
              | ((first | (with_reducible first | refine ops_cons (fun K hK => ?_) | refine opsd_cons (fun K hK => ?_) | refine ops_nil ?_ | refine fit_i64 (by omega) ?_ | refine fit_any ?_) | ((with_reducible refine opsd_nil ?_); refine And.intro (by kernel_rfl) ?_) | with_reducible refine callV_snap ?_ | ((with_reducible refine call_go rCheckS rCheck_ok ?_); refine ⟨(by first | exact alOk_nil _ | exact alOk_f rfl), _, _, rCheck_at _ _ ha, ?_⟩) | ((with_reducible refine call_go rCheckS rCheck_ok ?_); refine ⟨(by first | exact alOk_nil _ | exact alOk_f rfl), _, _, rCheck_at _ _ hb, ?_⟩) | ((with_reducible refine call_go framesS frames_ok ?_); refine ⟨(by first | exact alOk_nil _ | exact alOk_f rfl), _, _, frames_at a.1 a b ra rb, ?_⟩) | (with_reducible first | refine idx_map (by omega) ?_ | refine W_reg lv23ZnA ?_ | refine W_drw lv23ZnA (by kernel_rfl) ?_ | refine W_skip ?_ | refine W_exit ?_ | refine W_ret ?_ | refine end_at0 ?_) | (with_reducible refine And.intro (fun h => ?_) (fun h => ?_)) | (with_reducible refine And.intro (by omega) ?_)); (try simp only [go_sem, seval, reduceCtorEq, s1, ea, eb, hf, lv23ZnA, Try.ntmps23, Try.results23, CkzS]))
              | fail)
        · rw [if_pos eb]
          repeat' (first
            | (with_reducible first | refine W_seq ?_ | refine W_condT rfl ?_ | refine W_condF rfl ?_ | refine W_tf rfl (fun h => ?_) (fun h => ?_) | refine W_block ?_ | refine endQ_ret ?_ | refine endQ_normal ?_)
            | ((with_reducible first | refine hK _ ?_ | refine hK _ _ ?_); clear hK K)
            | ((first | (with_reducible first | refine ops_cons (fun K hK => ?_) | refine opsd_cons (fun K hK => ?_) | refine ops_nil ?_ | refine fit_i64 (by omega) ?_ | refine fit_any ?_) | ((with_reducible refine opsd_nil ?_); refine And.intro (by kernel_rfl) ?_) | with_reducible refine callV_snap ?_ | ((with_reducible refine call_go splitS split_ok ?_); refine ⟨(by first | exact alOk_nil _ | exact alOk_f rfl), _, _, split_at a.1 a b true (by simp; omega), ?_⟩) | (with_reducible first | refine idx_map (by omega) ?_ | refine W_reg lv23ZnA ?_ | refine W_drw lv23ZnA (by kernel_rfl) ?_ | refine W_skip ?_ | refine W_exit ?_ | refine W_ret ?_ | refine end_at0 ?_) | (with_reducible refine And.intro (fun h => ?_) (fun h => ?_)) | (with_reducible refine And.intro (by omega) ?_)); (try simp only [go_sem, seval, reduceCtorEq, s1, lv23ZnA, Try.ntmps23, Try.results23, CkzS]))
            | fail)
          refine W_rounds 3 ?_
          repeat' (first
            | (with_reducible first | refine W_seq ?_ | refine W_condT rfl ?_ | refine W_condF rfl ?_ | refine W_tf rfl (fun h => ?_) (fun h => ?_) | refine W_block ?_ | refine endQ_ret ?_ | refine endQ_normal ?_)
            | ((with_reducible first | refine hK _ ?_ | refine hK _ _ ?_); clear hK K)
            | (with_reducible refine Wn_succ ?_)
            | ((first | (with_reducible first | refine ops_cons (fun K hK => ?_) | refine opsd_cons (fun K hK => ?_) | refine ops_nil ?_ | refine fit_i64 (by omega) ?_ | refine fit_any ?_) | ((with_reducible refine opsd_nil ?_); refine And.intro (by kernel_rfl) ?_) | with_reducible refine callV_snap ?_ | ((with_reducible refine call_go rCheckS rCheck_ok ?_); refine ⟨(by first | exact alOk_nil _ | exact alOk_f rfl), _, _, rCheck_at _ _ ha, ?_⟩) | ((with_reducible refine call_go rCheckS rCheck_ok ?_); refine ⟨(by first | exact alOk_nil _ | exact alOk_f rfl), _, _, rCheck_at _ _ hb, ?_⟩) | (with_reducible first | refine idx_map (by omega) ?_ | refine W_reg lv23ZnA ?_ | refine W_drw lv23ZnA (by kernel_rfl) ?_ | refine W_skip ?_ | refine W_exit ?_ | refine W_ret ?_ | refine end_at0 ?_) | (with_reducible refine And.intro (fun h => ?_) (fun h => ?_)) | (with_reducible refine And.intro (by omega) ?_)); (try simp only [go_sem, seval, reduceCtorEq, s1, ea, eb, lv23ZnA, Try.ntmps23, Try.results23, CkzS]))
            | fail)
      · rw [if_pos ea]
        repeat' (first
          | (with_reducible first | refine W_seq ?_ | refine W_condT rfl ?_ | refine W_condF rfl ?_ | refine W_tf rfl (fun h => ?_) (fun h => ?_) | refine W_block ?_ | refine endQ_ret ?_ | refine endQ_normal ?_)
          | ((with_reducible first | refine hK _ ?_ | refine hK _ _ ?_); clear hK K)
          | ((first | (with_reducible first | refine ops_cons (fun K hK => ?_) | refine opsd_cons (fun K hK => ?_) | refine ops_nil ?_ | refine fit_i64 (by omega) ?_ | refine fit_any ?_) | ((with_reducible refine opsd_nil ?_); refine And.intro (by kernel_rfl) ?_) | with_reducible refine callV_snap ?_ | ((with_reducible refine call_go splitS split_ok ?_); refine ⟨(by first | exact alOk_nil _ | exact alOk_f rfl), _, _, split_at a.1 a b true (by simp; omega), ?_⟩) | (with_reducible first | refine idx_map (by omega) ?_ | refine W_reg lv23ZnA ?_ | refine W_drw lv23ZnA (by kernel_rfl) ?_ | refine W_skip ?_ | refine W_exit ?_ | refine W_ret ?_ | refine end_at0 ?_) | (with_reducible refine And.intro (fun h => ?_) (fun h => ?_)) | (with_reducible refine And.intro (by omega) ?_)); (try simp only [go_sem, seval, reduceCtorEq, s1, lv23ZnA, Try.ntmps23, Try.results23, CkzS]))
          | fail)
        refine W_rounds 3 ?_
        repeat' (first
          | (with_reducible first | refine W_seq ?_ | refine W_condT rfl ?_ | refine W_condF rfl ?_ | refine W_tf rfl (fun h => ?_) (fun h => ?_) | refine W_block ?_ | refine endQ_ret ?_ | refine endQ_normal ?_)
          | ((with_reducible first | refine hK _ ?_ | refine hK _ _ ?_); clear hK K)
          | (with_reducible refine Wn_succ ?_)
          | ((first | (with_reducible first | refine ops_cons (fun K hK => ?_) | refine opsd_cons (fun K hK => ?_) | refine ops_nil ?_ | refine fit_i64 (by omega) ?_ | refine fit_any ?_) | ((with_reducible refine opsd_nil ?_); refine And.intro (by kernel_rfl) ?_) | with_reducible refine callV_snap ?_ | ((with_reducible refine call_go rCheckS rCheck_ok ?_); refine ⟨(by first | exact alOk_nil _ | exact alOk_f rfl), _, _, rCheck_at _ _ ha, ?_⟩) | ((with_reducible refine call_go rCheckS rCheck_ok ?_); refine ⟨(by first | exact alOk_nil _ | exact alOk_f rfl), _, _, rCheck_at _ _ hb, ?_⟩) | (with_reducible first | refine idx_map (by omega) ?_ | refine W_reg lv23ZnA ?_ | refine W_drw lv23ZnA (by kernel_rfl) ?_ | refine W_skip ?_ | refine W_exit ?_ | refine W_ret ?_ | refine end_at0 ?_) | (with_reducible refine And.intro (fun h => ?_) (fun h => ?_)) | (with_reducible refine And.intro (by omega) ?_)); (try simp only [go_sem, seval, reduceCtorEq, s1, ea, lv23ZnA, Try.ntmps23, Try.results23, CkzS]))
          | fail)
  · rw [zzchk_ne h2]
    have h3 : ¬ (zs.length : Int) = 2 := by omega
    repeat' (first
      | (with_reducible first | refine W_seq ?_ | refine W_condT rfl ?_ | refine W_condF rfl ?_ | refine W_tf rfl (fun h => ?_) (fun h => ?_) | refine W_block ?_ | refine endQ_ret ?_ | refine endQ_normal ?_)
      | ((with_reducible first | refine hK _ ?_ | refine hK _ _ ?_); clear hK K)
      | ((first | (with_reducible first | refine ops_cons (fun K hK => ?_) | refine opsd_cons (fun K hK => ?_) | refine ops_nil ?_ | refine fit_i64 (by omega) ?_ | refine fit_any ?_) | ((with_reducible refine opsd_nil ?_); refine And.intro (by kernel_rfl) ?_) | with_reducible refine callV_snap ?_ | (with_reducible first | refine idx_map (by omega) ?_ | refine W_reg lv23ZnA ?_ | refine W_drw lv23ZnA (by kernel_rfl) ?_ | refine W_skip ?_ | refine W_exit ?_ | refine W_ret ?_ | refine end_at0 ?_) | (with_reducible refine And.intro (fun h => ?_) (fun h => ?_)) | (with_reducible refine And.intro (by omega) ?_)); (try simp only [go_sem, seval, reduceCtorEq, h3, lv23ZnA, Try.ntmps23, Try.results23, CkzS]))
      | fail)
end Go.Proofs.Ytacfipmigkbncaa
