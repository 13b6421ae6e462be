/- Rows of bytes: slices.BinarySearch, slices.Delete, slices.Insert, by the engine. -/
import Derived.Test.YtacfipmigkbncaaBase
import Derived.Test.YtacfipmigkbncaaEngY
namespace Go.Proofs.Ytacfipmigkbncaa
open Go.RowKit
set_option maxRecDepth 100000
set_option linter.unusedSimpArgs false
set_option linter.unusedVariables false

abbrev lv92BdA : List (Nat × List Nat) := [(0, [0, 1]), (1, [0, 1, 6]), (2, [0, 1, 6, 7, 8]), (3, [0, 1, 6, 7, 8, 15]), (4, [0, 1, 6, 7, 8, 9]), (5, [0, 1, 6, 7, 8, 9, 27]), (6, [0, 1, 6, 7, 8]), (7, [0, 1, 6, 7, 8]), (8, [4, 5])]
abbrev lv93BdA : List (Nat × List Nat) := [(0, [0, 1, 2]), (1, [0, 1, 2]), (2, [0, 1, 2, 16]), (3, [6]), (4, [0, 1, 2, 7]), (5, [0, 7]), (6, [0]), (7, [6])]
abbrev lv94BdA : List (Nat × List Nat) := [(0, [0, 1, 2]), (1, [0, 1, 2]), (2, [0, 1, 2, 7]), (3, [0, 1, 2, 7, 16]), (4, [6]), (5, [0, 1, 2, 7, 8]), (6, [0, 1, 2, 7, 8, 22]), (7, [6]), (8, [0, 1, 2, 7, 8, 31]), (9, [0, 1, 2, 7, 9]), (10, [0, 1, 7, 9]), (11, [9]), (12, [6]), (13, [0, 1, 2, 7, 8]), (14, [0, 1, 2, 7, 8, 68]), (15, [0, 1, 2]), (16, [0]), (17, [6]), (18, [0, 1, 7]), (19, [0]), (20, [6])]
def encU (n : Nat) : List D := [.int .u8 (n : Int)]
abbrev dU (l : List Nat) : AV := .d (.sl (l.map encU))
theorem encUe : Enc encU 1 := ⟨fun _ => rfl, fun x d hd => by simp only [encU, List.mem_singleton] at hd; subst hd; rfl⟩
theorem flatU {l : List Nat} : ∀ r ∈ l.map encU, ∀ x ∈ r, flatD x := encUe.flat l

/-- where x stands among the places -/
structure Pos (l : List Nat) (x p : Nat) : Prop where
  le : p ≤ l.length
  lo : ∀ j (h : j < l.length), j < p → l[j] < x
  hi : ∀ j (h : j < l.length), p ≤ j → x ≤ l[j]

def isNaNS : Spec := { rel := fun args ins res outs => ∃ x : Int, args = [uv x] ∧ ins = [] ∧ res = bv false ∧ outs = [] }
theorem isNaN_at (x : Int) : isNaNS.rel [uv x] [] (bv false) [] := ⟨x, rfl, rfl, rfl, rfl⟩
theorem isNaN_ok : Ok Try.prog 98 isNaNS := by
  refine fn_ok isNaNS Try.func98 rfl rfl ?_
  rintro args ins res outs ⟨x, rfl, rfl, rfl, rfl⟩
  refine ⟨by simp [Try.ntmps98], fun w0 V Bo mu0 => ?_⟩
  repeat' (first
    | (with_reducible first | refine W_seq ?_ | refine endQ_ret ?_ | refine endQ_normal ?_)
    | ((with_reducible first | refine hK _ ?_ | refine hK _ _ ?_); clear hK K)
    | ((first | (with_reducible first | refine ops_cons (fun K hK => ?_) | refine ops_nil ?_) | (with_reducible first | refine W_reg [(0, [0]), (1, [2])] ?_ | refine W_ret ?_ | refine end_at0 ?_) | (with_reducible refine And.intro (fun h => ?_) (fun h => ?_)) | (with_reducible refine And.intro (by omega) ?_)); (try simp only [go_sem, seval, reduceCtorEq, Try.ntmps98, Try.results98, isNaNS]))
    | fail)
abbrev cNaNS : Spec := isNaNS
theorem cNaN_at (x : Int) : cNaNS.rel [uv x] [] (bv false) [] := isNaN_at x
theorem cNaN_ok : Ok Try.prog 111 cNaNS := by
  refine fn_ok cNaNS Try.func111 rfl rfl ?_
  rintro args ins res outs ⟨x, rfl, rfl, rfl, rfl⟩
  refine ⟨by simp [Try.ntmps111], fun w0 V Bo mu0 => ?_⟩
  repeat' (first
    | (with_reducible first | refine W_seq ?_ | refine endQ_ret ?_ | refine endQ_normal ?_)
    | ((with_reducible first | refine hK _ ?_ | refine hK _ _ ?_); clear hK K)
    | ((first | (with_reducible first | refine ops_cons (fun K hK => ?_) | refine ops_nil ?_) | (with_reducible first | refine W_reg [(0, [0]), (1, [2])] ?_ | refine W_ret ?_ | refine end_at0 ?_) | (with_reducible refine And.intro (fun h => ?_) (fun h => ?_)) | (with_reducible refine And.intro (by omega) ?_)); (try simp only [go_sem, seval, reduceCtorEq, Try.ntmps111, Try.results111, isNaNS]))
    | fail)
def LessS : Spec := { rel := fun args ins res outs => ∃ x y : Int, args = [uv x, uv y] ∧ ins = [] ∧ res = bv (decide (x < y)) ∧ outs = [] }
theorem Less_at (x y : Int) : LessS.rel [uv x, uv y] [] (bv (decide (x < y))) [] := ⟨x, y, rfl, rfl, rfl, rfl⟩
theorem Less_ok : Ok Try.prog 97 LessS := by
  refine fn_ok LessS Try.func97 rfl rfl ?_
  rintro args ins res outs ⟨x, y, rfl, rfl, rfl, rfl⟩
  refine ⟨by simp [Try.ntmps97], fun w0 V Bo mu0 => ?_⟩
  by_cases h : x < y
  · rw [decide_eq_true h]
    repeat' (first
      | (with_reducible first | refine W_seq ?_ | refine endQ_ret ?_ | refine endQ_normal ?_)
      | ((with_reducible first | refine hK _ ?_ | refine hK _ _ ?_); clear hK K)
      | ((first | (with_reducible first | refine ops_cons (fun K hK => ?_) | refine ops_nil ?_) | with_reducible refine callV_snap ?_ | ((with_reducible refine call_go cNaNS cNaN_ok ?_); refine ⟨(by first | exact alOk_nil _ | exact alOk_f rfl), _, _, cNaN_at _, ?_⟩) | (with_reducible first | refine W_reg [(0, [0, 1]), (1, [4])] ?_ | refine W_ret ?_ | refine end_at0 ?_) | (with_reducible refine And.intro (fun h => ?_) (fun h => ?_)) | (with_reducible refine And.intro (by omega) ?_)); (try simp only [go_sem, seval, reduceCtorEq, h, Try.ntmps97, Try.results97, LessS]))
      | fail)
  · rw [decide_eq_false h]
    repeat' (first
      | (with_reducible first | refine W_seq ?_ | refine endQ_ret ?_ | refine endQ_normal ?_)
      | ((with_reducible first | refine hK _ ?_ | refine hK _ _ ?_); clear hK K)
      | ((first | (with_reducible first | refine ops_cons (fun K hK => ?_) | refine ops_nil ?_) | with_reducible refine callV_snap ?_ | ((with_reducible refine call_go cNaNS cNaN_ok ?_); refine ⟨(by first | exact alOk_nil _ | exact alOk_f rfl), _, _, cNaN_at _, ?_⟩) | (with_reducible first | refine W_reg [(0, [0, 1]), (1, [4])] ?_ | refine W_ret ?_ | refine end_at0 ?_) | (with_reducible refine And.intro (fun h => ?_) (fun h => ?_)) | (with_reducible refine And.intro (by omega) ?_)); (try simp only [go_sem, seval, reduceCtorEq, h, Try.ntmps97, Try.results97, LessS]))
      | fail)

def bsS : Spec := { rel := fun args ins res outs => ∃ (l : List Nat) (x p : Nat) (b : Bool), l.length ≤ 1000000 ∧ Pos l x p ∧ (b = true ↔ ∃ h : p < l.length, l[p] = x) ∧ args = [dU l, uv x] ∧ ins = [] ∧ res = .tup [iv p, bv b] ∧ outs = [] }
theorem bs_at (l : List Nat) (x p : Nat) (b : Bool) (h : l.length ≤ 1000000) (ha : Pos l x p) (hb : b = true ↔ ∃ h : p < l.length, l[p] = x) : bsS.rel [dU l, uv x] [] (.tup [iv p, bv b]) [] := ⟨l, x, p, b, h, ha, hb, rfl, rfl, rfl, rfl⟩
set_option maxHeartbeats 2000000 in
theorem bs_ok : Ok Try.prog 92 bsS := by
  refine fn_ok bsS Try.func92 rfl rfl ?_
  rintro args ins res outs ⟨l, x, p, b, hl, ⟨hp, hlo, hhi⟩, hb, rfl, rfl, rfl, rfl⟩
  refine ⟨by simp [Try.ntmps92], fun w0 V Bo mu0 => ?_⟩
  repeat' (first
    | (with_reducible first | refine W_seq ?_ | refine W_condT rfl ?_ | refine W_condF rfl ?_ | refine W_tf rfl (fun h => ?_) (fun h => ?_) | refine W_block ?_ | refine endQ_ret ?_ | refine endQ_normal ?_)
    | ((with_reducible first | refine hK _ ?_ | refine hK _ _ ?_); clear hK K)
    | ((first | (with_reducible first | refine ops_cons (fun K hK => ?_) | refine ops_nil ?_ | refine fit_i64 (by omega) ?_ | refine fit_u8 (by omega) ?_ | refine fit_u64 (by omega) ?_ | refine fit_u32 (by omega) ?_ | refine fit_any ?_ | refine sh_in (by simp only [IntKind.bits]; omega) ?_) | with_reducible refine callV_snap ?_ | (with_reducible first | refine idx_map (by omega) ?_ | refine W_reg lv92BdA ?_ | refine W_skip ?_ | refine W_exit ?_ | refine W_ret ?_ | refine end_at0 ?_) | (with_reducible refine And.intro (fun h => ?_) (fun h => ?_)) | (with_reducible refine And.intro (by omega) ?_)); (try simp only [go_sem, seval, reduceCtorEq, lv92BdA, Try.ntmps92, Try.results92, bsS]))
    | fail)
  refine W_loop (fun q : Nat × Nat => ⟨[(0, dU l), (1, uv x), (6, iv l.length), (7, iv q.1), (8, iv q.2)], []⟩) (fun q => q.1 ≤ p ∧ p ≤ q.2 ∧ q.2 ≤ l.length) (fun q => q.2 - q.1) (0, l.length) ⟨Nat.zero_le _, hp, Nat.le_refl _⟩ [] ?_ ?_
  · simp [go_sem]
  rintro ⟨i, j⟩ ⟨h1, h2, h3⟩
  dsimp only at h1 h2 h3
  by_cases hij : i < j
  · have hij' : (i : Int) < j := by omega
    have hh : ((i : Int) + j) / 2 = (((i + j) / 2 : Nat) : Int) := by omega
    have hlt : (i + j) / 2 < l.length := by omega
    generalize hm : (i + j) / 2 = m at *
    by_cases hc : l[m] < x
    · have hc' : (l[m] : Int) < x := by omega
      repeat' (first
        | (with_reducible first | refine W_seq ?_ | refine W_condT rfl ?_ | refine W_condF rfl ?_ | refine W_tf rfl (fun h => ?_) (fun h => ?_) | refine W_block ?_ | refine endQ_ret ?_ | refine endQ_normal ?_)
        | ((with_reducible first | refine hK _ ?_ | refine hK _ _ ?_); clear hK K)
        | ((first | (with_reducible first | refine ops_cons (fun K hK => ?_) | refine ops_nil ?_ | refine fit_i64 (by omega) ?_ | refine fit_u8 (by omega) ?_ | refine fit_u64 (by omega) ?_ | refine fit_u32 (by omega) ?_ | refine fit_any ?_ | refine sh_in (by simp only [IntKind.bits]; omega) ?_) | with_reducible refine callV_snap ?_ | ((with_reducible refine call_go LessS Less_ok ?_); refine ⟨(by first | exact alOk_nil _ | exact alOk_f rfl), _, _, Less_at _ _, ?_⟩) | (with_reducible first | refine idx_map (by omega) ?_ | refine W_reg lv92BdA ?_ | refine W_skip ?_ | refine W_exit ?_ | refine W_ret ?_ | refine end_at0 ?_) | (with_reducible refine And.intro (fun h => ?_) (fun h => ?_)) | (with_reducible refine And.intro (by omega) ?_)); (try simp only [go_sem, seval, reduceCtorEq, encU, hij', hh, hc', lv92BdA, Try.ntmps92, Try.results92, bsS]))
        | fail)
      have hmp : m < p := by
        rcases Nat.lt_or_ge m p with h | h
        · exact h
        · have := hhi m hlt h; omega
      refine ⟨(m + 1, j), [], ⟨hmp, h2, h3⟩, by dsimp only; omega, ?_⟩
      simp [go_sem]
    · have hc' : ¬ (l[m] : Int) < x := by omega
      repeat' (first
        | (with_reducible first | refine W_seq ?_ | refine W_condT rfl ?_ | refine W_condF rfl ?_ | refine W_tf rfl (fun h => ?_) (fun h => ?_) | refine W_block ?_ | refine endQ_ret ?_ | refine endQ_normal ?_)
        | ((with_reducible first | refine hK _ ?_ | refine hK _ _ ?_); clear hK K)
        | ((first | (with_reducible first | refine ops_cons (fun K hK => ?_) | refine ops_nil ?_ | refine fit_i64 (by omega) ?_ | refine fit_u8 (by omega) ?_ | refine fit_u64 (by omega) ?_ | refine fit_u32 (by omega) ?_ | refine fit_any ?_ | refine sh_in (by simp only [IntKind.bits]; omega) ?_) | with_reducible refine callV_snap ?_ | ((with_reducible refine call_go LessS Less_ok ?_); refine ⟨(by first | exact alOk_nil _ | exact alOk_f rfl), _, _, Less_at _ _, ?_⟩) | (with_reducible first | refine idx_map (by omega) ?_ | refine W_reg lv92BdA ?_ | refine W_skip ?_ | refine W_exit ?_ | refine W_ret ?_ | refine end_at0 ?_) | (with_reducible refine And.intro (fun h => ?_) (fun h => ?_)) | (with_reducible refine And.intro (by omega) ?_)); (try simp only [go_sem, seval, reduceCtorEq, encU, hij', hh, hc', lv92BdA, Try.ntmps92, Try.results92, bsS]))
        | fail)
      have hmp : p ≤ m := by
        rcases Nat.lt_or_ge m p with h | h
        · exact absurd (hlo m hlt h) hc
        · exact h
      refine ⟨(i, m), [], ⟨h1, hmp, by dsimp only; omega⟩, by dsimp only; omega, ?_⟩
      simp [go_sem]
  · have hij' : ¬ (i : Int) < j := by omega
    obtain rfl : i = p := by omega
    by_cases hlt : i < l.length
    · have hki : (i : Int) < l.length := by omega
      by_cases hx : l[i] = x
      · have hx' : (l[i] : Int) = x := by omega
        have hbt : b = true := hb.2 ⟨hlt, hx⟩
        repeat' (first
          | (with_reducible first | refine W_seq ?_ | refine W_condT rfl ?_ | refine W_condF rfl ?_ | refine W_tf rfl (fun h => ?_) (fun h => ?_) | refine W_block ?_ | refine endQ_ret ?_ | refine endQ_normal ?_)
          | ((with_reducible first | refine hK _ ?_ | refine hK _ _ ?_); clear hK K)
          | ((first | (with_reducible first | refine ops_cons (fun K hK => ?_) | refine ops_nil ?_ | refine fit_i64 (by omega) ?_ | refine fit_u8 (by omega) ?_ | refine fit_u64 (by omega) ?_ | refine fit_u32 (by omega) ?_ | refine fit_any ?_ | refine sh_in (by simp only [IntKind.bits]; omega) ?_) | with_reducible refine callV_snap ?_ | ((with_reducible refine call_go isNaNS isNaN_ok ?_); refine ⟨(by first | exact alOk_nil _ | exact alOk_f rfl), _, _, isNaN_at _, ?_⟩) | (with_reducible first | refine idx_map (by omega) ?_ | refine W_reg lv92BdA ?_ | refine W_skip ?_ | refine W_exit ?_ | refine W_ret ?_ | refine end_at0 ?_) | (with_reducible refine And.intro (fun h => ?_) (fun h => ?_)) | (with_reducible refine And.intro (by omega) ?_)); (try simp only [go_sem, seval, reduceCtorEq, encU, hij', hki, hx', hbt, lv92BdA, Try.ntmps92, Try.results92, bsS]))
          | fail)
      · have hx' : ¬ (l[i] : Int) = x := by omega
        have hbt : b = false := by
          cases b with
          | false => rfl
          | true => obtain ⟨_, h⟩ := hb.1 rfl; exact absurd h hx
        repeat' (first
          | (with_reducible first | refine W_seq ?_ | refine W_condT rfl ?_ | refine W_condF rfl ?_ | refine W_tf rfl (fun h => ?_) (fun h => ?_) | refine W_block ?_ | refine endQ_ret ?_ | refine endQ_normal ?_)
          | ((with_reducible first | refine hK _ ?_ | refine hK _ _ ?_); clear hK K)
          | ((first | (with_reducible first | refine ops_cons (fun K hK => ?_) | refine ops_nil ?_ | refine fit_i64 (by omega) ?_ | refine fit_u8 (by omega) ?_ | refine fit_u64 (by omega) ?_ | refine fit_u32 (by omega) ?_ | refine fit_any ?_ | refine sh_in (by simp only [IntKind.bits]; omega) ?_) | with_reducible refine callV_snap ?_ | ((with_reducible refine call_go isNaNS isNaN_ok ?_); refine ⟨(by first | exact alOk_nil _ | exact alOk_f rfl), _, _, isNaN_at _, ?_⟩) | (with_reducible first | refine idx_map (by omega) ?_ | refine W_reg lv92BdA ?_ | refine W_skip ?_ | refine W_exit ?_ | refine W_ret ?_ | refine end_at0 ?_) | (with_reducible refine And.intro (fun h => ?_) (fun h => ?_)) | (with_reducible refine And.intro (by omega) ?_)); (try simp only [go_sem, seval, reduceCtorEq, encU, hij', hki, hx', hbt, lv92BdA, Try.ntmps92, Try.results92, bsS]))
          | fail)
    · have hki : ¬ (i : Int) < l.length := by omega
      have hbt : b = false := by
        cases b with
        | false => rfl
        | true => obtain ⟨h, _⟩ := hb.1 rfl; exact absurd h hlt
      repeat' (first
        | (with_reducible first | refine W_seq ?_ | refine W_condT rfl ?_ | refine W_condF rfl ?_ | refine W_tf rfl (fun h => ?_) (fun h => ?_) | refine W_block ?_ | refine endQ_ret ?_ | refine endQ_normal ?_)
        | ((with_reducible first | refine hK _ ?_ | refine hK _ _ ?_); clear hK K)
        | ((first | (with_reducible first | refine ops_cons (fun K hK => ?_) | refine ops_nil ?_ | refine fit_i64 (by omega) ?_ | refine fit_u8 (by omega) ?_ | refine fit_u64 (by omega) ?_ | refine fit_u32 (by omega) ?_ | refine fit_any ?_ | refine sh_in (by simp only [IntKind.bits]; omega) ?_) | with_reducible refine callV_snap ?_ | ((with_reducible refine call_go isNaNS isNaN_ok ?_); refine ⟨(by first | exact alOk_nil _ | exact alOk_f rfl), _, _, isNaN_at _, ?_⟩) | (with_reducible first | refine idx_map (by omega) ?_ | refine W_reg lv92BdA ?_ | refine W_skip ?_ | refine W_exit ?_ | refine W_ret ?_ | refine end_at0 ?_) | (with_reducible refine And.intro (fun h => ?_) (fun h => ?_)) | (with_reducible refine And.intro (by omega) ?_)); (try simp only [go_sem, seval, reduceCtorEq, encU, hij', hki, hbt, lv92BdA, Try.ntmps92, Try.results92, bsS]))
        | fail)

def DelS : Spec := { rel := fun args ins res outs => ∃ (c : List Nat) (i : Nat), c.length ≤ 1000000 ∧ i < c.length ∧ args = [.row 0 1 0 c.length, iv i, iv (i + 1)] ∧ ins = [.rows 5 1 (c.map encU)] ∧ res = .row 0 1 0 (c.length - 1) ∧ outs = [.rows 5 1 ((c.eraseIdx i).map encU)] }
theorem Del_at (c : List Nat) (i : Nat) (h : c.length ≤ 1000000) (hi : i < c.length) : DelS.rel [.row 0 1 0 c.length, iv i, iv (i + 1)] [.rows 5 1 (c.map encU)] (.row 0 1 0 (c.length - 1)) [.rows 5 1 ((c.eraseIdx i).map encU)] := ⟨c, i, h, hi, rfl, rfl, rfl, rfl⟩
set_option maxHeartbeats 2000000 in
theorem Del_ok : Ok Try.prog 93 DelS := by
  refine fn_ok DelS Try.func93 rfl rfl ?_
  rintro args ins res outs ⟨c, i, hc, hi, rfl, rfl, rfl, rfl⟩
  refine ⟨by simp [Try.ntmps93], fun w0 V Bo mu0 => ?_⟩
  have h1 : ¬ (i : Int) = i + 1 := by omega
  have hi1 : ((i : Int) + 1).toNat = i + 1 := by omega
  have hd : List.take (c.length - (i + 1)) (List.drop (i + 1) (List.map encU c)) = (c.drop (i + 1)).map encU := by rw [← List.map_drop]; exact List.take_of_length_le (by simp)
  have hn : i + (c.length - (i + 1)) = c.length - 1 := by omega
  have hn2 : ((c.length - 1 : Nat) : Int).toNat = c.length - 1 := by omega
  have hn3 : c.length - (c.length - 1) = 1 := by omega
  have hm : List.take i (List.map encU c) ++ ((c.drop (i + 1)).map encU ++ List.drop (c.length - 1) (List.map encU c)) = (c.eraseIdx i).map encU ++ List.drop (c.length - 1) (List.map encU c) := by
    rw [List.eraseIdx_eq_take_drop_succ, List.map_append, List.map_take, List.append_assoc]
  have hml : ((c.eraseIdx i).map encU).length = c.length - 1 := by simp [List.length_eraseIdx, hi]
  have hL : (List.map encU (c.eraseIdx i) ++ List.drop (c.length - 1) (List.map encU c)).length = c.length := by rw [List.length_append, hml]; simp
  have hT : List.take (c.length - 1) (List.map encU (c.eraseIdx i) ++ List.drop (c.length - 1) (List.map encU c)) = List.map encU (c.eraseIdx i) := List.take_left' hml
  repeat' (first
    | (with_reducible first | refine W_seq ?_ | refine W_condT rfl ?_ | refine W_condF rfl ?_ | refine W_tf rfl (fun h => ?_) (fun h => ?_) | refine endQ_ret ?_ | refine endQ_normal ?_)
    | ((with_reducible first | refine hK _ ?_ | refine hK _ _ ?_); clear hK K)
    | ((with_reducible refine slice_new (mx := some (.tmp 12)) ?_); simp only [go_sem, seval, reduceCtorEq])
    | ((with_reducible refine slice_new (lo := some (.tmp 29)) ?_); simp only [go_sem, seval, reduceCtorEq, hn2, hn3, hL])
    | ((with_reducible refine app_in ?_); simp only [go_sem, seval, reduceCtorEq, hi1, hd, hn, hm, List.length_drop])
    | ((first | (with_reducible first | refine ops_cons (fun K hK => ?_) | refine opsd_cons (fun K hK => ?_) | refine ops_nil ?_) | ((with_reducible refine opsd_nil ?_); refine And.intro (by kernel_rfl) ?_) | with_reducible refine callV_snap ?_ | (with_reducible first | refine slice_old ?_ | refine app_grow ?_ | refine W_reg lv93BdA ?_ | refine W_drw lv93BdA (by kernel_rfl) ?_ | refine W_skip ?_ | refine end_at0 ?_) | (with_reducible refine And.intro (fun h => ?_) (fun h => ?_)) | (with_reducible refine And.intro (by omega) ?_)); (try simp only [go_sem, seval, reduceCtorEq, h1, hi1, hd, hn, hn2, hn3, hm, hL, hT, List.length_drop, lv93BdA, Try.ntmps93, Try.results93, DelS]))
    | fail)
  refine W_trim 0 (c.length - 1) rfl ?_
  refine W_ret (endQ_ret (end_at [0] ?_))
  have hT2 : ∀ X : List (List D), List.take (c.length - 1) (List.map encU (c.eraseIdx i) ++ X) = List.map encU (c.eraseIdx i) := fun X => List.take_left' hml
  have hfl := @flatU (c.eraseIdx i)
  simp only [go_sem, hT2]
  simp [go_sem, Try.results93, DelS]
  simp [flatD, encU]

theorem ov_is : OvIs Try.prog 99 108 4 := fun args w =>
  run_callFunc_extern Try.func99 (by kernel_rfl) (by kernel_rfl) (by kernel_rfl) (by kernel_rfl) args w

def InsS : Spec := { dead := [0], rel := fun args ins res outs => ∃ (c : List Nat) (s i : Nat), i ≤ c.length ∧ c.length ≤ 1000000 ∧ args = [.row 0 1 0 c.length, iv i, .row 1 1 0 1] ∧ ins = [.rows 5 1 (c.map encU), .rows 5 1 [encU s]] ∧ res = .row 2 1 0 (c.length + 1) ∧ outs = [.rows 5 1 [], .rows 5 1 [encU s], .rows 5 1 ((c.take i ++ s :: c.drop i).map encU)] }
theorem Ins_at (c : List Nat) (s i : Nat) (hi : i ≤ c.length) (h : c.length ≤ 1000000) : InsS.rel [.row 0 1 0 c.length, iv i, .row 1 1 0 1] [.rows 5 1 (c.map encU), .rows 5 1 [encU s]] (.row 2 1 0 (c.length + 1)) [.rows 5 1 [], .rows 5 1 [encU s], .rows 5 1 ((c.take i ++ s :: c.drop i).map encU)] := ⟨c, s, i, hi, h, rfl, rfl, rfl, rfl⟩
set_option maxHeartbeats 2000000 in
theorem Ins_ok : Ok Try.prog 94 InsS := by
  refine fn_ok InsS Try.func94 rfl rfl ?_
  rintro args ins res outs ⟨c, s, i, hi, hc, rfl, rfl, rfl, rfl⟩
  refine ⟨by simp [Try.ntmps94], fun w0 V Bo mu0 => ?_⟩
  have c1 : ((1 : Nat) : Int) = 1 := rfl
  have lt2 : List.take 1 [encU s] = [encU s] := rfl
  have hlen : (c.map encU).length = c.length := by simp
  by_cases he : i = c.length
  · have hi2 : (i : Int) = (c.length : Int) := by omega
    subst he
    have hrow : ∀ r ∈ [encU s], r.length = 1 := by intro r hr; simp at hr; subst hr; rfl
    have hfl := @flatU (c.take c.length ++ s :: c.drop c.length)
    have hfs : ∀ x ∈ encU s, flatD x := by intro x hx; simp only [encU, List.mem_singleton] at hx; subst hx; trivial
    repeat' (first
      | (with_reducible first | refine W_seq ?_ | refine W_condT rfl ?_ | refine W_condF rfl ?_ | refine W_tf rfl (fun h => ?_) (fun h => ?_) | refine endQ_ret ?_ | refine endQ_normal ?_)
      | ((with_reducible first | refine hK _ ?_ | refine hK _ _ ?_); clear hK K)
      | ((with_reducible refine And.intro hrow ?_))
      | ((first | (with_reducible first | refine ops_cons (fun K hK => ?_) | refine opsd_cons (fun K hK => ?_) | refine ops_nil ?_ | refine fit_i64 (by omega) ?_ | refine fit_any ?_) | ((with_reducible refine opsd_nil ?_); refine And.intro (by kernel_rfl) ?_) | with_reducible refine callV_snap ?_ | (with_reducible first | refine slice_old ?_ | refine app_grow ?_ | refine W_reg lv94BdA ?_ | refine W_drw lv94BdA (by kernel_rfl) ?_ | refine W_skip ?_ | refine end_at0 ?_) | (with_reducible refine And.intro (fun h => ?_) (fun h => ?_)) | (with_reducible refine And.intro (by omega) ?_)); (try simp only [go_sem, seval, reduceCtorEq, c1, lt2, lv94BdA, Try.ntmps94, Try.results94, InsS]))
      | fail)
    refine W_ret (endQ_ret ?_)
    refine end_at [0, 1, 2] ?_
    simp [go_sem, Try.results94, InsS]
    exact ⟨hfs, fun r hr x hx => hfl r (by simpa using hr) x hx⟩
  refine W_cap 0 0 1 c.length rfl (by omega) (fun cap hc1 hc2 => ?_)
  have hne : ¬ (i : Int) = (c.length : Int) := by omega
  have tn1 : ((c.length : Int) + 1).toNat = c.length + 1 := by omega
  have tn2 : ((i : Int) + 1).toNat = i + 1 := by omega
  have tn3 : ((c.length : Int) + 1 - (i : Int)).toNat = c.length + 1 - i := by omega
  have sub1 : c.length + 1 - (i + 1) = c.length - i := by omega
  have sub2 : i + (c.length + 1 - i) - i = c.length + 1 - i := by omega
  have add1 : i + (c.length + 1 - i) = c.length + 1 := by omega
  have mn1 : min 1 (c.length + 1 - i) = 1 := by omega
  have mn2 : min (c.length + 1 - i) (c.length - i) = c.length - i := by omega
  have mn3 : min (c.length - i) (c.length - i) = c.length - i := by omega
  have lt1 : min i c.length = i := by omega
  have fl : ∀ p : Nat, ∀ x ∈ encU p, flatD x := by
    intro p x hx; simp only [encU, List.mem_singleton] at hx; subst hx; trivial
  have fl2 : ∀ r : List D, r ∈ List.take i (List.map encU c) ∨ r = encU s ∨ r ∈ List.drop i (List.map encU c) → ∀ x ∈ r, flatD x := by
    intro r hr x hx
    have : ∃ p, r = encU p := by
      rcases hr with h | h | h
      · obtain ⟨p, _, rfl⟩ := List.mem_map.1 (List.mem_of_mem_take h); exact ⟨p, rfl⟩
      · exact ⟨s, h⟩
      · obtain ⟨p, _, rfl⟩ := List.mem_map.1 (List.mem_of_mem_drop h); exact ⟨p, rfl⟩
    obtain ⟨p, rfl⟩ := this
    exact fl p x hx
  by_cases hroom : c.length + 1 ≤ cap
  · have h1 : ¬ (cap : Int) < (c.length : Int) + 1 := by omega
    repeat' (first
      | (with_reducible first | refine W_seq ?_ | refine W_condT rfl ?_ | refine W_condF rfl ?_ | refine W_tf rfl (fun h => ?_) (fun h => ?_) | refine endQ_ret ?_ | refine endQ_normal ?_)
      | ((with_reducible first | refine hK _ ?_ | refine hK _ _ ?_); clear hK K)
      | ((with_reducible refine slice_cap (x := .rowc _ _ _ _) ?_); simp only [go_sem, seval, reduceCtorEq, tn1, tn2, tn3, sub1, sub2])
      | ((with_reducible refine callV_ext ?_); refine ext_overlaps ov_is (by simp only [go_sem, seval, reduceCtorEq, Try.ntmps94]) (by simp only [go_sem, seval, reduceCtorEq]) (by simp only [go_sem, seval, reduceCtorEq]; rfl) (by simp only [go_sem, seval, reduceCtorEq]) rfl rfl rfl rfl rfl rfl (by omega) rfl rfl (by omega) (by omega) (by omega) ?_; simp only [go_sem, seval, reduceCtorEq])
      | ((first | (with_reducible first | refine ops_cons (fun K hK => ?_) | refine opsd_cons (fun K hK => ?_) | refine ops_nil ?_ | refine fit_i64 (by omega) ?_ | refine fit_any ?_) | ((with_reducible refine opsd_nil ?_); refine And.intro (by kernel_rfl) ?_) | with_reducible refine callV_snap ?_ | (with_reducible first | refine slice_old ?_ | refine app_grow ?_ | refine W_reg lv94BdA ?_ | refine W_drw lv94BdA (by kernel_rfl) ?_ | refine W_skip ?_ | refine end_at0 ?_) | (with_reducible refine And.intro (fun h => ?_) (fun h => ?_)) | (with_reducible refine And.intro (by omega) ?_)); (try simp only [go_sem, seval, reduceCtorEq, c1, hne, h1, tn1, tn2, tn3, sub1, sub2, add1, mn1, mn2, mn3, hlen, lt1, lt2, List.length_append, List.length_replicate, List.length_take, List.length_drop, lv94BdA, Try.ntmps94, Try.results94, InsS]))
      | fail)
    refine W_moveC 6 0 1 (c.length + 1) cap rfl rfl ?_
    refine W_ret ?_
    refine endQ_ret ?_
    refine end_at [0, 1, 2] ?_
    simp [go_sem, Try.results94, InsS]
    exact ⟨ins_room _ _ i c.length hlen (by omega), fl s, fl2⟩
  · have h1 : (cap : Int) < (c.length : Int) + 1 := by omega
    repeat' (first
      | (with_reducible first | refine W_seq ?_ | refine W_condT rfl ?_ | refine W_condF rfl ?_ | refine W_tf rfl (fun h => ?_) (fun h => ?_) | refine endQ_ret ?_ | refine endQ_normal ?_)
      | ((with_reducible first | refine hK _ ?_ | refine hK _ _ ?_); clear hK K)
      | ((with_reducible refine slice_cap (x := .rowc _ _ _ _) ?_); simp only [go_sem, seval, reduceCtorEq, tn1, tn2, tn3, sub1, sub2])
      | ((first | (with_reducible first | refine ops_cons (fun K hK => ?_) | refine opsd_cons (fun K hK => ?_) | refine ops_nil ?_ | refine fit_i64 (by omega) ?_ | refine fit_any ?_) | ((with_reducible refine opsd_nil ?_); refine And.intro (by kernel_rfl) ?_) | with_reducible refine callV_snap ?_ | (with_reducible first | refine slice_old ?_ | refine app_grow ?_ | refine W_reg lv94BdA ?_ | refine W_drw lv94BdA (by kernel_rfl) ?_ | refine W_skip ?_ | refine end_at0 ?_) | (with_reducible refine And.intro (fun h => ?_) (fun h => ?_)) | (with_reducible refine And.intro (by omega) ?_)); (try simp only [go_sem, seval, reduceCtorEq, c1, hne, h1, tn1, tn2, tn3, sub1, sub2, add1, mn1, mn2, mn3, hlen, lt1, lt2, List.length_append, List.length_replicate, List.length_take, List.length_drop, lv94BdA, Try.ntmps94, Try.results94, InsS]))
      | fail)
    refine W_ret ?_
    refine endQ_ret ?_
    refine end_at [0, 1, 2] ?_
    simp [go_sem, Try.results94, InsS]
    exact ⟨ins_grow _ _ _ i c.length hlen (by omega), fl s, fl2⟩
end Go.Proofs.Ytacfipmigkbncaa
