/- Who lives behind a trace; ModelKnown. -/
import Derived.Test.YtnclclpfmldocaaMdL
namespace Go.Proofs.Ytnclclpfmldocaa
open Go.RowKit
set_option maxRecDepth 100000
set_option linter.unusedSimpArgs false
set_option linter.unusedVariables false

abbrev lv3MdV : List (Nat × List Nat) := [(0, []), (1, [1]), (2, [1, 2]), (3, [1, 2, 3]), (4, [1, 2, 3]), (5, [34]), (6, [0]), (7, [4]), (8, [4, 5, 6]), (9, [4, 5, 6, 7]), (10, [4, 5, 6, 7, 8]), (11, [4, 5, 6, 7, 8]), (12, [0])]
abbrev lv6MdV : List (Nat × List Nat) := [(0, [0]), (1, [4, 5]), (2, [4, 5, 15]), (3, [2, 3]), (4, [4, 6]), (5, [6, 19, 20, 21]), (6, [6, 19, 20, 21, 22]), (7, [6, 7, 8, 19, 20, 21]), (8, [6, 7, 19, 20, 21, 26]), (9, [6, 19, 20, 21]), (10, [6, 19, 20, 21]), (11, [2, 3])]
abbrev lv7MdV : List (Nat × List Nat) := [(0, [0, 1]), (1, [0, 1, 10]), (2, [4]), (3, [0, 1, 5]), (4, [0, 1, 5, 14]), (5, [0, 1, 5]), (6, [0, 1, 5, 25]), (7, [4]), (8, [4])]
def SmiS : Spec := { rel := fun args ins res outs => ∃ (a b : List Int), a.length ≤ 1000000 ∧ b.length ≤ 1000000 ∧ args = [.d (.sl (a.map encDI)), .d (.sl (b.map encDI))] ∧ ins = [] ∧ res = bv (decide (a = b)) ∧ outs = [] }
theorem Smi_at (a b : List Int) (h1 : a.length ≤ 1000000) (h2 : b.length ≤ 1000000) : SmiS.rel [.d (.sl (a.map encDI)), .d (.sl (b.map encDI))] [] (bv (decide (a = b))) [] := ⟨a, b, h1, h2, rfl, rfl, rfl, rfl⟩
set_option maxHeartbeats 1000000 in
theorem Smi_ok : Ok Try.prog 7 SmiS := by
  refine fn_ok SmiS Try.func7 rfl rfl ?_
  rintro args ins res outs ⟨a, b, h1, h2, rfl, rfl, rfl, rfl⟩
  refine ⟨by simp [Try.ntmps7], fun w0 V Bo mu0 => ?_⟩
  by_cases hl : a.length = b.length
  case neg =>
    have hl' : ¬ (a.length : Int) = (b.length : Int) := by omega
    rw [decide_eq_false (fun e : a = b => hl (by rw [e]))]
    repeat' (first
      | (with_reducible first | refine W_seq ?_ | refine W_condT rfl ?_ | refine W_condF rfl ?_ | refine W_tf rfl (fun h => ?_) (fun h => ?_) | refine W_block ?_ | refine endQ_ret ?_ | refine endQ_normal ?_)
      | ((with_reducible first | refine hK _ ?_ | refine hK _ _ ?_); clear hK K)
      | ((first | (with_reducible first | refine ops_cons (fun K hK => ?_) | refine opsd_cons (fun K hK => ?_) | refine ops_nil ?_ | refine fit_i64 (by omega) ?_ | refine fit_any ?_) | ((with_reducible refine opsd_nil ?_); refine And.intro (by kernel_rfl) ?_) | with_reducible refine callV_snap ?_ | (with_reducible first | refine idx_map (by omega) ?_ | refine W_reg lv7MdV ?_ | refine W_drw lv7MdV (by kernel_rfl) ?_ | refine W_skip ?_ | refine W_exit ?_ | refine W_ret ?_ | refine end_at0 ?_) | (with_reducible refine And.intro (fun h => ?_) (fun h => ?_)) | (with_reducible refine And.intro (by omega) ?_)); (try simp only [go_sem, seval, reduceCtorEq, hl', lv7MdV, Try.ntmps7, Try.results7, SmiS]))
      | fail)
  have hl' : (a.length : Int) = (b.length : Int) := by omega
  repeat' (first
    | (with_reducible first | refine W_seq ?_ | refine W_condT rfl ?_ | refine W_condF rfl ?_ | refine W_tf rfl (fun h => ?_) (fun h => ?_) | refine W_block ?_ | refine endQ_ret ?_ | refine endQ_normal ?_)
    | ((with_reducible first | refine hK _ ?_ | refine hK _ _ ?_); clear hK K)
    | ((first | (with_reducible first | refine ops_cons (fun K hK => ?_) | refine opsd_cons (fun K hK => ?_) | refine ops_nil ?_ | refine fit_i64 (by omega) ?_ | refine fit_any ?_) | ((with_reducible refine opsd_nil ?_); refine And.intro (by kernel_rfl) ?_) | with_reducible refine callV_snap ?_ | (with_reducible first | refine idx_map (by omega) ?_ | refine W_reg lv7MdV ?_ | refine W_drw lv7MdV (by kernel_rfl) ?_ | refine W_skip ?_ | refine W_exit ?_ | refine W_ret ?_ | refine end_at0 ?_) | (with_reducible refine And.intro (fun h => ?_) (fun h => ?_)) | (with_reducible refine And.intro (by omega) ?_)); (try simp only [go_sem, seval, reduceCtorEq, hl', lv7MdV, Try.ntmps7, Try.results7, SmiS]))
    | fail)
  refine W_loop (fun i : Nat => ⟨[(0, .d (.sl (a.map encDI))), (1, .d (.sl (b.map encDI))), (5, iv (i : Int))], []⟩) (fun i => i ≤ a.length ∧ ∀ j (g1 : j < a.length) (g2 : j < b.length), j < i → a[j] = b[j]) (fun i => a.length - i) 0 ⟨Nat.zero_le _, fun j _ _ h => absurd h (Nat.not_lt_zero _)⟩ [] ?_ ?_
  · simp [go_sem]
  rintro i ⟨hi, hg⟩
  by_cases hlt : i < a.length
  · have hki : (i : Int) < (b.length : Int) := by omega
    have hlb : i < b.length := by omega
    obtain ⟨x, hx⟩ : ∃ x, a[i] = x := ⟨_, rfl⟩
    obtain ⟨y, hy⟩ : ∃ y, b[i] = y := ⟨_, rfl⟩
    have e0 : encDI a[i] = [.int .i64 x] := by rw [hx]; rfl
    have e1 : encDI b[i] = [.int .i64 y] := by rw [hy]; rfl
    by_cases he : x = y
    · subst he
      repeat' (first
        | (with_reducible first | refine W_seq ?_ | refine W_condT rfl ?_ | refine W_condF rfl ?_ | refine W_tf rfl (fun h => ?_) (fun h => ?_) | refine W_block ?_ | refine endQ_ret ?_ | refine endQ_normal ?_)
        | ((with_reducible first | refine hK _ ?_ | refine hK _ _ ?_); clear hK K)
        | ((first | (with_reducible first | refine ops_cons (fun K hK => ?_) | refine opsd_cons (fun K hK => ?_) | refine ops_nil ?_ | refine fit_i64 (by omega) ?_ | refine fit_any ?_) | ((with_reducible refine opsd_nil ?_); refine And.intro (by kernel_rfl) ?_) | with_reducible refine callV_snap ?_ | (with_reducible first | refine idx_map (by omega) ?_ | refine W_reg lv7MdV ?_ | refine W_drw lv7MdV (by kernel_rfl) ?_ | refine W_skip ?_ | refine W_exit ?_ | refine W_ret ?_ | refine end_at0 ?_) | (with_reducible refine And.intro (fun h => ?_) (fun h => ?_)) | (with_reducible refine And.intro (by omega) ?_)); (try simp only [go_sem, seval, reduceCtorEq, hl', hki, e0, e1, lv7MdV, Try.ntmps7, Try.results7, SmiS]))
        | fail)
      refine ⟨i + 1, [], ⟨by omega, fun j g1 g2 h => ?_⟩, by omega, ?_⟩
      · by_cases hj : j = i
        · subst hj; rw [hx, hy]
        · exact hg j g1 g2 (by omega)
      · simp [go_sem]
    · have he' : ¬ x = y := he
      rw [decide_eq_false (ne_take hlt hlb (by rw [hx, hy]; exact he))]
      repeat' (first
        | (with_reducible first | refine W_seq ?_ | refine W_condT rfl ?_ | refine W_condF rfl ?_ | refine W_tf rfl (fun h => ?_) (fun h => ?_) | refine W_block ?_ | refine endQ_ret ?_ | refine endQ_normal ?_)
        | ((with_reducible first | refine hK _ ?_ | refine hK _ _ ?_); clear hK K)
        | ((first | (with_reducible first | refine ops_cons (fun K hK => ?_) | refine opsd_cons (fun K hK => ?_) | refine ops_nil ?_ | refine fit_i64 (by omega) ?_ | refine fit_any ?_) | ((with_reducible refine opsd_nil ?_); refine And.intro (by kernel_rfl) ?_) | with_reducible refine callV_snap ?_ | (with_reducible first | refine idx_map (by omega) ?_ | refine W_reg lv7MdV ?_ | refine W_drw lv7MdV (by kernel_rfl) ?_ | refine W_skip ?_ | refine W_exit ?_ | refine W_ret ?_ | refine end_at0 ?_) | (with_reducible refine And.intro (fun h => ?_) (fun h => ?_)) | (with_reducible refine And.intro (by omega) ?_)); (try simp only [go_sem, seval, reduceCtorEq, hl', hki, e0, e1, he', lv7MdV, Try.ntmps7, Try.results7, SmiS]))
        | fail)
  · have hki : ¬ (i : Int) < (b.length : Int) := by omega
    rw [decide_eq_true (eq_get hl fun j g1 g2 => hg j g1 g2 (by omega))]
    repeat' (first
      | (with_reducible first | refine W_seq ?_ | refine W_condT rfl ?_ | refine W_condF rfl ?_ | refine W_tf rfl (fun h => ?_) (fun h => ?_) | refine W_block ?_ | refine endQ_ret ?_ | refine endQ_normal ?_)
      | ((with_reducible first | refine hK _ ?_ | refine hK _ _ ?_); clear hK K)
      | ((first | (with_reducible first | refine ops_cons (fun K hK => ?_) | refine opsd_cons (fun K hK => ?_) | refine ops_nil ?_ | refine fit_i64 (by omega) ?_ | refine fit_any ?_) | ((with_reducible refine opsd_nil ?_); refine And.intro (by kernel_rfl) ?_) | with_reducible refine callV_snap ?_ | (with_reducible first | refine idx_map (by omega) ?_ | refine W_reg lv7MdV ?_ | refine W_drw lv7MdV (by kernel_rfl) ?_ | refine W_skip ?_ | refine W_exit ?_ | refine W_ret ?_ | refine end_at0 ?_) | (with_reducible refine And.intro (fun h => ?_) (fun h => ?_)) | (with_reducible refine And.intro (by omega) ?_)); (try simp only [go_sem, seval, reduceCtorEq, hl', hki, lv7MdV, Try.ntmps7, Try.results7, SmiS]))
      | fail)
/-- the processes that live, of the first i -/
def alvP (al : List Bool) : Nat → List Int
  | 0 => []
  | i + 1 => alvP al i ++ if al[i]?.getD false = true then [(i : Int) + 1] else []
theorem alvP_len (al : List Bool) : ∀ i, (alvP al i).length ≤ i
  | 0 => Nat.le_refl _
  | i + 1 => by
    have := alvP_len al i
    rw [alvP, List.length_append]
    split <;> simp <;> omega
def alvR (l : List Oc) : AV × List Ob := if afE l = 0 then (.tup [.row 0 1 0 (alvP (afT l).m.1 (afT l).m.1.length).length, iv 0], [.rows 3 1 ((alvP (afT l).m.1 (afT l).m.1.length).map encDI)]) else (.tup [.nil, iv (afE l)], [])
def alvS : Spec := { rel := fun args ins res outs => ∃ l : List Oc, l.length ≤ 1000000 ∧ (afT l).m.1.length ≤ 8 ∧ args = [ocL l] ∧ ins = [] ∧ res = (alvR l).1 ∧ outs = (alvR l).2 }
set_option maxHeartbeats 1000000 in
theorem alv_ok : Ok Try.prog 6 alvS := by
  refine fn_ok alvS Try.func6 rfl rfl ?_
  rintro args ins res outs ⟨l, hl, h8, rfl, rfl, rfl, rfl⟩
  refine ⟨by simp [Try.ntmps6], fun w0 V Bo mu0 => ?_⟩
  have A0 := aftr_at l hl
  by_cases he : afE l = 0
  case neg =>
    have hr : alvR l = (.tup [.nil, iv (afE l)], []) := if_neg he
    rw [hr]
    generalize afE l = E at *
    generalize afT l = S at *
    have aftr_at : aftrS.rel [ocL l] [] (.tup [syA S, iv E]) [] := A0
    repeat' (first
      | (with_reducible first | refine W_seq ?_ | refine W_condT rfl ?_ | refine W_condF rfl ?_ | refine W_tf rfl (fun h => ?_) (fun h => ?_) | refine W_block ?_ | refine endQ_ret ?_ | refine endQ_normal ?_)
      | ((with_reducible first | refine hK _ ?_ | refine hK _ _ ?_); clear hK K)
      | ((first | (with_reducible first | refine ops_cons (fun K hK => ?_) | refine ops_nil ?_ | refine fit_i64 (by omega) ?_ | refine fit_any ?_) | with_reducible refine callV_snap ?_ | ((with_reducible refine call_go aftrS aftr_ok ?_); refine ⟨(by first | exact alOk_nil _ | exact alOk_f rfl), _, _, aftr_at , ?_⟩) | (with_reducible first | refine slice_old ?_ | refine app_grow ?_ | refine idx_map (by omega) ?_ | refine W_reg lv6MdV ?_ | refine W_skip ?_ | refine W_exit ?_ | refine W_ret ?_ | refine end_at0 ?_) | (with_reducible refine And.intro (fun h => ?_) (fun h => ?_)) | (with_reducible refine And.intro (by omega) ?_)); (try simp only [go_sem, seval, reduceCtorEq, he, lv6MdV, Try.ntmps6, Try.results6, alvS]))
      | fail)
  have hr : alvR l = (.tup [.row 0 1 0 (alvP (afT l).m.1 (afT l).m.1.length).length, iv 0], [.rows 3 1 ((alvP (afT l).m.1 (afT l).m.1.length).map encDI)]) := if_pos he
  rw [hr]
  rw [he] at A0
  generalize afT l = S at *
  have aftr_at : aftrS.rel [ocL l] [] (.tup [syA S, iv 0]) [] := A0
  repeat' (first
    | (with_reducible first | refine W_seq ?_ | refine W_condT rfl ?_ | refine W_condF rfl ?_ | refine W_tf rfl (fun h => ?_) (fun h => ?_) | refine W_block ?_ | refine endQ_ret ?_ | refine endQ_normal ?_)
    | ((with_reducible first | refine hK _ ?_ | refine hK _ _ ?_); clear hK K)
    | ((first | (with_reducible first | refine ops_cons (fun K hK => ?_) | refine ops_nil ?_ | refine fit_i64 (by omega) ?_ | refine fit_any ?_) | with_reducible refine callV_snap ?_ | ((with_reducible refine call_go aftrS aftr_ok ?_); refine ⟨(by first | exact alOk_nil _ | exact alOk_f rfl), _, _, aftr_at , ?_⟩) | (with_reducible first | refine slice_old ?_ | refine app_grow ?_ | refine idx_map (by omega) ?_ | refine W_reg lv6MdV ?_ | refine W_skip ?_ | refine W_exit ?_ | refine W_ret ?_ | refine end_at0 ?_) | (with_reducible refine And.intro (fun h => ?_) (fun h => ?_)) | (with_reducible refine And.intro (by omega) ?_)); (try simp only [go_sem, seval, reduceCtorEq, lv6MdV, Try.ntmps6, Try.results6, alvS]))
    | fail)
  refine W_adopt 6 3 1 (by decide) (by simp [go_sem]) ?_
  refine W_loop (fun i : Nat => ⟨[(6, .row 0 1 0 (alvP S.m.1 i).length), (19, .d (.sl (S.m.1.map encDB))), (20, iv (S.m.1.length : Int)), (21, iv (i : Int))], [some (.rows 3 1 ((alvP S.m.1 i).map encDI))]⟩) (fun i => i ≤ S.m.1.length) (fun i => S.m.1.length - i) 0 (Nat.zero_le _) [1] ?_ ?_
  · simp [go_sem, alvP]
  intro i hi
  have hlen := alvP_len S.m.1 i
  by_cases hlt : i < S.m.1.length
  · have hki : (i : Int) < S.m.1.length := by omega
    have hs : alvP S.m.1 (i + 1) = alvP S.m.1 i ++ if S.m.1[i]?.getD false = true then [(i : Int) + 1] else [] := rfl
    rw [List.getElem?_eq_getElem hlt, Option.getD_some] at hs
    cases hb : S.m.1[i] with
    | true =>
      have e0 : encDB S.m.1[i] = [.bool true] := by rw [hb]; rfl
      rw [hb, if_pos rfl] at hs
      repeat' (first
        | (with_reducible first | refine W_seq ?_ | refine W_condT rfl ?_ | refine W_condF rfl ?_ | refine W_tf rfl (fun h => ?_) (fun h => ?_) | refine W_block ?_ | refine endQ_ret ?_ | refine endQ_normal ?_)
        | ((with_reducible first | refine hK _ ?_ | refine hK _ _ ?_); clear hK K)
        | ((first | (with_reducible first | refine ops_cons (fun K hK => ?_) | refine ops_nil ?_ | refine fit_i64 (by omega) ?_ | refine fit_any ?_) | with_reducible refine callV_snap ?_ | (with_reducible first | refine slice_old ?_ | refine app_grow ?_ | refine idx_map (by omega) ?_ | refine W_reg lv6MdV ?_ | refine W_skip ?_ | refine W_exit ?_ | refine W_ret ?_ | refine end_at0 ?_) | (with_reducible refine And.intro (fun h => ?_) (fun h => ?_)) | (with_reducible refine And.intro (by omega) ?_)); (try simp only [go_sem, seval, reduceCtorEq, hki, e0, lv6MdV, Try.ntmps6, Try.results6, alvS]))
        | fail)
      refine ⟨i + 1, [2], by omega, by omega, ?_⟩
      simp only [hs]
      simp [go_sem, encDI]
    | false =>
      have e0 : encDB S.m.1[i] = [.bool false] := by rw [hb]; rfl
      rw [hb, if_neg (by decide), List.append_nil] at hs
      repeat' (first
        | (with_reducible first | refine W_seq ?_ | refine W_condT rfl ?_ | refine W_condF rfl ?_ | refine W_tf rfl (fun h => ?_) (fun h => ?_) | refine W_block ?_ | refine endQ_ret ?_ | refine endQ_normal ?_)
        | ((with_reducible first | refine hK _ ?_ | refine hK _ _ ?_); clear hK K)
        | ((first | (with_reducible first | refine ops_cons (fun K hK => ?_) | refine ops_nil ?_ | refine fit_i64 (by omega) ?_ | refine fit_any ?_) | with_reducible refine callV_snap ?_ | (with_reducible first | refine slice_old ?_ | refine app_grow ?_ | refine idx_map (by omega) ?_ | refine W_reg lv6MdV ?_ | refine W_skip ?_ | refine W_exit ?_ | refine W_ret ?_ | refine end_at0 ?_) | (with_reducible refine And.intro (fun h => ?_) (fun h => ?_)) | (with_reducible refine And.intro (by omega) ?_)); (try simp only [go_sem, seval, reduceCtorEq, hki, e0, lv6MdV, Try.ntmps6, Try.results6, alvS]))
        | fail)
      refine ⟨i + 1, [0], by omega, by omega, ?_⟩
      simp [go_sem, hs]
  · have hki : ¬ (i : Int) < S.m.1.length := by omega
    obtain rfl : i = S.m.1.length := by omega
    repeat' (first
      | (with_reducible first | refine W_seq ?_ | refine W_condT rfl ?_ | refine W_condF rfl ?_ | refine W_tf rfl (fun h => ?_) (fun h => ?_) | refine W_block ?_ | refine endQ_ret ?_ | refine endQ_normal ?_)
      | ((with_reducible first | refine hK _ ?_ | refine hK _ _ ?_); clear hK K)
      | ((first | (with_reducible first | refine ops_cons (fun K hK => ?_) | refine ops_nil ?_ | refine fit_i64 (by omega) ?_ | refine fit_any ?_) | with_reducible refine callV_snap ?_ | (with_reducible first | refine slice_old ?_ | refine app_grow ?_ | refine idx_map (by omega) ?_ | refine W_reg lv6MdV ?_ | refine W_skip ?_ | refine W_exit ?_ | refine end_at0 ?_) | (with_reducible refine And.intro (fun h => ?_) (fun h => ?_)) | (with_reducible refine And.intro (by omega) ?_)); (try simp only [go_sem, seval, reduceCtorEq, hki, lv6MdV, Try.ntmps6, Try.results6, alvS]))
      | fail)
    refine W_ret (endQ_ret (end_at [0] ?_))
    have := encI.flat (alvP S.m.1 S.m.1.length)
    simp [go_sem, Try.results6, alvS]
    simpa [flatD] using this
def qA : List Oc := [⟨4, 1, 0, 3, 0, 0, 9⟩, ⟨3, 1, 0, 3, 0, 0, 9⟩]
def qB : List Oc := [⟨4, 1, 0, 3, 0, 0, 9⟩, ⟨3, 1, 0, 3, 0, 0, 9⟩, ⟨3, 1, 0, 3, 0, 0, 8⟩]
def qC : List Oc := [⟨9, 1, 0, 0, 0, 2, 0⟩, ⟨9, 2, 0, 0, 0, 1, 0⟩]
def qD : List Oc := [⟨9, 1, 0, 0, 0, 5, 0⟩, ⟨5, 1, 2, 0, 0, 5, 0⟩, ⟨3, 2, 0, 3, 0, 0, 0⟩, ⟨10, 1, 0, 0, 0, 0, 0⟩]
def qE : List Oc := [⟨8, 1, 0, 8, 0, 0, 0⟩, ⟨8, 1, 0, 3, 0, 0, 0⟩]
def qA4 : List Oc := w4 ++ qA
def qB4 : List Oc := w4 ++ qB
def qD4 : List Oc := w4 ++ qD
def qE4 : List Oc := w4 ++ qE
theorem qA_n : tlN qA4 = 6 := by decide +kernel
theorem qA_e : (trE qA4).1 = 0 := by decide +kernel
theorem qB_n : tlN qB4 = 6 := by decide +kernel
theorem qB_e : (trE qB4).1 = 0 := by decide +kernel
theorem qC_n : tlN qC = 1 := by decide +kernel
theorem qC_e : (trE qC).1 = 0 := by decide +kernel
theorem qD_n : tlN qD4 = 8 := by decide +kernel
theorem qD_e : (trE qD4).1 = 0 := by decide +kernel
theorem qE_n : tlN qE4 = 5 := by decide +kernel
theorem qE_e : (trE qE4).1 = 0 := by decide +kernel
theorem qD_a : alvR qD4 = (.tup [.row 0 1 0 1, iv 0], [.rows 3 1 [[.int .i64 2]]]) := by
  have e : afE qD4 = 0 := by decide +kernel
  have f : (afT qD4).m.1 = [false, true, false, false, false, false, false, false] := by decide +kernel
  unfold alvR
  rw [if_pos e, f]
  rfl
def knwS : Spec := { rel := fun args ins res outs => args = [] ∧ ins = [] ∧ res = bv true ∧ outs = [] }
set_option maxHeartbeats 4000000 in
theorem knw_ok : Ok Try.prog 3 knwS := by
  refine fn_ok knwS Try.func3 rfl rfl ?_
  rintro args ins res outs ⟨rfl, rfl, rfl, rfl⟩
  refine ⟨by simp [Try.ntmps3], fun w0 V Bo mu0 => ?_⟩
  have V0 : alvS.rel [ocL qD4] [] (.tup [.row 0 1 0 1, iv 0]) [.rows 3 1 [[.int .i64 2]]] := ⟨qD4, by decide, by decide +kernel, rfl, rfl, by rw [qD_a], by rw [qD_a]⟩
  have alv_at := V0
  have Smi_at := Smi_at [2] [2] (by decide) (by decide)
  rw [decide_eq_true (rfl : ([2] : List Int) = [2])] at Smi_at
  repeat' (first
    | (with_reducible first | refine W_seq ?_ | refine W_condT rfl ?_ | refine W_condF rfl ?_ | refine W_tf rfl (fun h => ?_) (fun h => ?_) | refine endQ_ret ?_ | refine endQ_normal ?_)
    | ((with_reducible first | refine hK _ ?_ | refine hK _ _ ?_); clear hK K)
    | ((first | (with_reducible first | refine ops_cons (fun K hK => ?_) | refine ops_nil ?_) | with_reducible refine callV_snap ?_ | ((with_reducible refine call_go firS fir_ok ?_); refine ⟨(by first | exact alOk_nil _ | exact alOk_f rfl), _, _, fir_at qA qA4 (by decide) rfl, ?_⟩) | ((with_reducible refine call_go firS fir_ok ?_); refine ⟨(by first | exact alOk_nil _ | exact alOk_f rfl), _, _, fir_at qB qB4 (by decide) rfl, ?_⟩) | ((with_reducible refine call_go firS fir_ok ?_); refine ⟨(by first | exact alOk_nil _ | exact alOk_f rfl), _, _, fir_at qD qD4 (by decide) rfl, ?_⟩) | ((with_reducible refine call_go firS fir_ok ?_); refine ⟨(by first | exact alOk_nil _ | exact alOk_f rfl), _, _, fir_at qE qE4 (by decide) rfl, ?_⟩) | ((with_reducible refine call_go allS all_ok ?_); refine ⟨(by first | exact alOk_nil _ | exact alOk_f rfl), _, _, all_at 6 qA4 (by decide) qA_n qA_e, ?_⟩) | ((with_reducible refine call_go allS all_ok ?_); refine ⟨(by first | exact alOk_nil _ | exact alOk_f rfl), _, _, all_at 6 qB4 (by decide) qB_n qB_e, ?_⟩) | ((with_reducible refine call_go allS all_ok ?_); refine ⟨(by first | exact alOk_nil _ | exact alOk_f rfl), _, _, all_at 1 qC (by decide) qC_n qC_e, ?_⟩) | ((with_reducible refine call_go allS all_ok ?_); refine ⟨(by first | exact alOk_nil _ | exact alOk_f rfl), _, _, all_at 8 qD4 (by decide) qD_n qD_e, ?_⟩) | ((with_reducible refine call_go allS all_ok ?_); refine ⟨(by first | exact alOk_nil _ | exact alOk_f rfl), _, _, all_at 5 qE4 (by decide) qE_n qE_e, ?_⟩) | ((with_reducible refine call_go alvS alv_ok ?_); refine ⟨(by first | exact alOk_nil _ | exact alOk_f rfl), _, _, alv_at , ?_⟩) | ((with_reducible refine call_go SmiS Smi_ok ?_); refine ⟨(by first | exact alOk_nil _ | exact alOk_f rfl), _, _, Smi_at , ?_⟩) | ((with_reducible refine call_go awkS awk_ok ?_); refine ⟨(by first | exact alOk_nil _ | exact alOk_f rfl), _, _, awk_at , ?_⟩) | (with_reducible first | refine W_reg lv3MdV ?_ | refine W_skip ?_ | refine W_ret ?_ | refine end_at0 ?_) | (with_reducible refine And.intro (fun h => ?_) (fun h => ?_)) | (with_reducible refine And.intro (by omega) ?_)); (try simp only [go_sem, seval, reduceCtorEq, lv3MdV, Try.ntmps3, Try.results3, knwS]))
    | fail)
  all_goals trace_state
end Go.Proofs.Ytnclclpfmldocaa
