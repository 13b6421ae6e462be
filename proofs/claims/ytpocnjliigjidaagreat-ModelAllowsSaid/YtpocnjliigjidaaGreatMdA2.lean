import Derived.Test.YtpocnjliigjidaaGreatMdL
import Derived.Test.YtpocnjliigjidaaGreatMdU
/- Who lives behind a trace; ModelKnown. -/
namespace Go.Proofs.YtpocnjliigjidaaGreat
open Go.RowKit
set_option maxRecDepth 100000
set_option linter.unusedSimpArgs false
set_option linter.unusedVariables false
abbrev lv17MdV : List (Nat × List Nat) := [(0, [0]), (1, [4, 5]), (2, [4, 5, 15]), (3, [2, 3]), (4, [4, 6]), (5, [6, 19, 20, 21]), (6, [6, 19, 20, 21, 22]), (7, [6, 7, 8, 19, 20, 21]), (8, [6, 7, 19, 20, 21, 26]), (9, [6, 19, 20, 21]), (10, [6, 19, 20, 21]), (11, [2, 3])]
abbrev lv19MdV : List (Nat × List Nat) := [(0, [0, 1]), (1, [0, 1, 10]), (2, [4]), (3, [0, 1, 5]), (4, [0, 1, 5, 14]), (5, [0, 1, 5]), (6, [0, 1, 5, 25]), (7, [4]), (8, [4])]
def SmiS : Spec := { rel := fun args ins res outs => ∃ (a b : List Int), a.length ≤ 1000000 ∧ b.length ≤ 1000000 ∧ args = [.d (.sl (a.map encDI)), .d (.sl (b.map encDI))] ∧ ins = [] ∧ res = bv (decide (a = b)) ∧ outs = [] }
theorem Smi_at (a b : List Int) (h1 : a.length ≤ 1000000) (h2 : b.length ≤ 1000000) : SmiS.rel [.d (.sl (a.map encDI)), .d (.sl (b.map encDI))] [] (bv (decide (a = b))) [] := ⟨a, b, h1, h2, rfl, rfl, rfl, rfl⟩
set_option maxHeartbeats 1000000 in
theorem Smi_ok : Ok Tryz.prog 19 SmiS := by
  refine fn_ok SmiS Tryz.func19 rfl rfl ?_
  rintro args ins res outs ⟨a, b, h1, h2, rfl, rfl, rfl, rfl⟩
  refine ⟨by simp [Tryz.ntmps19], fun w0 V Bo mu0 => ?_⟩
  by_cases hl : a.length = b.length
  case neg =>
    have hl' : ¬ (a.length : Int) = (b.length : Int) := by omega
    rw [decide_eq_false (fun e : a = b => hl (by rw [e]))]
    repeat' (first | refine sA ?_ | with_reducible refine W_tf rfl (fun h => ?_) (fun h => ?_) | ((with_reducible first | refine hK _ ?_ | refine hK _ _ ?_); clear hK K) | ((first | refine sB ?_ | (with_reducible first | refine ops_cons (fun K hK => ?_) | refine opsd_cons (fun K hK => ?_) | refine W_reg lv19MdV ?_ | refine W_drw lv19MdV (by kernel_rfl) ?_) | ((with_reducible refine opsd_nil ?_); refine And.intro (by kernel_rfl) ?_) | with_reducible refine callV_snap ?_ | with_reducible refine And.intro (fun h => ?_) (fun h => ?_) | with_reducible refine And.intro (by omega) ?_); (try simp only [go_sem, seval, reduceCtorEq, hl', lv19MdV, Tryz.ntmps19, Tryz.results19, SmiS])) | fail)
  have hl' : (a.length : Int) = (b.length : Int) := by omega
  repeat' (first | refine sA ?_ | with_reducible refine W_tf rfl (fun h => ?_) (fun h => ?_) | ((with_reducible first | refine hK _ ?_ | refine hK _ _ ?_); clear hK K) | ((first | refine sB ?_ | (with_reducible first | refine ops_cons (fun K hK => ?_) | refine opsd_cons (fun K hK => ?_) | refine W_reg lv19MdV ?_ | refine W_drw lv19MdV (by kernel_rfl) ?_) | ((with_reducible refine opsd_nil ?_); refine And.intro (by kernel_rfl) ?_) | with_reducible refine callV_snap ?_ | with_reducible refine And.intro (fun h => ?_) (fun h => ?_) | with_reducible refine And.intro (by omega) ?_); (try simp only [go_sem, seval, reduceCtorEq, hl', lv19MdV, Tryz.ntmps19, Tryz.results19, SmiS])) | fail)
  refine W_loop (fun i : Nat => ⟨[(0, .d (.sl (a.map encDI))), (1, .d (.sl (b.map encDI))), (5, iv (i : Int))], []⟩) (fun i => i ≤ a.length ∧ ∀ j (g1 : j < a.length) (g2 : j < b.length), j < i → a[j] = b[j]) (fun i => a.length - i) 0 ⟨Nat.zero_le _, fun j _ _ h => absurd h (Nat.not_lt_zero _)⟩ [] ?_ ?_
  · simp [go_sem]
  rintro i ⟨hi, hg⟩
  by_cases hlt : i < a.length
  · have hki : (i : Int) < (b.length : Int) := by omega
    have hlb : i < b.length := by omega
    obtain ⟨x, hx⟩ : ∃ x, a[i] = x := ⟨_, rfl⟩
    obtain ⟨y, hy⟩ : ∃ y, b[i] = y := ⟨_, rfl⟩
    have e0 : encDI a[i] = [.int .i64 x] := by rw [hx]; rfl
    have e1 : encDI b[i] = [.int .i64 y] := by rw [hy]; rfl
    by_cases he : x = y
    · subst he
      repeat' (first | refine sA ?_ | with_reducible refine W_tf rfl (fun h => ?_) (fun h => ?_) | ((with_reducible first | refine hK _ ?_ | refine hK _ _ ?_); clear hK K) | ((first | refine sB ?_ | (with_reducible first | refine ops_cons (fun K hK => ?_) | refine opsd_cons (fun K hK => ?_) | refine W_reg lv19MdV ?_ | refine W_drw lv19MdV (by kernel_rfl) ?_) | ((with_reducible refine opsd_nil ?_); refine And.intro (by kernel_rfl) ?_) | with_reducible refine callV_snap ?_ | with_reducible refine And.intro (fun h => ?_) (fun h => ?_) | with_reducible refine And.intro (by omega) ?_); (try simp only [go_sem, seval, reduceCtorEq, hl', hki, e0, e1, lv19MdV, Tryz.ntmps19, Tryz.results19, SmiS])) | fail)
      refine ⟨i + 1, [], ⟨by omega, fun j g1 g2 h => ?_⟩, by omega, ?_⟩
      · by_cases hj : j = i
        · subst hj; rw [hx, hy]
        · exact hg j g1 g2 (by omega)
      · simp [go_sem]
    · have he' : ¬ x = y := he
      rw [decide_eq_false (ne_take hlt hlb (by rw [hx, hy]; exact he))]
      repeat' (first | refine sA ?_ | with_reducible refine W_tf rfl (fun h => ?_) (fun h => ?_) | ((with_reducible first | refine hK _ ?_ | refine hK _ _ ?_); clear hK K) | ((first | refine sB ?_ | (with_reducible first | refine ops_cons (fun K hK => ?_) | refine opsd_cons (fun K hK => ?_) | refine W_reg lv19MdV ?_ | refine W_drw lv19MdV (by kernel_rfl) ?_) | ((with_reducible refine opsd_nil ?_); refine And.intro (by kernel_rfl) ?_) | with_reducible refine callV_snap ?_ | with_reducible refine And.intro (fun h => ?_) (fun h => ?_) | with_reducible refine And.intro (by omega) ?_); (try simp only [go_sem, seval, reduceCtorEq, hl', hki, e0, e1, he', lv19MdV, Tryz.ntmps19, Tryz.results19, SmiS])) | fail)
  · have hki : ¬ (i : Int) < (b.length : Int) := by omega
    rw [decide_eq_true (eq_get hl fun j g1 g2 => hg j g1 g2 (by omega))]
    repeat' (first | refine sA ?_ | with_reducible refine W_tf rfl (fun h => ?_) (fun h => ?_) | ((with_reducible first | refine hK _ ?_ | refine hK _ _ ?_); clear hK K) | ((first | refine sB ?_ | (with_reducible first | refine ops_cons (fun K hK => ?_) | refine opsd_cons (fun K hK => ?_) | refine W_reg lv19MdV ?_ | refine W_drw lv19MdV (by kernel_rfl) ?_) | ((with_reducible refine opsd_nil ?_); refine And.intro (by kernel_rfl) ?_) | with_reducible refine callV_snap ?_ | with_reducible refine And.intro (fun h => ?_) (fun h => ?_) | with_reducible refine And.intro (by omega) ?_); (try simp only [go_sem, seval, reduceCtorEq, hl', hki, lv19MdV, Tryz.ntmps19, Tryz.results19, SmiS])) | fail)
def alvP (al : List Bool) : Nat → List Int
  | 0 => []
  | i + 1 => alvP al i ++ if al[i]?.getD false = true then [(i : Int) + 1] else []
theorem alvP_len (al : List Bool) : ∀ i, (alvP al i).length ≤ i
  | 0 => Nat.le_refl _
  | i + 1 => by
    have := alvP_len al i
    rw [alvP, List.length_append]
    split <;> simp <;> omega
def alvR (l : List Oc) : AV × List Ob := if afE l = 0 then (.tup [.row 0 1 0 (alvP (afT l).m.1 (afT l).m.1.length).length, iv 0], [.rows 3 1 ((alvP (afT l).m.1 (afT l).m.1.length).map encDI)]) else (.tup [.nil, iv (afE l)], [])
def alvS : Spec := { rel := fun args ins res outs => ∃ l : List Oc, l.length ≤ 1000000 ∧ (afT l).m.1.length ≤ 8 ∧ args = [ocL l] ∧ ins = [] ∧ res = (alvR l).1 ∧ outs = (alvR l).2 }
set_option maxHeartbeats 1000000 in
theorem alv_ok : Ok Tryz.prog 17 alvS := by
  refine fn_ok alvS Tryz.func17 rfl rfl ?_
  rintro args ins res outs ⟨l, hl, h8, rfl, rfl, rfl, rfl⟩
  refine ⟨by simp [Tryz.ntmps17], fun w0 V Bo mu0 => ?_⟩
  have A0 := aftr_at l hl
  by_cases he : afE l = 0
  case neg =>
    have hr : alvR l = (.tup [.nil, iv (afE l)], []) := if_neg he
    rw [hr]
    generalize afE l = E at *
    generalize afT l = S at *
    have aftr_at : aftrS.rel [ocL l] [] (.tup [syA S, iv E]) [] := A0
    repeat' (first | refine sA ?_ | with_reducible refine W_tf rfl (fun h => ?_) (fun h => ?_) | ((with_reducible first | refine hK _ ?_ | refine hK _ _ ?_); clear hK K) | ((first | refine sB ?_ | (with_reducible first | refine ops_cons (fun K hK => ?_) | refine W_reg lv17MdV ?_) | with_reducible refine callV_snap ?_ | ((with_reducible refine call_go aftrS aftr_ok ?_); refine ⟨alk, _, _, aftr_at , ?_⟩) | with_reducible refine And.intro (fun h => ?_) (fun h => ?_) | with_reducible refine And.intro (by omega) ?_); (try simp only [go_sem, seval, reduceCtorEq, he, lv17MdV, Tryz.ntmps17, Tryz.results17, alvS])) | fail)
  have hr : alvR l = (.tup [.row 0 1 0 (alvP (afT l).m.1 (afT l).m.1.length).length, iv 0], [.rows 3 1 ((alvP (afT l).m.1 (afT l).m.1.length).map encDI)]) := if_pos he
  rw [hr]
  rw [he] at A0
  generalize afT l = S at *
  have aftr_at : aftrS.rel [ocL l] [] (.tup [syA S, iv 0]) [] := A0
  repeat' (first | refine sA ?_ | with_reducible refine W_tf rfl (fun h => ?_) (fun h => ?_) | ((with_reducible first | refine hK _ ?_ | refine hK _ _ ?_); clear hK K) | ((first | refine sB ?_ | (with_reducible first | refine ops_cons (fun K hK => ?_) | refine W_reg lv17MdV ?_) | with_reducible refine callV_snap ?_ | ((with_reducible refine call_go aftrS aftr_ok ?_); refine ⟨alk, _, _, aftr_at , ?_⟩) | with_reducible refine And.intro (fun h => ?_) (fun h => ?_) | with_reducible refine And.intro (by omega) ?_); (try simp only [go_sem, seval, reduceCtorEq, lv17MdV, Tryz.ntmps17, Tryz.results17, alvS])) | fail)
  refine W_adopt 6 3 1 (by decide) (by simp [go_sem]) ?_
  refine W_loop (fun i : Nat => ⟨[(6, .row 0 1 0 (alvP S.m.1 i).length), (19, .d (.sl (S.m.1.map encDB))), (20, iv (S.m.1.length : Int)), (21, iv (i : Int))], [some (.rows 3 1 ((alvP S.m.1 i).map encDI))]⟩) (fun i => i ≤ S.m.1.length) (fun i => S.m.1.length - i) 0 (Nat.zero_le _) [1] ?_ ?_
  · simp [go_sem, alvP]
  intro i hi
  have hlen := alvP_len S.m.1 i
  by_cases hlt : i < S.m.1.length
  · have hki : (i : Int) < S.m.1.length := by omega
    have hs : alvP S.m.1 (i + 1) = alvP S.m.1 i ++ if S.m.1[i]?.getD false = true then [(i : Int) + 1] else [] := rfl
    rw [List.getElem?_eq_getElem hlt, Option.getD_some] at hs
    cases hb : S.m.1[i] with
    | true =>
      have e0 : encDB S.m.1[i] = [.bool true] := by rw [hb]; rfl
      rw [hb, if_pos rfl] at hs
      repeat' (first | refine sA ?_ | with_reducible refine W_tf rfl (fun h => ?_) (fun h => ?_) | ((with_reducible first | refine hK _ ?_ | refine hK _ _ ?_); clear hK K) | ((first | refine sB ?_ | (with_reducible first | refine ops_cons (fun K hK => ?_) | refine W_reg lv17MdV ?_) | with_reducible refine callV_snap ?_ | with_reducible refine And.intro (fun h => ?_) (fun h => ?_) | with_reducible refine And.intro (by omega) ?_); (try simp only [go_sem, seval, reduceCtorEq, hki, e0, lv17MdV, Tryz.ntmps17, Tryz.results17, alvS])) | fail)
      refine ⟨i + 1, [2], by omega, by omega, ?_⟩
      simp only [hs]
      simp [go_sem, encDI]
    | false =>
      have e0 : encDB S.m.1[i] = [.bool false] := by rw [hb]; rfl
      rw [hb, if_neg (by decide), List.append_nil] at hs
      repeat' (first | refine sA ?_ | with_reducible refine W_tf rfl (fun h => ?_) (fun h => ?_) | ((with_reducible first | refine hK _ ?_ | refine hK _ _ ?_); clear hK K) | ((first | refine sB ?_ | (with_reducible first | refine ops_cons (fun K hK => ?_) | refine W_reg lv17MdV ?_) | with_reducible refine callV_snap ?_ | with_reducible refine And.intro (fun h => ?_) (fun h => ?_) | with_reducible refine And.intro (by omega) ?_); (try simp only [go_sem, seval, reduceCtorEq, hki, e0, lv17MdV, Tryz.ntmps17, Tryz.results17, alvS])) | fail)
      refine ⟨i + 1, [0], by omega, by omega, ?_⟩
      simp [go_sem, hs]
  · have hki : ¬ (i : Int) < S.m.1.length := by omega
    obtain rfl : i = S.m.1.length := by omega
    repeat' (first | refine sA ?_ | with_reducible refine W_tf rfl (fun h => ?_) (fun h => ?_) | ((with_reducible first | refine hK _ ?_ | refine hK _ _ ?_); clear hK K) | ((first | refine sC ?_ | (with_reducible first | refine ops_cons (fun K hK => ?_) | refine W_reg lv17MdV ?_) | with_reducible refine callV_snap ?_ | with_reducible refine And.intro (fun h => ?_) (fun h => ?_) | with_reducible refine And.intro (by omega) ?_); (try simp only [go_sem, seval, reduceCtorEq, hki, lv17MdV, Tryz.ntmps17, Tryz.results17, alvS])) | fail)
    refine W_ret (endQ_ret (end_at [0] ?_))
    have := encI.flat (alvP S.m.1 S.m.1.length)
    simp [go_sem, Tryz.results17, alvS]
    simpa [flatD] using this
end Go.Proofs.YtpocnjliigjidaaGreat
namespace Go.Proofs.YtpocnjliigjidaaGreat
open Go.RowKit
set_option maxRecDepth 100000
set_option linter.unusedSimpArgs false
set_option linter.unusedVariables false
abbrev lv15MdA2 : List (Nat × List Nat) := [(0, [0]), (1, [4, 5]), (2, [4, 5, 16]), (3, [2, 3]), (4, [4, 6]), (5, [4, 6, 7]), (6, [6, 7, 20, 21, 22]), (7, [6, 7, 20, 21, 22, 23]), (8, [6, 7, 8, 9, 20, 21, 22]), (9, [6, 7, 8, 9, 20, 21, 22, 28]), (10, [6, 7, 8, 20, 21, 22]), (11, [6, 7, 20, 21, 22]), (12, [6, 7, 20, 21, 22]), (13, [7]), (14, [2, 3])]
def opT (W : List Nat) : Nat → List Pe
  | 0 => []
  | i + 1 => opT W i ++ if W[i]?.getD 0 = 0 then [] else [((i : Int) + 1, W[i]?.getD 0, (opT W i).length)]
theorem opT_get (W : List Nat) (k : Nat) : ∀ i, pget (opT W i) ((k : Int) + 1) = if k < i ∧ W[k]?.getD 0 ≠ 0 then some (W[k]?.getD 0) else none
  | 0 => by rw [if_neg (by omega)]; rfl
  | i + 1 => by
    rw [opT]
    by_cases h0 : W[i]?.getD 0 = 0
    · rw [if_pos h0, List.append_nil, opT_get W k i]
      by_cases hk : k = i
      · subst hk; rw [if_neg (by omega), if_neg (fun h => h.2 h0)]
      · by_cases hc : k < i ∧ W[k]?.getD 0 ≠ 0
        · rw [if_pos hc, if_pos ⟨by omega, hc.2⟩]
        · rw [if_neg hc, if_neg (fun h => hc ⟨by omega, h.2⟩)]
    · rw [if_neg h0, pget_app, opT_get W k i]
      show (if k < i ∧ W[k]?.getD 0 ≠ 0 then some (W[k]?.getD 0) else none : Option Nat).or (if (k : Int) + 1 = (i : Int) + 1 then some (W[i]?.getD 0) else none) = _
      by_cases hk : k = i
      · subst hk; rw [if_neg (by omega), if_pos rfl, if_pos ⟨by omega, h0⟩]; rfl
      · rw [if_neg (show ¬ (k : Int) + 1 = (i : Int) + 1 by omega)]
        by_cases hc : k < i ∧ W[k]?.getD 0 ≠ 0
        · rw [if_pos hc, if_pos ⟨by omega, hc.2⟩]; rfl
        · rw [if_neg hc, if_neg (fun h => hc ⟨by omega, h.2⟩)]; rfl
def srP (W : List Nat) : List Int := (wtP W 8).mergeSort fun a b => decide (tkO2 W a ≤ tkO2 W b)
theorem srP_perm (W : List Nat) : (srP W).Perm (wtP W 8) := List.mergeSort_perm _ _
theorem srP_le (W : List Nat) : (srP W).Pairwise fun a b => ¬ tkO2 W b < tkO2 W a := by
  have := List.pairwise_mergeSort (le := fun a b => decide (tkO2 W a ≤ tkO2 W b)) (fun a b c h1 h2 => by simp at *; omega) (fun a b => by simp; omega) (wtP W 8)
  refine this.imp fun {a b} h => ?_
  simp only [decide_eq_true_eq] at h
  omega
theorem srP_lt {s : Sy} (hs : Vs s) : (srP s.W).Pairwise fun a b => mT (opT s.W 8) a < mT (opT s.W 8) b := by
  have hmem : ∀ p ∈ srP s.W, ∃ k : Nat, k < 8 ∧ p = (k : Int) + 1 ∧ s.W[k]?.getD 0 ≠ 0 := fun p hp' => wtP_mem.1 ((srP_perm s.W).mem_iff.1 hp')
  have hnd : (srP s.W).Nodup := (srP_perm s.W).nodup_iff.2 (wtP_nodup _ _)
  have htk : ∀ k : Nat, tkO2 s.W ((k : Int) + 1) = s.W[k]?.getD 0 := fun k => by unfold tkO2; rw [show ((k : Int) + 1 - 1).toNat = k by omega]
  refine List.Pairwise.imp_of_mem (fun {x y} hx hy hxy => ?_) ((srP_le s.W).and hnd)
  obtain ⟨k, k1, rfl, k3⟩ := hmem x hx
  obtain ⟨j, j1, rfl, j3⟩ := hmem y hy
  rw [htk, htk] at hxy
  have hkj : k ≠ j := fun e => hxy.2 (by rw [e])
  have := hs.ne k j hkj k3
  unfold mT
  rw [opT_get, opT_get, if_pos ⟨k1, k3⟩, if_pos ⟨j1, j3⟩]
  simp only [Option.getD_some]
  omega
def mwA (l : List Oc) : AV × List Ob := if afE l = 0 then (.tup [.row 0 1 0 (srP (afT l).W).length, iv 0], [.rows 3 1 ((srP (afT l).W).map encDI)]) else (.tup [.nil, iv (afE l)], [])
def mwgS : Spec := { rel := fun args ins res outs => ∃ l : List Oc, l.length ≤ 1000000 ∧ (afE l = 0 → Vs (afT l)) ∧ args = [ocL l] ∧ ins = [] ∧ res = (mwA l).1 ∧ outs = (mwA l).2 }
set_option maxHeartbeats 4000000 in
theorem mwg_ok : Ok Tryz.prog 15 mwgS := by
  refine fn_ok mwgS Tryz.func15 rfl rfl ?_
  rintro args ins res outs ⟨l, hl, hvs, rfl, rfl, rfl, rfl⟩
  refine ⟨by simp [Tryz.ntmps15], fun w0 V Bo mu0 => ?_⟩
  have A0 := aftr_at l hl
  by_cases he : afE l = 0
  case neg =>
    have hr : mwA l = (.tup [.nil, iv (afE l)], []) := if_neg he
    rw [hr]
    generalize afE l = E at *
    generalize afT l = S at *
    have aftr_at : aftrS.rel [ocL l] [] (.tup [syA S, iv E]) [] := A0
    repeat' (first | refine sA ?_ | with_reducible refine W_tf rfl (fun h => ?_) (fun h => ?_) | ((with_reducible first | refine hK _ ?_ | refine hK _ _ ?_); clear hK K) | ((first | refine sB ?_ | (with_reducible first | refine ops_cons (fun K hK => ?_) | refine W_reg lv15MdA2 ?_) | with_reducible refine callV_snap ?_ | ((with_reducible refine call_go aftrS aftr_ok ?_); refine ⟨alk, _, _, aftr_at , ?_⟩) | with_reducible refine And.intro (fun h => ?_) (fun h => ?_) | with_reducible refine And.intro (by omega) ?_); (try simp only [go_sem, seval, reduceCtorEq, he, lv15MdA2, Tryz.ntmps15, Tryz.results15, mwgS])) | fail)
  have hr : mwA l = (.tup [.row 0 1 0 (srP (afT l).W).length, iv 0], [.rows 3 1 ((srP (afT l).W).map encDI)]) := if_pos he
  rw [hr]
  have hvs := hvs he
  rw [he] at A0
  generalize afT l = t at *
  have aftr_at : aftrS.rel [ocL l] [] (.tup [syA t, iv 0]) [] := A0
  have hlt8 := srP_lt hvs
  have hper := srP_perm t.W
  have hW8 := hvs.lw
  clear A0 hvs hr
  repeat' (first | refine sA ?_ | with_reducible refine W_tf rfl (fun h => ?_) (fun h => ?_) | ((with_reducible first | refine hK _ ?_ | refine hK _ _ ?_); clear hK K) | ((refine ext_imake rfl ?_ rfl ?_) <;> simp only [go_sem, seval, reduceCtorEq]) | ((first | refine sB ?_ | (with_reducible first | refine ops_cons (fun K hK => ?_) | refine W_reg lv15MdA2 ?_) | with_reducible refine callV_snap ?_ | ((with_reducible refine call_go aftrS aftr_ok ?_); refine ⟨alk, _, _, aftr_at , ?_⟩) | with_reducible refine And.intro (fun h => ?_) (fun h => ?_) | with_reducible refine And.intro (by omega) ?_); (try simp only [go_sem, seval, reduceCtorEq, lv15MdA2, Tryz.ntmps15, Tryz.results15, mwgS])) | fail)
  refine W_adopt 7 3 1 (by decide) (by simp [go_sem]) ?_
  obtain ⟨W, hWe⟩ : ∃ W, t.W = W := ⟨_, rfl⟩
  rw [hWe] at hlt8 hper hW8
  rw [hWe]
  refine W_loop (fun i : Nat => ⟨[(6, .ptr 1 0), (7, .row 0 1 0 (wtP W i).length), (20, .d (.sl (W.map encU))), (21, iv (W.length : Int)), (22, iv (i : Int))], [some (.rows 3 1 ((wtP W i).map encDI)), some mvB, some (imO ((opT W i).map puE) (opT W i).length)]⟩) (fun i => i ≤ W.length) (fun i => W.length - i) 0 (Nat.zero_le _) [3, 2, 1] ?_ ?_
  · simp [go_sem, wtP, opT]
  intro i hi
  have hlen := wtP_len W i
  by_cases hlt : i < W.length
  case neg =>
    obtain rfl : i = 8 := by omega
    have hki : ¬ (8 : Int) < (W.length : Int) := by omega
    have hsl : (srP W).length = (wtP W 8).length := hper.length_eq
    have srt_at := srt_at (wtP W 8) (srP W) (opT W 8) (opT W 8).length (by omega) hper hlt8
    generalize wtP W 8 = L at *
    generalize srP W = Q at *
    generalize (opT W 8).length = ck at *
    generalize opT W 8 = op at *
    repeat' (first | refine sA ?_ | with_reducible refine W_tf rfl (fun h => ?_) (fun h => ?_) | ((with_reducible first | refine hK _ ?_ | refine hK _ _ ?_); clear hK K) | ((first | refine sC ?_ | (with_reducible first | refine ops_cons (fun K hK => ?_) | refine W_reg lv15MdA2 ?_) | ((with_reducible refine callV_lend srtS [0,1,2] srt_ok rfl ?_); simp only [go_sem, seval, reduceCtorEq, hki, decide_true, Bool.and_self, lv15MdA2]; refine ⟨alk, rfl, _, _, srt_at , ?_⟩) | with_reducible refine callV_snap ?_ | with_reducible refine And.intro (fun h => ?_) (fun h => ?_) | with_reducible refine And.intro (by omega) ?_); (try simp only [go_sem, seval, reduceCtorEq, hki, decide_true, Bool.and_self, lv15MdA2, srtS, Tryz.ntmps15, Tryz.results15, mwgS])) | fail)
    refine W_ret (endQ_ret (end_at [0] ?_))
    have := encI.flat Q
    simp [go_sem, Tryz.results15, mwgS, hsl]
    simpa [flatD] using this
  have hki : (i : Int) < W.length := by omega
  have e0 : encU W[i] = [.int .u64 (W[i] : Int)] := rfl
  have e2 : W[i]?.getD 0 = W[i] := by simp [hlt]
  have hs : wtP W (i + 1) = wtP W i ++ if W[i] = 0 then [] else [(i : Int) + 1] := by rw [wtP, e2]
  have ho : opT W (i + 1) = opT W i ++ if W[i] = 0 then [] else [((i : Int) + 1, W[i], (opT W i).length)] := by rw [opT, e2]
  by_cases hw : W[i] = 0
  · have hw' : (W[i] : Int) = 0 := by omega
    rw [if_pos hw, List.append_nil] at hs ho
    repeat' (first | refine sA ?_ | with_reducible refine W_tf rfl (fun h => ?_) (fun h => ?_) | ((with_reducible first | refine hK _ ?_ | refine hK _ _ ?_); clear hK K) | ((first | refine sB ?_ | (with_reducible first | refine ops_cons (fun K hK => ?_) | refine W_reg lv15MdA2 ?_) | with_reducible refine callV_snap ?_ | with_reducible refine And.intro (fun h => ?_) (fun h => ?_) | with_reducible refine And.intro (by omega) ?_); (try simp only [go_sem, seval, reduceCtorEq, hki, e0, hw', lv15MdA2, Tryz.ntmps15, Tryz.results15, mwgS])) | fail)
    refine ⟨i + 1, [0, 1, 2], by omega, by omega, ?_⟩
    simp only [hs, ho]
    simp [go_sem]
  · have hw' : ¬ (W[i] : Int) = 0 := by omega
    rw [if_neg hw] at hs ho
    have hg : pget (opT W i) ((i : Int) + 1) = none := by rw [opT_get, if_neg (by omega)]
    have ip := iput_pu hg (opT W i).length W[i]
    repeat' (first | refine sA ?_ | with_reducible refine W_tf rfl (fun h => ?_) (fun h => ?_) | ((with_reducible first | refine hK _ ?_ | refine hK _ _ ?_); clear hK K) | ((refine ext_iput (.inl rfl) rfl rfl rfl rfl rfl (only_int _ _) rfl ?_); simp only [go_sem, seval, reduceCtorEq, ip]) | ((first | refine sB ?_ | (with_reducible first | refine ops_cons (fun K hK => ?_) | refine W_reg lv15MdA2 ?_) | with_reducible refine callV_snap ?_ | with_reducible refine And.intro (fun h => ?_) (fun h => ?_) | with_reducible refine And.intro (by omega) ?_); (try simp only [go_sem, seval, reduceCtorEq, hki, e0, hw', lv15MdA2, Tryz.ntmps15, Tryz.results15, mwgS])) | fail)
    refine ⟨i + 1, [4, 1, 2], by omega, by omega, ?_⟩
    simp only [hs, ho]
    simp [go_sem, encDI]
def Wd (W : List Nat) : Prop := W.length = 8 ∧ ∀ k j : Nat, k ≠ j → W[k]?.getD 0 ≠ 0 → W[k]?.getD 0 ≠ W[j]?.getD 0
theorem tkO2_at (W : List Nat) (k : Nat) : tkO2 W ((k : Int) + 1) = W[k]?.getD 0 := by unfold tkO2; rw [show ((k : Int) + 1 - 1).toNat = k by omega]
theorem srP_mem {W : List Nat} {p : Int} : p ∈ srP W ↔ ∃ k : Nat, k < 8 ∧ p = (k : Int) + 1 ∧ W[k]?.getD 0 ≠ 0 := (srP_perm W).mem_iff.trans wtP_mem
theorem srP_asc {W : List Nat} (h : Wd W) : (srP W).Pairwise fun a b => tkO2 W a < tkO2 W b := by
  have hnd : (srP W).Nodup := (srP_perm W).nodup_iff.2 (wtP_nodup _ _)
  refine List.Pairwise.imp_of_mem (fun {x y} hx hy hxy => ?_) ((srP_le W).and hnd)
  obtain ⟨k, k1, rfl, k3⟩ := srP_mem.1 hx
  obtain ⟨j, j1, rfl, j3⟩ := srP_mem.1 hy
  rw [tkO2_at, tkO2_at] at hxy ⊢
  have hkj : k ≠ j := fun e => hxy.2 (by rw [e])
  have := h.2 k j hkj k3
  omega
theorem asc_key (key : Int → Nat) : ∀ A B : List Int, A.Pairwise (fun a b => key a < key b) → B.Pairwise (fun a b => key a < key b) → (∀ n, n ∈ A ↔ n ∈ B) → A = B
  | [], [], _, _, _ => rfl
  | [], y :: B, _, _, h => absurd ((h y).2 (by simp)) (by simp)
  | x :: A, [], _, _, h => absurd ((h x).1 (by simp)) (by simp)
  | x :: A, y :: B, hA, hB, h => by
    obtain ⟨a1, a2⟩ := List.pairwise_cons.1 hA
    obtain ⟨b1, b2⟩ := List.pairwise_cons.1 hB
    have e : x = y := by
      rcases List.mem_cons.1 ((h x).1 (by simp)) with hx | hx
      · exact hx
      · rcases List.mem_cons.1 ((h y).2 (by simp)) with hy | hy
        · exact hy.symm
        · have := b1 x hx; have := a1 y hy; omega
    subst e
    rw [asc_key key A B a2 b2 fun n => ?_]
    constructor
    · intro hn
      rcases List.mem_cons.1 ((h n).1 (by simp [hn])) with e | e
      · have := a1 n hn; rw [e] at this; omega
      · exact e
    · intro hn
      rcases List.mem_cons.1 ((h n).2 (by simp [hn])) with e | e
      · have := b1 n hn; rw [e] at this; omega
      · exact e
theorem set_get0 {W : List Nat} {k : Nat} (hk : k < W.length) (j : Nat) : (W.set k 0)[j]?.getD 0 = if j = k then 0 else W[j]?.getD 0 := by
  rw [List.getElem?_set]
  by_cases h : k = j
  · subst h; rw [if_pos rfl, if_pos rfl, if_pos hk]; rfl
  · rw [if_neg h, if_neg (fun e => h e.symm)]
theorem wd_set {W : List Nat} {k : Nat} (h : Wd W) (hk : k < 8) : Wd (W.set k 0) := by
  have hkl : k < W.length := by rw [h.1]; exact hk
  refine ⟨by rw [List.length_set]; exact h.1, fun a b hab h0 => ?_⟩
  rw [set_get0 hkl] at h0 ⊢
  rw [set_get0 hkl]
  by_cases ha : a = k
  · rw [if_pos ha] at h0; exact absurd rfl h0
  · rw [if_neg ha] at h0 ⊢
    by_cases hb : b = k
    · rw [if_pos hb]; exact h0
    · rw [if_neg hb]; exact h.2 a b hab h0
theorem srP_min {W : List Nat} {k : Nat} (h : Wd W) (hk : k < 8) (h0 : W[k]?.getD 0 ≠ 0) (hm : ∀ j, j < 8 → W[j]?.getD 0 ≠ 0 → W[k]?.getD 0 ≤ W[j]?.getD 0) : srP W = ((k : Int) + 1) :: srP (W.set k 0) := by
  have hkl : k < W.length := by rw [h.1]; exact hk
  have hmem : ∀ p, p ∈ srP (W.set k 0) ↔ ∃ j : Nat, j < 8 ∧ p = (j : Int) + 1 ∧ j ≠ k ∧ W[j]?.getD 0 ≠ 0 := fun p => by
    rw [srP_mem]
    constructor
    · rintro ⟨j, j1, j2, j3⟩
      rw [set_get0 hkl] at j3
      by_cases e : j = k
      · rw [if_pos e] at j3; exact absurd rfl j3
      · rw [if_neg e] at j3; exact ⟨j, j1, j2, e, j3⟩
    · rintro ⟨j, j1, j2, e, j3⟩
      exact ⟨j, j1, j2, by rw [set_get0 hkl, if_neg e]; exact j3⟩
  refine asc_key (tkO2 W) _ _ (srP_asc h) (List.pairwise_cons.2 ⟨fun p hp => ?_, ?_⟩) fun n => ?_
  · obtain ⟨j, j1, rfl, e, j3⟩ := (hmem p).1 hp
    rw [tkO2_at, tkO2_at]
    have := hm j j1 j3
    have := h.2 k j (fun h => e h.symm) h0
    omega
  · refine List.Pairwise.imp_of_mem (fun {x y} hx hy hxy => ?_) (srP_asc (wd_set h hk))
    obtain ⟨i, i1, rfl, e, i3⟩ := (hmem x).1 hx
    obtain ⟨j, j1, rfl, e', j3⟩ := (hmem y).1 hy
    rw [tkO2_at, tkO2_at, set_get0 hkl, set_get0 hkl, if_neg e, if_neg e'] at hxy
    rw [tkO2_at, tkO2_at]
    exact hxy
  · rw [List.mem_cons, hmem, srP_mem]
    constructor
    · rintro ⟨j, j1, rfl, j3⟩
      by_cases e : j = k
      · exact .inl (by rw [e])
      · exact .inr ⟨j, j1, rfl, e, j3⟩
    · rintro (rfl | ⟨j, j1, rfl, e, j3⟩)
      · exact ⟨k, hk, rfl, h0⟩
      · exact ⟨j, j1, rfl, j3⟩
theorem srP_nil {W : List Nat} (h : ∀ j, j < 8 → W[j]?.getD 0 = 0) : srP W = [] := by
  refine List.eq_nil_iff_forall_not_mem.2 fun p hp => ?_
  obtain ⟨k, k1, _, k3⟩ := srP_mem.1 hp
  exact k3 (h k k1)
theorem srP_len (W : List Nat) : (srP W).length ≤ 8 := by rw [(srP_perm W).length_eq]; exact wtP_len _ _
def mnP (W : List Nat) : Nat → Int
  | 0 => -1
  | i + 1 => if W[i]?.getD 0 ≠ 0 ∧ (mnP W i < 0 ∨ W[i]?.getD 0 < W[(mnP W i).toNat]?.getD 0) then (i : Int) else mnP W i
theorem mnP_lt (W : List Nat) : ∀ i, (mnP W i = -1 ∧ ∀ j, j < i → W[j]?.getD 0 = 0) ∨ ∃ k : Nat, mnP W i = (k : Int) ∧ k < i ∧ W[k]?.getD 0 ≠ 0 ∧ ∀ j, j < i → W[j]?.getD 0 ≠ 0 → W[k]?.getD 0 ≤ W[j]?.getD 0
  | 0 => .inl ⟨rfl, fun j h => absurd h (Nat.not_lt_zero _)⟩
  | i + 1 => by
    rw [mnP]
    rcases mnP_lt W i with ⟨h1, h2⟩ | ⟨k, h1, h2, h3, h4⟩
    · rw [h1]
      by_cases h0 : W[i]?.getD 0 = 0
      · rw [if_neg (fun h => h.1 h0)]
        refine .inl ⟨rfl, fun j hj => ?_⟩
        by_cases e : j = i
        · rw [e]; exact h0
        · exact h2 j (by omega)
      · rw [if_pos ⟨h0, .inl (by decide)⟩]
        refine .inr ⟨i, rfl, by omega, h0, fun j hj hj0 => ?_⟩
        by_cases e : j = i
        · rw [e]; exact Nat.le_refl _
        · exact absurd (h2 j (by omega)) hj0
    · rw [h1]
      by_cases hc : W[i]?.getD 0 ≠ 0 ∧ ((k : Int) < 0 ∨ W[i]?.getD 0 < W[(k : Int).toNat]?.getD 0)
      · rw [if_pos hc]
        rw [Int.toNat_natCast] at hc
        refine .inr ⟨i, rfl, by omega, hc.1, fun j hj hj0 => ?_⟩
        by_cases e : j = i
        · rw [e]; exact Nat.le_refl _
        · have := h4 j (by omega) hj0
          rcases hc.2 with h | h <;> omega
      · rw [if_neg hc]
        rw [Int.toNat_natCast] at hc
        refine .inr ⟨k, rfl, by omega, h3, fun j hj hj0 => ?_⟩
        by_cases e : j = i
        · subst e
          rcases Nat.lt_or_ge (W[j]?.getD 0) (W[k]?.getD 0) with h | h
          · exact absurd ⟨hj0, .inr h⟩ hc
          · exact h
        · exact h4 j (by omega) hj0
theorem vs_wd {s : Sy} (h : Vs s) : Wd s.W := ⟨h.lw, h.ne⟩
end Go.Proofs.YtpocnjliigjidaaGreat
