import Derived.Test.YtpocnjliigjidaaGreatMdP
/- A story that goes on: the teller's small methods. -/
namespace Go.Proofs.YtpocnjliigjidaaGreat
open Go.RowKit
set_option maxRecDepth 100000
set_option linter.unusedSimpArgs false
set_option linter.unusedVariables false
abbrev lv113MdF : List (Nat × List Nat) := [(0, [0, 2, 4]), (1, [0, 4, 8]), (2, [6]), (3, []), (4, [6])]
abbrev lv118MdF : List (Nat × List Nat) := [(0, [0, 3, 5, 6]), (1, [0, 5, 13]), (2, [8]), (3, []), (4, [8])]
abbrev lv68MdF : List (Nat × List Nat) := [(0, [0, 3]), (1, [0, 3, 10]), (2, [4]), (3, [0, 3, 5, 6]), (4, [4])]
abbrev lv69MdF : List (Nat × List Nat) := [(0, [0, 3]), (1, [0, 3, 10]), (2, [4]), (3, [0, 3, 5, 6]), (4, [4])]
abbrev lv70MdF : List (Nat × List Nat) := [(0, [0, 3]), (1, [0, 3, 10]), (2, [4]), (3, [0, 3, 5, 6]), (4, [4])]
abbrev lv74MdF : List (Nat × List Nat) := [(0, [0, 3]), (1, [0, 3, 17]), (2, [4]), (3, [0, 3, 5, 6]), (4, [4])]
abbrev tlO (s : Sy) : List Ob := [.box 76 [.d (.sl (s.m.1.map encDB)), .d (.sl (s.m.2.1.map encU)), .d (.sl (s.m.2.2.map encCl)), .row 1 1 0 s.W.length, wv (s.L : Int)], .rows 24 1 (s.W.map encU)]
def restsS : Spec := { al := true, rel := fun args ins res outs => ∃ (s : Sy) (k : Nat), k < s.W.length ∧ s.W.length = 8 ∧ args = [.ptr 0 0, iv ((k : Int) + 1)] ∧ ins = tlO s ∧ res = bv (decide (s.W[k]?.getD 0 = 0)) ∧ outs = tlO s }
theorem rests_at (s : Sy) (k : Nat) (h1 : k < s.W.length) (h2 : s.W.length = 8) {b : Bool} (h : decide (s.W[k]?.getD 0 = 0) = b) : restsS.rel [.ptr 0 0, iv ((k : Int) + 1)] (tlO s) (bv b) (tlO s) := ⟨s, k, h1, h2, rfl, rfl, by rw [h], rfl⟩
theorem rests_ok : Ok Tryz.prog 112 restsS := by
  refine fn_ok restsS Tryz.func112 rfl rfl ?_
  rintro args ins res outs ⟨s, k, hk, h8, rfl, rfl, rfl, rfl⟩
  refine ⟨by simp [Tryz.ntmps112], fun w0 V Bo mu0 => ?_⟩
  have hp1 : (k : Int) + 1 - 1 = (k : Int) := by omega
  have e0 : encU s.W[k] = [.int .u64 (s.W[k] : Int)] := rfl
  have e2 : s.W[k]?.getD 0 = s.W[k] := by simp [hk]
  have hki : (k : Int) < s.W.length := by omega
  rw [e2]
  by_cases hz : s.W[k] = 0
  · have hz' : ((s.W[k] : Nat) : Int) = 0 := by omega
    rw [decide_eq_true hz]
    repeat' (first | refine sA ?_ | ((with_reducible first | refine hK _ ?_ | refine hK _ _ ?_); clear hK K) | ((first | refine sC ?_ | (with_reducible first | refine ops_cons (fun K hK => ?_) | refine W_reg [(0, [0, 1]), (1, [4])] ?_) | with_reducible refine And.intro (fun h => ?_) (fun h => ?_) | with_reducible refine And.intro (by omega) ?_); (try simp only [go_sem, seval, reduceCtorEq, hp1, e0, hki, hz', Tryz.ntmps112, Tryz.results112, restsS])) | fail)
    refine W_ret (endQ_ret (end_at [0, 1] ?_))
    simp [go_sem, restsS]
  · have hz' : ¬ ((s.W[k] : Nat) : Int) = 0 := by omega
    rw [decide_eq_false hz]
    repeat' (first | refine sA ?_ | ((with_reducible first | refine hK _ ?_ | refine hK _ _ ?_); clear hK K) | ((first | refine sC ?_ | (with_reducible first | refine ops_cons (fun K hK => ?_) | refine W_reg [(0, [0, 1]), (1, [4])] ?_) | with_reducible refine And.intro (fun h => ?_) (fun h => ?_) | with_reducible refine And.intro (by omega) ?_); (try simp only [go_sem, seval, reduceCtorEq, hp1, e0, hki, hz', Tryz.ntmps112, Tryz.results112, restsS])) | fail)
    refine W_ret (endQ_ret (end_at [0, 1] ?_))
    simp [go_sem, restsS]
def awaitsS : Spec := { al := true, rel := fun args ins res outs => ∃ (s : Sy) (k : Nat) (K o g w : Int) (t v : Nat), k < s.W.length ∧ s.W.length = 8 ∧ args = [.ptr 0 0, ocA ⟨K, (k : Int) + 1, o, g, w, t, v⟩] ∧ ins = tlO s ∧ res = bv (decide (s.W[k]?.getD 0 = t)) ∧ outs = tlO s }
theorem awaits_at (s : Sy) (k : Nat) (K o g w : Int) (t v : Nat) (h1 : k < s.W.length) (h2 : s.W.length = 8) {b : Bool} (h : decide (s.W[k]?.getD 0 = t) = b) : awaitsS.rel [.ptr 0 0, ocA ⟨K, (k : Int) + 1, o, g, w, t, v⟩] (tlO s) (bv b) (tlO s) := ⟨s, k, K, o, g, w, t, v, h1, h2, rfl, rfl, by rw [h], rfl⟩
theorem awaits_ok : Ok Tryz.prog 117 awaitsS := by
  refine fn_ok awaitsS Tryz.func117 rfl rfl ?_
  rintro args ins res outs ⟨s, k, K, o, g, w, t, v, hk, h8, rfl, rfl, rfl, rfl⟩
  refine ⟨by simp [Tryz.ntmps117], fun w0 V Bo mu0 => ?_⟩
  have hp1 : (k : Int) + 1 - 1 = (k : Int) := by omega
  have e0 : encU s.W[k] = [.int .u64 (s.W[k] : Int)] := rfl
  have e2 : s.W[k]?.getD 0 = s.W[k] := by simp [hk]
  have hki : (k : Int) < s.W.length := by omega
  rw [e2]
  by_cases hz : s.W[k] = t
  · have hz' : ((s.W[k] : Nat) : Int) = (t : Int) := by omega
    rw [decide_eq_true hz]
    repeat' (first | refine sA ?_ | ((with_reducible first | refine hK _ ?_ | refine hK _ _ ?_); clear hK K) | ((first | refine sC ?_ | (with_reducible first | refine ops_cons (fun K hK => ?_) | refine opsd_cons (fun K hK => ?_) | refine W_reg [(0, [0, 3]), (1, [4])] ?_ | refine W_drw [(0, [0, 3]), (1, [4])] (by kernel_rfl) ?_) | ((with_reducible refine opsd_nil ?_); refine And.intro (by kernel_rfl) ?_) | with_reducible refine And.intro (fun h => ?_) (fun h => ?_) | with_reducible refine And.intro (by omega) ?_); (try simp only [go_sem, seval, reduceCtorEq, hp1, e0, hki, hz', Tryz.ntmps117, Tryz.results117, awaitsS])) | fail)
    refine W_ret (endQ_ret (end_at [0, 1] ?_))
    simp [go_sem, awaitsS]
  · have hz' : ¬ ((s.W[k] : Nat) : Int) = (t : Int) := by omega
    rw [decide_eq_false hz]
    repeat' (first | refine sA ?_ | ((with_reducible first | refine hK _ ?_ | refine hK _ _ ?_); clear hK K) | ((first | refine sC ?_ | (with_reducible first | refine ops_cons (fun K hK => ?_) | refine opsd_cons (fun K hK => ?_) | refine W_reg [(0, [0, 3]), (1, [4])] ?_ | refine W_drw [(0, [0, 3]), (1, [4])] (by kernel_rfl) ?_) | ((with_reducible refine opsd_nil ?_); refine And.intro (by kernel_rfl) ?_) | with_reducible refine And.intro (fun h => ?_) (fun h => ?_) | with_reducible refine And.intro (by omega) ?_); (try simp only [go_sem, seval, reduceCtorEq, hp1, e0, hki, hz', Tryz.ntmps117, Tryz.results117, awaitsS])) | fail)
    refine W_ret (endQ_ret (end_at [0, 1] ?_))
    simp [go_sem, awaitsS]
def livesTS : Spec := { al := true, rel := fun args ins res outs => ∃ (s : Sy) (k : Nat), k < s.m.1.length ∧ s.m.1.length = 8 ∧ args = [.ptr 0 0, iv ((k : Int) + 1)] ∧ ins = tlO s ∧ res = bv (s.m.1[k]?.getD false) ∧ outs = tlO s }
theorem livesT_at (s : Sy) (k : Nat) (h1 : k < s.m.1.length) (h2 : s.m.1.length = 8) {b : Bool} (h : s.m.1[k]?.getD false = b) : livesTS.rel [.ptr 0 0, iv ((k : Int) + 1)] (tlO s) (bv b) (tlO s) := ⟨s, k, h1, h2, rfl, rfl, by rw [h], rfl⟩
theorem livesT_ok : Ok Tryz.prog 123 livesTS := by
  refine fn_ok livesTS Tryz.func123 rfl rfl ?_
  rintro args ins res outs ⟨s, k, hk, h8, rfl, rfl, rfl, rfl⟩
  refine ⟨by simp [Tryz.ntmps123], fun w0 V Bo mu0 => ?_⟩
  have hp1 : (k : Int) + 1 - 1 = (k : Int) := by omega
  have e0 : encDB s.m.1[k] = [.bool s.m.1[k]] := rfl
  have e2 : s.m.1[k]?.getD false = s.m.1[k] := by simp [hk]
  have hki : (k : Int) < s.m.1.length := by omega
  rw [e2]
  repeat' (first | refine sA ?_ | ((with_reducible first | refine hK _ ?_ | refine hK _ _ ?_); clear hK K) | ((first | refine sC ?_ | (with_reducible first | refine ops_cons (fun K hK => ?_) | refine W_reg [(0, [0, 1]), (1, [4])] ?_) | with_reducible refine And.intro (fun h => ?_) (fun h => ?_) | with_reducible refine And.intro (by omega) ?_); (try simp only [go_sem, seval, reduceCtorEq, hp1, e0, hki, Tryz.ntmps123, Tryz.results123, livesTS])) | fail)
  refine W_ret (endQ_ret (end_at [0, 1] ?_))
  simp [go_sem, livesTS]
def becomeS : Spec := { al := true, rel := fun args ins res outs => ∃ (s : Sy) (A : List Bool) (M : List Nat) (C : List Cl) (e : Int), args = [.ptr 0 0, fm A M C, iv e] ∧ ins = tlO s ∧ res = bv (decide (e = 0)) ∧ outs = tlO (if e = 0 then ⟨(A, M, C), s.W, s.L⟩ else s) }
theorem become_t (s : Sy) (A : List Bool) (M : List Nat) (C : List Cl) : becomeS.rel [.ptr 0 0, fm A M C, iv 0] (tlO s) (bv true) (tlO ⟨(A, M, C), s.W, s.L⟩) := ⟨s, A, M, C, 0, rfl, rfl, rfl, rfl⟩
theorem become_f (s : Sy) (A : List Bool) (M : List Nat) (C : List Cl) (e : Int) (h : e ≠ 0) : becomeS.rel [.ptr 0 0, fm A M C, iv e] (tlO s) (bv false) (tlO s) := ⟨s, A, M, C, e, rfl, rfl, by rw [decide_eq_false h], by rw [if_neg h]⟩
theorem become_ok : Ok Tryz.prog 113 becomeS := by
  refine fn_ok becomeS Tryz.func113 rfl rfl ?_
  rintro args ins res outs ⟨s, A, M, C, e, rfl, rfl, rfl, rfl⟩
  refine ⟨by simp [Tryz.ntmps113], fun w0 V Bo mu0 => ?_⟩
  by_cases he : e = 0
  · subst he
    rw [if_pos rfl]
    repeat' (first | refine sA ?_ | with_reducible refine W_tf rfl (fun h => ?_) (fun h => ?_) | ((with_reducible first | refine hK _ ?_ | refine hK _ _ ?_); clear hK K) | ((first | refine sC ?_ | (with_reducible first | refine ops_cons (fun K hK => ?_) | refine W_reg lv113MdF ?_) | with_reducible refine And.intro (fun h => ?_) (fun h => ?_) | with_reducible refine And.intro (by omega) ?_); (try simp only [go_sem, seval, reduceCtorEq, lv113MdF, Tryz.ntmps113, Tryz.results113, becomeS])) | fail)
    refine W_ret (endQ_ret (end_at [0, 1] ?_))
    simp [go_sem, becomeS]
  · rw [if_neg he, decide_eq_false he]
    repeat' (first | refine sA ?_ | with_reducible refine W_tf rfl (fun h => ?_) (fun h => ?_) | ((with_reducible first | refine hK _ ?_ | refine hK _ _ ?_); clear hK K) | ((first | refine sC ?_ | (with_reducible first | refine ops_cons (fun K hK => ?_) | refine W_reg lv113MdF ?_) | with_reducible refine And.intro (fun h => ?_) (fun h => ?_) | with_reducible refine And.intro (by omega) ?_); (try simp only [go_sem, seval, reduceCtorEq, he, lv113MdF, Tryz.ntmps113, Tryz.results113, becomeS])) | fail)
    refine W_ret (endQ_ret (end_at [0, 1] ?_))
    simp [go_sem, becomeS]
def endTS : Spec := { al := true, rel := fun args ins res outs => ∃ (s : Sy) (A : List Bool) (M : List Nat) (C : List Cl) (e : Int) (k : Nat) (K o g w : Int) (t v : Nat), k < s.W.length ∧ s.W.length = 8 ∧ args = [.ptr 0 0, ocA ⟨K, (k : Int) + 1, o, g, w, t, v⟩, fm A M C, iv e] ∧ ins = tlO s ∧ res = bv (decide (e = 0)) ∧ outs = tlO (if e = 0 then ⟨(A, M, C), s.W.set k 0, s.L⟩ else s) }
theorem end_t (s : Sy) (A : List Bool) (M : List Nat) (C : List Cl) (k : Nat) (K o g w : Int) (t v : Nat) (h1 : k < s.W.length) (h2 : s.W.length = 8) : endTS.rel [.ptr 0 0, ocA ⟨K, (k : Int) + 1, o, g, w, t, v⟩, fm A M C, iv 0] (tlO s) (bv true) (tlO ⟨(A, M, C), s.W.set k 0, s.L⟩) := ⟨s, A, M, C, 0, k, K, o, g, w, t, v, h1, h2, rfl, rfl, rfl, rfl⟩
theorem end_f (s : Sy) (A : List Bool) (M : List Nat) (C : List Cl) (e : Int) (he : e ≠ 0) (k : Nat) (K o g w : Int) (t v : Nat) (h1 : k < s.W.length) (h2 : s.W.length = 8) : endTS.rel [.ptr 0 0, ocA ⟨K, (k : Int) + 1, o, g, w, t, v⟩, fm A M C, iv e] (tlO s) (bv false) (tlO s) := ⟨s, A, M, C, e, k, K, o, g, w, t, v, h1, h2, rfl, rfl, by rw [decide_eq_false he], by rw [if_neg he]⟩
set_option maxHeartbeats 1000000 in
theorem endT_ok : Ok Tryz.prog 118 endTS := by
  refine fn_ok endTS Tryz.func118 rfl rfl ?_
  rintro args ins res outs ⟨s, A, M, C, e, k, K, o, g, w, t, v, hk, h8, rfl, rfl, rfl, rfl⟩
  refine ⟨by simp [Tryz.ntmps118], fun w0 V Bo mu0 => ?_⟩
  have hp1 : (k : Int) + 1 - 1 = (k : Int) := by omega
  by_cases he : e = 0
  · subst he
    rw [if_pos rfl]
    have e0 : encU s.W[k] = [.int .u64 (s.W[k] : Int)] := rfl
    have hset : ((s.W.map encU).set k [.int .u64 0]) = (s.W.set k 0).map encU := by rw [List.map_set]; rfl
    have hsl : (s.W.set k 0).length = s.W.length := List.length_set
    have become_at := become_t s A M C
    repeat' (first | refine sA ?_ | with_reducible refine W_tf rfl (fun h => ?_) (fun h => ?_) | ((with_reducible first | refine hK _ ?_ | refine hK _ _ ?_); clear hK K) | ((with_reducible refine idx_map2 hk ?_); simp only [go_sem, seval, reduceCtorEq, encU_len, e0, hset]) | ((first | refine sC ?_ | (with_reducible first | refine ops_cons (fun K hK => ?_) | refine opsd_cons (fun K hK => ?_) | refine W_reg lv118MdF ?_ | refine W_drw lv118MdF (by kernel_rfl) ?_) | ((with_reducible refine opsd_nil ?_); refine And.intro (by kernel_rfl) ?_) | ((with_reducible refine callV_lend becomeS [0,1] become_ok rfl ?_); simp only [go_sem, seval, reduceCtorEq, hp1, hset, e0, decide_true, Bool.and_self, lv118MdF]; refine ⟨alk, rfl, _, _, become_at , ?_⟩) | with_reducible refine callV_snap ?_ | with_reducible refine And.intro (fun h => ?_) (fun h => ?_) | with_reducible refine And.intro (by omega) ?_); (try simp only [go_sem, seval, reduceCtorEq, hp1, hset, e0, decide_true, Bool.and_self, lv118MdF, becomeS, Tryz.ntmps118, Tryz.results118, endTS])) | fail)
    refine W_ret (endQ_ret (end_at [0, 1] ?_))
    simp [go_sem, endTS, hsl]
  · rw [if_neg he, decide_eq_false he]
    have become_at := become_f s A M C e he
    repeat' (first | refine sA ?_ | with_reducible refine W_tf rfl (fun h => ?_) (fun h => ?_) | ((with_reducible first | refine hK _ ?_ | refine hK _ _ ?_); clear hK K) | ((first | refine sC ?_ | (with_reducible first | refine ops_cons (fun K hK => ?_) | refine opsd_cons (fun K hK => ?_) | refine W_reg lv118MdF ?_ | refine W_drw lv118MdF (by kernel_rfl) ?_) | ((with_reducible refine opsd_nil ?_); refine And.intro (by kernel_rfl) ?_) | ((with_reducible refine callV_lend becomeS [0,1] become_ok rfl ?_); simp only [go_sem, seval, reduceCtorEq, decide_true, Bool.and_self, he, lv118MdF]; refine ⟨alk, rfl, _, _, become_at , ?_⟩) | with_reducible refine callV_snap ?_ | with_reducible refine And.intro (fun h => ?_) (fun h => ?_) | with_reducible refine And.intro (by omega) ?_); (try simp only [go_sem, seval, reduceCtorEq, decide_true, Bool.and_self, he, lv118MdF, becomeS, Tryz.ntmps118, Tryz.results118, endTS])) | fail)
    refine W_ret (endQ_ret (end_at [0, 1] ?_))
    simp [go_sem, endTS]
end Go.Proofs.YtpocnjliigjidaaGreat
namespace Go.Proofs.YtpocnjliigjidaaGreat
open Go.RowKit
set_option maxRecDepth 100000
set_option linter.unusedSimpArgs false
set_option linter.unusedVariables false
def RuR (n : Nat) (args : List AV) (ins : List Ob) (res : AV) (outs : List Ob) : Prop := ∃ (s : Sy) (x : Oc), Vs s ∧ ocE x = 0 ∧ x.k = (n : Int) ∧ args = [.ptr 0 0, ocA x] ∧ ins = tlO s ∧ res = bv (nx s x).isSome ∧ outs = tlO ((nx s x).getD s)
theorem ru_pre {s : Sy} {x : Oc} {n : Nat} (hv : Vs s) (h0 : ocE x = 0) (hk : x.k = (n : Int)) : ∃ (al : List Bool) (mp : List Nat) (cs : List Cl) (W : List Nat) (L q : Nat) (o g w : Int) (t v : Nat), s = ⟨(al, mp, cs), W, L⟩ ∧ x = ⟨(n : Int), (q : Int) + 1, o, g, w, t, v⟩ ∧ q < 8 ∧ W.length = 8 ∧ al.length = 8 ∧ mp.length = 8 ∧ cs.length ≤ 4096 ∧ U64 mp ∧ fitO ⟨(n : Int), (q : Int) + 1, o, g, w, t, v⟩ = true ∧ unuO ⟨(n : Int), (q : Int) + 1, o, g, w, t, v⟩ = true := by
  obtain ⟨k1, k2, p1, p2, hf, hu⟩ := oc_kind h0
  have l1 := vl_len hv.v
  have l2 := hv.v.la
  have l3 := hv.v.lm
  have l4 := hv.v.u
  have l5 := hv.lw
  obtain ⟨⟨al, mp, cs⟩, W, L⟩ := s
  obtain ⟨K, p, o, g, w, t, v⟩ := x
  dsimp only at hk p1 p2
  obtain ⟨q, hq, rfl⟩ : ∃ q : Nat, q < 8 ∧ p = (q : Int) + 1 := ⟨(p - 1).toNat, by omega, by omega⟩
  subst hk
  exact ⟨al, mp, cs, W, L, q, o, g, w, t, v, rfl, rfl, hq, l5, l2, l3, l1, l4, hf, hu⟩
theorem set_self {W : List Nat} {q : Nat} (h : W[q]?.getD 0 = 0) : W.set q 0 = W := by
  by_cases hq : q < W.length
  · rw [List.getElem?_eq_getElem hq, Option.getD_some] at h
    apply List.ext_getElem (by simp)
    intro i h1 h2
    rw [List.getElem_set]
    split
    · rename_i e; subst e; exact h.symm
    · rfl
  · rw [List.set_eq_of_length_le (by omega)]
def Ru1S : Spec := { al := true, rel := fun args ins res outs => RuR 1 args ins res outs }
def Ru2S : Spec := { al := true, rel := fun args ins res outs => RuR 2 args ins res outs }
def Ru3S : Spec := { al := true, rel := fun args ins res outs => RuR 3 args ins res outs }
def Ru4S : Spec := { al := true, rel := fun args ins res outs => RuR 4 args ins res outs }
def Ru5S : Spec := { al := true, rel := fun args ins res outs => RuR 5 args ins res outs }
def Ru6S : Spec := { al := true, rel := fun args ins res outs => RuR 6 args ins res outs }
def Ru7S : Spec := { al := true, rel := fun args ins res outs => RuR 7 args ins res outs }
def Ru8S : Spec := { al := true, rel := fun args ins res outs => RuR 8 args ins res outs }
def Ru9S : Spec := { al := true, rel := fun args ins res outs => RuR 9 args ins res outs }
def Ru10S : Spec := { al := true, rel := fun args ins res outs => RuR 10 args ins res outs }
def Ru11S : Spec := { al := true, rel := fun args ins res outs => RuR 11 args ins res outs }
set_option maxHeartbeats 4000000 in
theorem ru1_ok : Ok Tryz.prog 65 Ru1S := by
  refine fn_ok Ru1S Tryz.func65 rfl rfl ?_
  rintro args ins res outs ⟨s, x, hv, h0, hk, rfl, rfl, rfl, rfl⟩
  refine ⟨by simp [Tryz.ntmps65], fun w0 V Bo mu0 => ?_⟩
  obtain ⟨al, mp, cs, W, L, q, o, g, w, t, v, rfl, rfl, hq, hW, l2, l3, l1, hu, hf, hz⟩ := ru_pre hv h0 hk
  obtain rfl : t = 0 := by simp [unuO] at hz; omega
  have hn : nx ⟨(al, mp, cs), W, L⟩ ⟨((1 : Nat) : Int), (q : Int) + 1, o, g, w, 0, v⟩ = if W[q]?.getD 0 = 0 ∧ (mapF al mp cs ((q : Int) + 1) g o).2 = 0 then some ⟨(mapF al mp cs ((q : Int) + 1) g o).1, W.set q 0, L⟩ else none := by simp [nx, opO, ix_succ, oMp, oUn]
  rw [hn]
  have M0 := MapF_at al mp cs ((q : Int) + 1) g o hu (by omega) (by omega) (by omega)
  generalize mapF al mp cs ((q : Int) + 1) g o = R at *
  obtain ⟨⟨A, M, C⟩, e⟩ := R
  have MapF_at : MapFS.rel [fm al mp cs, iv ((q : Int) + 1), iv g, iv o] [] (.tup [fm A M C, iv e]) [] := M0
  by_cases hw : W[q]?.getD 0 = 0
  · have rests_at := rests_at ⟨(al, mp, cs), W, L⟩ q (by dsimp only; omega) hW (decide_eq_true hw)
    by_cases he : e = 0
    · subst he
      rw [if_pos ⟨hw, rfl⟩, set_self hw]
      have become_at := become_t ⟨(al, mp, cs), W, L⟩ A M C
      repeat' (first | refine sA ?_ | ((with_reducible first | refine hK _ ?_ | refine hK _ _ ?_); clear hK K) | ((first | refine sC ?_ | (with_reducible first | refine ops_cons (fun K hK => ?_) | refine opsd_cons (fun K hK => ?_) | refine W_reg [(0, [0, 3]), (1, [4])] ?_ | refine W_drw [(0, [0, 3]), (1, [4])] (by kernel_rfl) ?_) | ((with_reducible refine opsd_nil ?_); refine And.intro (by kernel_rfl) ?_) | ((with_reducible refine callV_lend restsS [0,1] rests_ok rfl ?_); simp only [go_sem, seval, reduceCtorEq, decide_true, Bool.and_self]; refine ⟨alk, rfl, _, _, rests_at , ?_⟩) | ((with_reducible refine callV_lend becomeS [0,1] become_ok rfl ?_); simp only [go_sem, seval, reduceCtorEq, decide_true, Bool.and_self]; refine ⟨alk, rfl, _, _, become_at , ?_⟩) | with_reducible refine callV_snap ?_ | ((with_reducible refine call_go MapFS MapF_ok ?_); refine ⟨alk, _, _, MapF_at , ?_⟩) | with_reducible refine And.intro (fun h => ?_) (fun h => ?_) | with_reducible refine And.intro (by omega) ?_); (try simp only [go_sem, seval, reduceCtorEq, decide_true, Bool.and_self, restsS, becomeS, Tryz.ntmps65, Tryz.results65, Ru1S])) | fail)
      refine W_ret (endQ_ret (end_at [0, 1] ?_))
      simp [go_sem, Ru1S]
    · rw [if_neg (fun h => he h.2)]
      have become_at := become_f ⟨(al, mp, cs), W, L⟩ A M C e he
      repeat' (first | refine sA ?_ | ((with_reducible first | refine hK _ ?_ | refine hK _ _ ?_); clear hK K) | ((first | refine sC ?_ | (with_reducible first | refine ops_cons (fun K hK => ?_) | refine opsd_cons (fun K hK => ?_) | refine W_reg [(0, [0, 3]), (1, [4])] ?_ | refine W_drw [(0, [0, 3]), (1, [4])] (by kernel_rfl) ?_) | ((with_reducible refine opsd_nil ?_); refine And.intro (by kernel_rfl) ?_) | ((with_reducible refine callV_lend restsS [0,1] rests_ok rfl ?_); simp only [go_sem, seval, reduceCtorEq, decide_true, Bool.and_self]; refine ⟨alk, rfl, _, _, rests_at , ?_⟩) | ((with_reducible refine callV_lend becomeS [0,1] become_ok rfl ?_); simp only [go_sem, seval, reduceCtorEq, decide_true, Bool.and_self]; refine ⟨alk, rfl, _, _, become_at , ?_⟩) | with_reducible refine callV_snap ?_ | ((with_reducible refine call_go MapFS MapF_ok ?_); refine ⟨alk, _, _, MapF_at , ?_⟩) | with_reducible refine And.intro (fun h => ?_) (fun h => ?_) | with_reducible refine And.intro (by omega) ?_); (try simp only [go_sem, seval, reduceCtorEq, decide_true, Bool.and_self, restsS, becomeS, Tryz.ntmps65, Tryz.results65, Ru1S])) | fail)
      refine W_ret (endQ_ret (end_at [0, 1] ?_))
      simp [go_sem, Ru1S]
  · have rests_at := rests_at ⟨(al, mp, cs), W, L⟩ q (by dsimp only; omega) hW (decide_eq_false hw)
    rw [if_neg (fun h => hw h.1)]
    repeat' (first | refine sA ?_ | ((with_reducible first | refine hK _ ?_ | refine hK _ _ ?_); clear hK K) | ((first | refine sC ?_ | (with_reducible first | refine ops_cons (fun K hK => ?_) | refine opsd_cons (fun K hK => ?_) | refine W_reg [(0, [0, 3]), (1, [4])] ?_ | refine W_drw [(0, [0, 3]), (1, [4])] (by kernel_rfl) ?_) | ((with_reducible refine opsd_nil ?_); refine And.intro (by kernel_rfl) ?_) | ((with_reducible refine callV_lend restsS [0,1] rests_ok rfl ?_); simp only [go_sem, seval, reduceCtorEq, decide_true, Bool.and_self]; refine ⟨alk, rfl, _, _, rests_at , ?_⟩) | with_reducible refine callV_snap ?_ | with_reducible refine And.intro (fun h => ?_) (fun h => ?_) | with_reducible refine And.intro (by omega) ?_); (try simp only [go_sem, seval, reduceCtorEq, decide_true, Bool.and_self, restsS, Tryz.ntmps65, Tryz.results65, Ru1S])) | fail)
    refine W_ret (endQ_ret (end_at [0, 1] ?_))
    simp [go_sem, Ru1S]
set_option maxHeartbeats 4000000 in
theorem ru2_ok : Ok Tryz.prog 66 Ru2S := by
  refine fn_ok Ru2S Tryz.func66 rfl rfl ?_
  rintro args ins res outs ⟨s, x, hv, h0, hk, rfl, rfl, rfl, rfl⟩
  refine ⟨by simp [Tryz.ntmps66], fun w0 V Bo mu0 => ?_⟩
  obtain ⟨al, mp, cs, W, L, q, o, g, w, t, v, rfl, rfl, hq, hW, l2, l3, l1, hu, hf, hz⟩ := ru_pre hv h0 hk
  obtain rfl : t = 0 := by simp [unuO] at hz; omega
  have hn : nx ⟨(al, mp, cs), W, L⟩ ⟨((2 : Nat) : Int), (q : Int) + 1, o, g, w, 0, v⟩ = if W[q]?.getD 0 = 0 ∧ (unmF al mp cs ((q : Int) + 1) g o).2 = 0 then some ⟨(unmF al mp cs ((q : Int) + 1) g o).1, W.set q 0, L⟩ else none := by simp [nx, opO, ix_succ, oMp, oUn]
  rw [hn]
  have M0 := UnmF_at al mp cs ((q : Int) + 1) g o hu (by omega) (by omega) (by omega)
  generalize unmF al mp cs ((q : Int) + 1) g o = R at *
  obtain ⟨⟨A, M, C⟩, e⟩ := R
  have UnmF_at : UnmFS.rel [fm al mp cs, iv ((q : Int) + 1), iv g, iv o] [] (.tup [fm A M C, iv e]) [] := M0
  by_cases hw : W[q]?.getD 0 = 0
  · have rests_at := rests_at ⟨(al, mp, cs), W, L⟩ q (by dsimp only; omega) hW (decide_eq_true hw)
    by_cases he : e = 0
    · subst he
      rw [if_pos ⟨hw, rfl⟩, set_self hw]
      have become_at := become_t ⟨(al, mp, cs), W, L⟩ A M C
      repeat' (first | refine sA ?_ | ((with_reducible first | refine hK _ ?_ | refine hK _ _ ?_); clear hK K) | ((first | refine sC ?_ | (with_reducible first | refine ops_cons (fun K hK => ?_) | refine opsd_cons (fun K hK => ?_) | refine W_reg [(0, [0, 3]), (1, [4])] ?_ | refine W_drw [(0, [0, 3]), (1, [4])] (by kernel_rfl) ?_) | ((with_reducible refine opsd_nil ?_); refine And.intro (by kernel_rfl) ?_) | ((with_reducible refine callV_lend restsS [0,1] rests_ok rfl ?_); simp only [go_sem, seval, reduceCtorEq, decide_true, Bool.and_self]; refine ⟨alk, rfl, _, _, rests_at , ?_⟩) | ((with_reducible refine callV_lend becomeS [0,1] become_ok rfl ?_); simp only [go_sem, seval, reduceCtorEq, decide_true, Bool.and_self]; refine ⟨alk, rfl, _, _, become_at , ?_⟩) | with_reducible refine callV_snap ?_ | ((with_reducible refine call_go UnmFS UnmF_ok ?_); refine ⟨alk, _, _, UnmF_at , ?_⟩) | with_reducible refine And.intro (fun h => ?_) (fun h => ?_) | with_reducible refine And.intro (by omega) ?_); (try simp only [go_sem, seval, reduceCtorEq, decide_true, Bool.and_self, restsS, becomeS, Tryz.ntmps66, Tryz.results66, Ru2S])) | fail)
      refine W_ret (endQ_ret (end_at [0, 1] ?_))
      simp [go_sem, Ru2S]
    · rw [if_neg (fun h => he h.2)]
      have become_at := become_f ⟨(al, mp, cs), W, L⟩ A M C e he
      repeat' (first | refine sA ?_ | ((with_reducible first | refine hK _ ?_ | refine hK _ _ ?_); clear hK K) | ((first | refine sC ?_ | (with_reducible first | refine ops_cons (fun K hK => ?_) | refine opsd_cons (fun K hK => ?_) | refine W_reg [(0, [0, 3]), (1, [4])] ?_ | refine W_drw [(0, [0, 3]), (1, [4])] (by kernel_rfl) ?_) | ((with_reducible refine opsd_nil ?_); refine And.intro (by kernel_rfl) ?_) | ((with_reducible refine callV_lend restsS [0,1] rests_ok rfl ?_); simp only [go_sem, seval, reduceCtorEq, decide_true, Bool.and_self]; refine ⟨alk, rfl, _, _, rests_at , ?_⟩) | ((with_reducible refine callV_lend becomeS [0,1] become_ok rfl ?_); simp only [go_sem, seval, reduceCtorEq, decide_true, Bool.and_self]; refine ⟨alk, rfl, _, _, become_at , ?_⟩) | with_reducible refine callV_snap ?_ | ((with_reducible refine call_go UnmFS UnmF_ok ?_); refine ⟨alk, _, _, UnmF_at , ?_⟩) | with_reducible refine And.intro (fun h => ?_) (fun h => ?_) | with_reducible refine And.intro (by omega) ?_); (try simp only [go_sem, seval, reduceCtorEq, decide_true, Bool.and_self, restsS, becomeS, Tryz.ntmps66, Tryz.results66, Ru2S])) | fail)
      refine W_ret (endQ_ret (end_at [0, 1] ?_))
      simp [go_sem, Ru2S]
  · have rests_at := rests_at ⟨(al, mp, cs), W, L⟩ q (by dsimp only; omega) hW (decide_eq_false hw)
    rw [if_neg (fun h => hw h.1)]
    repeat' (first | refine sA ?_ | ((with_reducible first | refine hK _ ?_ | refine hK _ _ ?_); clear hK K) | ((first | refine sC ?_ | (with_reducible first | refine ops_cons (fun K hK => ?_) | refine opsd_cons (fun K hK => ?_) | refine W_reg [(0, [0, 3]), (1, [4])] ?_ | refine W_drw [(0, [0, 3]), (1, [4])] (by kernel_rfl) ?_) | ((with_reducible refine opsd_nil ?_); refine And.intro (by kernel_rfl) ?_) | ((with_reducible refine callV_lend restsS [0,1] rests_ok rfl ?_); simp only [go_sem, seval, reduceCtorEq, decide_true, Bool.and_self]; refine ⟨alk, rfl, _, _, rests_at , ?_⟩) | with_reducible refine callV_snap ?_ | with_reducible refine And.intro (fun h => ?_) (fun h => ?_) | with_reducible refine And.intro (by omega) ?_); (try simp only [go_sem, seval, reduceCtorEq, decide_true, Bool.and_self, restsS, Tryz.ntmps66, Tryz.results66, Ru2S])) | fail)
    refine W_ret (endQ_ret (end_at [0, 1] ?_))
    simp [go_sem, Ru2S]
set_option maxHeartbeats 4000000 in
theorem ru7_ok : Ok Tryz.prog 71 Ru7S := by
  refine fn_ok Ru7S Tryz.func71 rfl rfl ?_
  rintro args ins res outs ⟨s, x, hv, h0, hk, rfl, rfl, rfl, rfl⟩
  refine ⟨by simp [Tryz.ntmps71], fun w0 V Bo mu0 => ?_⟩
  obtain ⟨al, mp, cs, W, L, q, o, g, w, t, v, rfl, rfl, hq, hW, l2, l3, l1, hu, hf, hz⟩ := ru_pre hv h0 hk
  obtain rfl : t = 0 := by simp [unuO] at hz; omega
  have hn : nx ⟨(al, mp, cs), W, L⟩ ⟨((7 : Nat) : Int), (q : Int) + 1, o, g, w, 0, v⟩ = if W[q]?.getD 0 = 0 ∧ (extF al mp cs ((q : Int) + 1)).2 = 0 then some ⟨(extF al mp cs ((q : Int) + 1)).1, W.set q 0, L⟩ else none := by simp [nx, opO, ix_succ, oEx]
  rw [hn]
  have M0 := ExtF_at al mp cs ((q : Int) + 1) hu (by omega) (by omega) (by omega)
  generalize extF al mp cs ((q : Int) + 1) = R at *
  obtain ⟨⟨A, M, C⟩, e⟩ := R
  have ExtF_at : ExtFS.rel [fm al mp cs, iv ((q : Int) + 1)] [] (.tup [fm A M C, iv e]) [] := M0
  by_cases hw : W[q]?.getD 0 = 0
  · have rests_at := rests_at ⟨(al, mp, cs), W, L⟩ q (by dsimp only; omega) hW (decide_eq_true hw)
    by_cases he : e = 0
    · subst he
      rw [if_pos ⟨hw, rfl⟩, set_self hw]
      have become_at := become_t ⟨(al, mp, cs), W, L⟩ A M C
      repeat' (first | refine sA ?_ | ((with_reducible first | refine hK _ ?_ | refine hK _ _ ?_); clear hK K) | ((first | refine sC ?_ | (with_reducible first | refine ops_cons (fun K hK => ?_) | refine opsd_cons (fun K hK => ?_) | refine W_reg [(0, [0, 3]), (1, [4])] ?_ | refine W_drw [(0, [0, 3]), (1, [4])] (by kernel_rfl) ?_) | ((with_reducible refine opsd_nil ?_); refine And.intro (by kernel_rfl) ?_) | ((with_reducible refine callV_lend restsS [0,1] rests_ok rfl ?_); simp only [go_sem, seval, reduceCtorEq, decide_true, Bool.and_self]; refine ⟨alk, rfl, _, _, rests_at , ?_⟩) | ((with_reducible refine callV_lend becomeS [0,1] become_ok rfl ?_); simp only [go_sem, seval, reduceCtorEq, decide_true, Bool.and_self]; refine ⟨alk, rfl, _, _, become_at , ?_⟩) | with_reducible refine callV_snap ?_ | ((with_reducible refine call_go ExtFS ExtF_ok ?_); refine ⟨alk, _, _, ExtF_at , ?_⟩) | with_reducible refine And.intro (fun h => ?_) (fun h => ?_) | with_reducible refine And.intro (by omega) ?_); (try simp only [go_sem, seval, reduceCtorEq, decide_true, Bool.and_self, restsS, becomeS, Tryz.ntmps71, Tryz.results71, Ru7S])) | fail)
      refine W_ret (endQ_ret (end_at [0, 1] ?_))
      simp [go_sem, Ru7S]
    · rw [if_neg (fun h => he h.2)]
      have become_at := become_f ⟨(al, mp, cs), W, L⟩ A M C e he
      repeat' (first | refine sA ?_ | ((with_reducible first | refine hK _ ?_ | refine hK _ _ ?_); clear hK K) | ((first | refine sC ?_ | (with_reducible first | refine ops_cons (fun K hK => ?_) | refine opsd_cons (fun K hK => ?_) | refine W_reg [(0, [0, 3]), (1, [4])] ?_ | refine W_drw [(0, [0, 3]), (1, [4])] (by kernel_rfl) ?_) | ((with_reducible refine opsd_nil ?_); refine And.intro (by kernel_rfl) ?_) | ((with_reducible refine callV_lend restsS [0,1] rests_ok rfl ?_); simp only [go_sem, seval, reduceCtorEq, decide_true, Bool.and_self]; refine ⟨alk, rfl, _, _, rests_at , ?_⟩) | ((with_reducible refine callV_lend becomeS [0,1] become_ok rfl ?_); simp only [go_sem, seval, reduceCtorEq, decide_true, Bool.and_self]; refine ⟨alk, rfl, _, _, become_at , ?_⟩) | with_reducible refine callV_snap ?_ | ((with_reducible refine call_go ExtFS ExtF_ok ?_); refine ⟨alk, _, _, ExtF_at , ?_⟩) | with_reducible refine And.intro (fun h => ?_) (fun h => ?_) | with_reducible refine And.intro (by omega) ?_); (try simp only [go_sem, seval, reduceCtorEq, decide_true, Bool.and_self, restsS, becomeS, Tryz.ntmps71, Tryz.results71, Ru7S])) | fail)
      refine W_ret (endQ_ret (end_at [0, 1] ?_))
      simp [go_sem, Ru7S]
  · have rests_at := rests_at ⟨(al, mp, cs), W, L⟩ q (by dsimp only; omega) hW (decide_eq_false hw)
    rw [if_neg (fun h => hw h.1)]
    repeat' (first | refine sA ?_ | ((with_reducible first | refine hK _ ?_ | refine hK _ _ ?_); clear hK K) | ((first | refine sC ?_ | (with_reducible first | refine ops_cons (fun K hK => ?_) | refine opsd_cons (fun K hK => ?_) | refine W_reg [(0, [0, 3]), (1, [4])] ?_ | refine W_drw [(0, [0, 3]), (1, [4])] (by kernel_rfl) ?_) | ((with_reducible refine opsd_nil ?_); refine And.intro (by kernel_rfl) ?_) | ((with_reducible refine callV_lend restsS [0,1] rests_ok rfl ?_); simp only [go_sem, seval, reduceCtorEq, decide_true, Bool.and_self]; refine ⟨alk, rfl, _, _, rests_at , ?_⟩) | with_reducible refine callV_snap ?_ | with_reducible refine And.intro (fun h => ?_) (fun h => ?_) | with_reducible refine And.intro (by omega) ?_); (try simp only [go_sem, seval, reduceCtorEq, decide_true, Bool.and_self, restsS, Tryz.ntmps71, Tryz.results71, Ru7S])) | fail)
    refine W_ret (endQ_ret (end_at [0, 1] ?_))
    simp [go_sem, Ru7S]
set_option maxHeartbeats 4000000 in
theorem ru6_ok : Ok Tryz.prog 70 Ru6S := by
  refine fn_ok Ru6S Tryz.func70 rfl rfl ?_
  rintro args ins res outs ⟨s, x, hv, h0, hk, rfl, rfl, rfl, rfl⟩
  refine ⟨by simp [Tryz.ntmps70], fun w0 V Bo mu0 => ?_⟩
  obtain ⟨al, mp, cs, W, L, q, o, g, w, t, v, rfl, rfl, hq, hW, l2, l3, l1, hu, hf, hz⟩ := ru_pre hv h0 hk
  have hn : nx ⟨(al, mp, cs), W, L⟩ ⟨((6 : Nat) : Int), (q : Int) + 1, o, g, w, t, v⟩ = if W[q]?.getD 0 = t ∧ (spnF al mp cs ((q : Int) + 1)).2 = 0 then some ⟨(spnF al mp cs ((q : Int) + 1)).1, W.set q 0, L⟩ else none := by simp [nx, opO, ix_succ, oSp]
  rw [hn]
  have M0 := SpnF_at al mp cs ((q : Int) + 1) hu (by omega) (by omega) (by omega)
  generalize spnF al mp cs ((q : Int) + 1) = R at *
  obtain ⟨⟨A, M, C⟩, e⟩ := R
  have SpnF_at : SpnFS.rel [fm al mp cs, iv ((q : Int) + 1)] [] (.tup [fm A M C, iv e]) [] := M0
  by_cases hw : W[q]?.getD 0 = t
  · have awaits_at := awaits_at ⟨(al, mp, cs), W, L⟩ q 6 o g w t v (by dsimp only; omega) hW (decide_eq_true hw)
    by_cases he : e = 0
    · subst he
      rw [if_pos ⟨hw, rfl⟩]
      have end_at' := end_t ⟨(al, mp, cs), W, L⟩ A M C q 6 o g w t v (by dsimp only; omega) hW
      have endT_at : endTS.rel _ _ _ _ := end_at'
      repeat' (first | refine sA ?_ | with_reducible refine W_tf rfl (fun h => ?_) (fun h => ?_) | ((with_reducible first | refine hK _ ?_ | refine hK _ _ ?_); clear hK K) | ((first | refine sC ?_ | (with_reducible first | refine ops_cons (fun K hK => ?_) | refine opsd_cons (fun K hK => ?_) | refine W_reg lv70MdF ?_ | refine W_drw lv70MdF (by kernel_rfl) ?_) | ((with_reducible refine opsd_nil ?_); refine And.intro (by kernel_rfl) ?_) | ((with_reducible refine callV_lend awaitsS [0,1] awaits_ok rfl ?_); simp only [go_sem, seval, reduceCtorEq, decide_true, Bool.and_self, lv70MdF]; refine ⟨alk, rfl, _, _, awaits_at , ?_⟩) | ((with_reducible refine callV_lend endTS [0,1] endT_ok rfl ?_); simp only [go_sem, seval, reduceCtorEq, decide_true, Bool.and_self, lv70MdF]; refine ⟨alk, rfl, _, _, endT_at , ?_⟩) | with_reducible refine callV_snap ?_ | ((with_reducible refine call_go SpnFS SpnF_ok ?_); refine ⟨alk, _, _, SpnF_at , ?_⟩) | with_reducible refine And.intro (fun h => ?_) (fun h => ?_) | with_reducible refine And.intro (by omega) ?_); (try simp only [go_sem, seval, reduceCtorEq, decide_true, Bool.and_self, lv70MdF, awaitsS, endTS, Tryz.ntmps70, Tryz.results70, Ru6S])) | fail)
      refine W_ret (endQ_ret (end_at [0, 1] ?_))
      simp [go_sem, Ru6S]
    · rw [if_neg (fun h => he h.2)]
      have endT_at : endTS.rel _ _ _ _ := end_f ⟨(al, mp, cs), W, L⟩ A M C e he q 6 o g w t v (by dsimp only; omega) hW
      repeat' (first | refine sA ?_ | with_reducible refine W_tf rfl (fun h => ?_) (fun h => ?_) | ((with_reducible first | refine hK _ ?_ | refine hK _ _ ?_); clear hK K) | ((first | refine sC ?_ | (with_reducible first | refine ops_cons (fun K hK => ?_) | refine opsd_cons (fun K hK => ?_) | refine W_reg lv70MdF ?_ | refine W_drw lv70MdF (by kernel_rfl) ?_) | ((with_reducible refine opsd_nil ?_); refine And.intro (by kernel_rfl) ?_) | ((with_reducible refine callV_lend awaitsS [0,1] awaits_ok rfl ?_); simp only [go_sem, seval, reduceCtorEq, decide_true, Bool.and_self, lv70MdF]; refine ⟨alk, rfl, _, _, awaits_at , ?_⟩) | ((with_reducible refine callV_lend endTS [0,1] endT_ok rfl ?_); simp only [go_sem, seval, reduceCtorEq, decide_true, Bool.and_self, lv70MdF]; refine ⟨alk, rfl, _, _, endT_at , ?_⟩) | with_reducible refine callV_snap ?_ | ((with_reducible refine call_go SpnFS SpnF_ok ?_); refine ⟨alk, _, _, SpnF_at , ?_⟩) | with_reducible refine And.intro (fun h => ?_) (fun h => ?_) | with_reducible refine And.intro (by omega) ?_); (try simp only [go_sem, seval, reduceCtorEq, decide_true, Bool.and_self, lv70MdF, awaitsS, endTS, Tryz.ntmps70, Tryz.results70, Ru6S])) | fail)
      refine W_ret (endQ_ret (end_at [0, 1] ?_))
      simp [go_sem, Ru6S]
  · have awaits_at := awaits_at ⟨(al, mp, cs), W, L⟩ q 6 o g w t v (by dsimp only; omega) hW (decide_eq_false hw)
    rw [if_neg (fun h => hw h.1)]
    repeat' (first | refine sA ?_ | with_reducible refine W_tf rfl (fun h => ?_) (fun h => ?_) | ((with_reducible first | refine hK _ ?_ | refine hK _ _ ?_); clear hK K) | ((first | refine sC ?_ | (with_reducible first | refine ops_cons (fun K hK => ?_) | refine opsd_cons (fun K hK => ?_) | refine W_reg lv70MdF ?_ | refine W_drw lv70MdF (by kernel_rfl) ?_) | ((with_reducible refine opsd_nil ?_); refine And.intro (by kernel_rfl) ?_) | ((with_reducible refine callV_lend awaitsS [0,1] awaits_ok rfl ?_); simp only [go_sem, seval, reduceCtorEq, decide_true, Bool.and_self, lv70MdF]; refine ⟨alk, rfl, _, _, awaits_at , ?_⟩) | with_reducible refine callV_snap ?_ | with_reducible refine And.intro (fun h => ?_) (fun h => ?_) | with_reducible refine And.intro (by omega) ?_); (try simp only [go_sem, seval, reduceCtorEq, decide_true, Bool.and_self, lv70MdF, awaitsS, Tryz.ntmps70, Tryz.results70, Ru6S])) | fail)
    refine W_ret (endQ_ret (end_at [0, 1] ?_))
    simp [go_sem, Ru6S]
set_option maxHeartbeats 4000000 in
theorem ru4_ok : Ok Tryz.prog 68 Ru4S := by
  refine fn_ok Ru4S Tryz.func68 rfl rfl ?_
  rintro args ins res outs ⟨s, x, hv, h0, hk, rfl, rfl, rfl, rfl⟩
  refine ⟨by simp [Tryz.ntmps68], fun w0 V Bo mu0 => ?_⟩
  obtain ⟨al, mp, cs, W, L, q, o, g, w, t, v, rfl, rfl, hq, hW, l2, l3, l1, hu, hf, hz⟩ := ru_pre hv h0 hk
  have hn : nx ⟨(al, mp, cs), W, L⟩ ⟨((4 : Nat) : Int), (q : Int) + 1, o, g, w, t, v⟩ = if W[q]?.getD 0 = t ∧ (wrtF al mp cs ((q : Int) + 1) g w v).2 = 0 then some ⟨(wrtF al mp cs ((q : Int) + 1) g w v).1, W.set q 0, L⟩ else none := by simp [nx, opO, ix_succ, oWr]
  rw [hn]
  have M0 := WrtF_at al mp cs ((q : Int) + 1) g w v hu (by omega) (by omega) (by omega)
  generalize wrtF al mp cs ((q : Int) + 1) g w v = R at *
  obtain ⟨⟨A, M, C⟩, e⟩ := R
  have WrtF_at : WrtFS.rel [fm al mp cs, iv ((q : Int) + 1), iv g, iv w, wv (v : Int)] [] (.tup [fm A M C, iv e]) [] := M0
  by_cases hw : W[q]?.getD 0 = t
  · have awaits_at := awaits_at ⟨(al, mp, cs), W, L⟩ q 4 o g w t v (by dsimp only; omega) hW (decide_eq_true hw)
    by_cases he : e = 0
    · subst he
      rw [if_pos ⟨hw, rfl⟩]
      have end_at' := end_t ⟨(al, mp, cs), W, L⟩ A M C q 4 o g w t v (by dsimp only; omega) hW
      have endT_at : endTS.rel _ _ _ _ := end_at'
      repeat' (first | refine sA ?_ | with_reducible refine W_tf rfl (fun h => ?_) (fun h => ?_) | ((with_reducible first | refine hK _ ?_ | refine hK _ _ ?_); clear hK K) | ((first | refine sC ?_ | (with_reducible first | refine ops_cons (fun K hK => ?_) | refine opsd_cons (fun K hK => ?_) | refine W_reg lv68MdF ?_ | refine W_drw lv68MdF (by kernel_rfl) ?_) | ((with_reducible refine opsd_nil ?_); refine And.intro (by kernel_rfl) ?_) | ((with_reducible refine callV_lend awaitsS [0,1] awaits_ok rfl ?_); simp only [go_sem, seval, reduceCtorEq, decide_true, Bool.and_self, lv68MdF]; refine ⟨alk, rfl, _, _, awaits_at , ?_⟩) | ((with_reducible refine callV_lend endTS [0,1] endT_ok rfl ?_); simp only [go_sem, seval, reduceCtorEq, decide_true, Bool.and_self, lv68MdF]; refine ⟨alk, rfl, _, _, endT_at , ?_⟩) | with_reducible refine callV_snap ?_ | ((with_reducible refine call_go WrtFS WrtF_ok ?_); refine ⟨alk, _, _, WrtF_at , ?_⟩) | with_reducible refine And.intro (fun h => ?_) (fun h => ?_) | with_reducible refine And.intro (by omega) ?_); (try simp only [go_sem, seval, reduceCtorEq, decide_true, Bool.and_self, lv68MdF, awaitsS, endTS, Tryz.ntmps68, Tryz.results68, Ru4S])) | fail)
      refine W_ret (endQ_ret (end_at [0, 1] ?_))
      simp [go_sem, Ru4S]
    · rw [if_neg (fun h => he h.2)]
      have endT_at : endTS.rel _ _ _ _ := end_f ⟨(al, mp, cs), W, L⟩ A M C e he q 4 o g w t v (by dsimp only; omega) hW
      repeat' (first | refine sA ?_ | with_reducible refine W_tf rfl (fun h => ?_) (fun h => ?_) | ((with_reducible first | refine hK _ ?_ | refine hK _ _ ?_); clear hK K) | ((first | refine sC ?_ | (with_reducible first | refine ops_cons (fun K hK => ?_) | refine opsd_cons (fun K hK => ?_) | refine W_reg lv68MdF ?_ | refine W_drw lv68MdF (by kernel_rfl) ?_) | ((with_reducible refine opsd_nil ?_); refine And.intro (by kernel_rfl) ?_) | ((with_reducible refine callV_lend awaitsS [0,1] awaits_ok rfl ?_); simp only [go_sem, seval, reduceCtorEq, decide_true, Bool.and_self, lv68MdF]; refine ⟨alk, rfl, _, _, awaits_at , ?_⟩) | ((with_reducible refine callV_lend endTS [0,1] endT_ok rfl ?_); simp only [go_sem, seval, reduceCtorEq, decide_true, Bool.and_self, lv68MdF]; refine ⟨alk, rfl, _, _, endT_at , ?_⟩) | with_reducible refine callV_snap ?_ | ((with_reducible refine call_go WrtFS WrtF_ok ?_); refine ⟨alk, _, _, WrtF_at , ?_⟩) | with_reducible refine And.intro (fun h => ?_) (fun h => ?_) | with_reducible refine And.intro (by omega) ?_); (try simp only [go_sem, seval, reduceCtorEq, decide_true, Bool.and_self, lv68MdF, awaitsS, endTS, Tryz.ntmps68, Tryz.results68, Ru4S])) | fail)
      refine W_ret (endQ_ret (end_at [0, 1] ?_))
      simp [go_sem, Ru4S]
  · have awaits_at := awaits_at ⟨(al, mp, cs), W, L⟩ q 4 o g w t v (by dsimp only; omega) hW (decide_eq_false hw)
    rw [if_neg (fun h => hw h.1)]
    repeat' (first | refine sA ?_ | with_reducible refine W_tf rfl (fun h => ?_) (fun h => ?_) | ((with_reducible first | refine hK _ ?_ | refine hK _ _ ?_); clear hK K) | ((first | refine sC ?_ | (with_reducible first | refine ops_cons (fun K hK => ?_) | refine opsd_cons (fun K hK => ?_) | refine W_reg lv68MdF ?_ | refine W_drw lv68MdF (by kernel_rfl) ?_) | ((with_reducible refine opsd_nil ?_); refine And.intro (by kernel_rfl) ?_) | ((with_reducible refine callV_lend awaitsS [0,1] awaits_ok rfl ?_); simp only [go_sem, seval, reduceCtorEq, decide_true, Bool.and_self, lv68MdF]; refine ⟨alk, rfl, _, _, awaits_at , ?_⟩) | with_reducible refine callV_snap ?_ | with_reducible refine And.intro (fun h => ?_) (fun h => ?_) | with_reducible refine And.intro (by omega) ?_); (try simp only [go_sem, seval, reduceCtorEq, decide_true, Bool.and_self, lv68MdF, awaitsS, Tryz.ntmps68, Tryz.results68, Ru4S])) | fail)
    refine W_ret (endQ_ret (end_at [0, 1] ?_))
    simp [go_sem, Ru4S]
set_option maxHeartbeats 4000000 in
theorem ru5_ok : Ok Tryz.prog 69 Ru5S := by
  refine fn_ok Ru5S Tryz.func69 rfl rfl ?_
  rintro args ins res outs ⟨s, x, hv, h0, hk, rfl, rfl, rfl, rfl⟩
  refine ⟨by simp [Tryz.ntmps69], fun w0 V Bo mu0 => ?_⟩
  obtain ⟨al, mp, cs, W, L, q, o, g, w, t, v, rfl, rfl, hq, hW, l2, l3, l1, hu, hf, hz⟩ := ru_pre hv h0 hk
  have ho : 1 ≤ o := by simp [fitO] at hf; omega
  obtain ⟨j, rfl⟩ : ∃ j : Nat, o = (j : Int) + 1 := ⟨(o - 1).toNat, by omega⟩
  have hn : nx ⟨(al, mp, cs), W, L⟩ ⟨((5 : Nat) : Int), (q : Int) + 1, (j : Int) + 1, g, w, t, v⟩ = if W[q]?.getD 0 = t ∧ (frkF al mp cs ((q : Int) + 1) ((j : Int) + 1)).2 = 0 then some ⟨(frkF al mp cs ((q : Int) + 1) ((j : Int) + 1)).1, W.set q 0, L⟩ else none := by simp [nx, opO, ix_succ, oFk]
  rw [hn]
  have M0 := FrkF_at al mp cs ((q : Int) + 1) ((j : Int) + 1) hu (by omega) (by omega) (by omega)
  generalize frkF al mp cs ((q : Int) + 1) ((j : Int) + 1) = R at *
  obtain ⟨⟨A, M, C⟩, e⟩ := R
  have FrkF_at : FrkFS.rel [fm al mp cs, iv ((q : Int) + 1), iv ((j : Int) + 1)] [] (.tup [fm A M C, iv e]) [] := M0
  by_cases hw : W[q]?.getD 0 = t
  · have awaits_at := awaits_at ⟨(al, mp, cs), W, L⟩ q 5 ((j : Int) + 1) g w t v (by dsimp only; omega) hW (decide_eq_true hw)
    by_cases he : e = 0
    · subst he
      rw [if_pos ⟨hw, rfl⟩]
      have end_at' := end_t ⟨(al, mp, cs), W, L⟩ A M C q 5 ((j : Int) + 1) g w t v (by dsimp only; omega) hW
      have endT_at : endTS.rel _ _ _ _ := end_at'
      repeat' (first | refine sA ?_ | with_reducible refine W_tf rfl (fun h => ?_) (fun h => ?_) | ((with_reducible first | refine hK _ ?_ | refine hK _ _ ?_); clear hK K) | ((first | refine sC ?_ | (with_reducible first | refine ops_cons (fun K hK => ?_) | refine opsd_cons (fun K hK => ?_) | refine W_reg lv69MdF ?_ | refine W_drw lv69MdF (by kernel_rfl) ?_) | ((with_reducible refine opsd_nil ?_); refine And.intro (by kernel_rfl) ?_) | ((with_reducible refine callV_lend awaitsS [0,1] awaits_ok rfl ?_); simp only [go_sem, seval, reduceCtorEq, decide_true, Bool.and_self, lv69MdF]; refine ⟨alk, rfl, _, _, awaits_at , ?_⟩) | ((with_reducible refine callV_lend endTS [0,1] endT_ok rfl ?_); simp only [go_sem, seval, reduceCtorEq, decide_true, Bool.and_self, lv69MdF]; refine ⟨alk, rfl, _, _, endT_at , ?_⟩) | with_reducible refine callV_snap ?_ | ((with_reducible refine call_go FrkFS FrkF_ok ?_); refine ⟨alk, _, _, FrkF_at , ?_⟩) | with_reducible refine And.intro (fun h => ?_) (fun h => ?_) | with_reducible refine And.intro (by omega) ?_); (try simp only [go_sem, seval, reduceCtorEq, decide_true, Bool.and_self, lv69MdF, awaitsS, endTS, Tryz.ntmps69, Tryz.results69, Ru5S])) | fail)
      refine W_ret (endQ_ret (end_at [0, 1] ?_))
      simp [go_sem, Ru5S]
    · rw [if_neg (fun h => he h.2)]
      have endT_at : endTS.rel _ _ _ _ := end_f ⟨(al, mp, cs), W, L⟩ A M C e he q 5 ((j : Int) + 1) g w t v (by dsimp only; omega) hW
      repeat' (first | refine sA ?_ | with_reducible refine W_tf rfl (fun h => ?_) (fun h => ?_) | ((with_reducible first | refine hK _ ?_ | refine hK _ _ ?_); clear hK K) | ((first | refine sC ?_ | (with_reducible first | refine ops_cons (fun K hK => ?_) | refine opsd_cons (fun K hK => ?_) | refine W_reg lv69MdF ?_ | refine W_drw lv69MdF (by kernel_rfl) ?_) | ((with_reducible refine opsd_nil ?_); refine And.intro (by kernel_rfl) ?_) | ((with_reducible refine callV_lend awaitsS [0,1] awaits_ok rfl ?_); simp only [go_sem, seval, reduceCtorEq, decide_true, Bool.and_self, lv69MdF]; refine ⟨alk, rfl, _, _, awaits_at , ?_⟩) | ((with_reducible refine callV_lend endTS [0,1] endT_ok rfl ?_); simp only [go_sem, seval, reduceCtorEq, decide_true, Bool.and_self, lv69MdF]; refine ⟨alk, rfl, _, _, endT_at , ?_⟩) | with_reducible refine callV_snap ?_ | ((with_reducible refine call_go FrkFS FrkF_ok ?_); refine ⟨alk, _, _, FrkF_at , ?_⟩) | with_reducible refine And.intro (fun h => ?_) (fun h => ?_) | with_reducible refine And.intro (by omega) ?_); (try simp only [go_sem, seval, reduceCtorEq, decide_true, Bool.and_self, lv69MdF, awaitsS, endTS, Tryz.ntmps69, Tryz.results69, Ru5S])) | fail)
      refine W_ret (endQ_ret (end_at [0, 1] ?_))
      simp [go_sem, Ru5S]
  · have awaits_at := awaits_at ⟨(al, mp, cs), W, L⟩ q 5 ((j : Int) + 1) g w t v (by dsimp only; omega) hW (decide_eq_false hw)
    rw [if_neg (fun h => hw h.1)]
    repeat' (first | refine sA ?_ | with_reducible refine W_tf rfl (fun h => ?_) (fun h => ?_) | ((with_reducible first | refine hK _ ?_ | refine hK _ _ ?_); clear hK K) | ((first | refine sC ?_ | (with_reducible first | refine ops_cons (fun K hK => ?_) | refine opsd_cons (fun K hK => ?_) | refine W_reg lv69MdF ?_ | refine W_drw lv69MdF (by kernel_rfl) ?_) | ((with_reducible refine opsd_nil ?_); refine And.intro (by kernel_rfl) ?_) | ((with_reducible refine callV_lend awaitsS [0,1] awaits_ok rfl ?_); simp only [go_sem, seval, reduceCtorEq, decide_true, Bool.and_self, lv69MdF]; refine ⟨alk, rfl, _, _, awaits_at , ?_⟩) | with_reducible refine callV_snap ?_ | with_reducible refine And.intro (fun h => ?_) (fun h => ?_) | with_reducible refine And.intro (by omega) ?_); (try simp only [go_sem, seval, reduceCtorEq, decide_true, Bool.and_self, lv69MdF, awaitsS, Tryz.ntmps69, Tryz.results69, Ru5S])) | fail)
    refine W_ret (endQ_ret (end_at [0, 1] ?_))
    simp [go_sem, Ru5S]
end Go.Proofs.YtpocnjliigjidaaGreat
namespace Go.Proofs.YtpocnjliigjidaaGreat
open Go.RowKit
set_option maxRecDepth 100000
set_option linter.unusedSimpArgs false
set_option linter.unusedVariables false
set_option maxHeartbeats 4000000 in
theorem ru10_ok : Ok Tryz.prog 74 Ru10S := by
  refine fn_ok Ru10S Tryz.func74 rfl rfl ?_
  rintro args ins res outs ⟨s, x, hv, h0, hk, rfl, rfl, rfl, rfl⟩
  refine ⟨by simp [Tryz.ntmps74], fun w0 V Bo mu0 => ?_⟩
  obtain ⟨al, mp, cs, W, L, q, o, g, w, t, v, rfl, rfl, hq, hW, l2, l3, l1, hu, hf, hz⟩ := ru_pre hv h0 hk
  have hn : nx ⟨(al, mp, cs), W, L⟩ ⟨((10 : Nat) : Int), (q : Int) + 1, o, g, w, t, v⟩ = if W[q]?.getD 0 = t ∧ (extF al mp cs ((q : Int) + 1)).2 = 0 then some ⟨(extF al mp cs ((q : Int) + 1)).1, W.set q 0, L⟩ else none := by simp [nx, opO, ix_succ, oEx]
  rw [hn]
  have M0 := ExtF_at al mp cs ((q : Int) + 1) hu (by omega) (by omega) (by omega)
  have hE := oEx_eq hv.v hq
  rw [show oEx q (al, mp, cs) = extF al mp cs ((q : Int) + 1) from rfl] at hE
  dsimp only at hE
  generalize extF al mp cs ((q : Int) + 1) = R at *
  obtain ⟨⟨A, M, C⟩, e⟩ := R
  by_cases hw : W[q]?.getD 0 = t
  · have awaits_at := awaits_at ⟨(al, mp, cs), W, L⟩ q 10 o g w t v (by dsimp only; omega) hW (decide_eq_true hw)
    by_cases ha : al[q]?.getD false = true
    · rw [if_pos ha] at hE
      obtain rfl : e = 0 := congrArg (·.2) hE
      have ExtF_at : ExtFS.rel [fm al mp cs, iv ((q : Int) + 1)] [] (.tup [fm A M C, iv 0]) [] := M0
      rw [if_pos ⟨hw, rfl⟩]
      have livesT_at := livesT_at ⟨(al, mp, cs), W, L⟩ q (by dsimp only; omega) l2 ha
      have endT_at : endTS.rel _ _ _ _ := end_t ⟨(al, mp, cs), W, L⟩ A M C q 10 o g w t v (by dsimp only; omega) hW
      repeat' (first | refine sA ?_ | with_reducible refine W_tf rfl (fun h => ?_) (fun h => ?_) | ((with_reducible first | refine hK _ ?_ | refine hK _ _ ?_); clear hK K) | ((first | refine sC ?_ | (with_reducible first | refine ops_cons (fun K hK => ?_) | refine opsd_cons (fun K hK => ?_) | refine W_reg lv74MdF ?_ | refine W_drw lv74MdF (by kernel_rfl) ?_) | ((with_reducible refine opsd_nil ?_); refine And.intro (by kernel_rfl) ?_) | ((with_reducible refine callV_lend awaitsS [0,1] awaits_ok rfl ?_); simp only [go_sem, seval, reduceCtorEq, decide_true, Bool.and_self, lv74MdF]; refine ⟨alk, rfl, _, _, awaits_at , ?_⟩) | ((with_reducible refine callV_lend livesTS [0,1] livesT_ok rfl ?_); simp only [go_sem, seval, reduceCtorEq, decide_true, Bool.and_self, lv74MdF]; refine ⟨alk, rfl, _, _, livesT_at , ?_⟩) | ((with_reducible refine callV_lend endTS [0,1] endT_ok rfl ?_); simp only [go_sem, seval, reduceCtorEq, decide_true, Bool.and_self, lv74MdF]; refine ⟨alk, rfl, _, _, endT_at , ?_⟩) | with_reducible refine callV_snap ?_ | ((with_reducible refine call_go ExtFS ExtF_ok ?_); refine ⟨alk, _, _, ExtF_at , ?_⟩) | with_reducible refine And.intro (fun h => ?_) (fun h => ?_) | with_reducible refine And.intro (by omega) ?_); (try simp only [go_sem, seval, reduceCtorEq, decide_true, Bool.and_self, lv74MdF, awaitsS, livesTS, endTS, Tryz.ntmps74, Tryz.results74, Ru10S])) | fail)
      refine W_ret (endQ_ret (end_at [0, 1] ?_))
      simp [go_sem, Ru10S]
    · rw [if_neg ha] at hE
      obtain rfl : e = 11 := congrArg (·.2) hE
      rw [if_neg (fun h => absurd h.2 (by dsimp only; decide))]
      have livesT_at := livesT_at ⟨(al, mp, cs), W, L⟩ q (by dsimp only; omega) l2 (Bool.eq_false_iff.2 ha)
      repeat' (first | refine sA ?_ | with_reducible refine W_tf rfl (fun h => ?_) (fun h => ?_) | ((with_reducible first | refine hK _ ?_ | refine hK _ _ ?_); clear hK K) | ((first | refine sC ?_ | (with_reducible first | refine ops_cons (fun K hK => ?_) | refine opsd_cons (fun K hK => ?_) | refine W_reg lv74MdF ?_ | refine W_drw lv74MdF (by kernel_rfl) ?_) | ((with_reducible refine opsd_nil ?_); refine And.intro (by kernel_rfl) ?_) | ((with_reducible refine callV_lend awaitsS [0,1] awaits_ok rfl ?_); simp only [go_sem, seval, reduceCtorEq, decide_true, Bool.and_self, lv74MdF]; refine ⟨alk, rfl, _, _, awaits_at , ?_⟩) | ((with_reducible refine callV_lend livesTS [0,1] livesT_ok rfl ?_); simp only [go_sem, seval, reduceCtorEq, decide_true, Bool.and_self, lv74MdF]; refine ⟨alk, rfl, _, _, livesT_at , ?_⟩) | with_reducible refine callV_snap ?_ | with_reducible refine And.intro (fun h => ?_) (fun h => ?_) | with_reducible refine And.intro (by omega) ?_); (try simp only [go_sem, seval, reduceCtorEq, decide_true, Bool.and_self, lv74MdF, awaitsS, livesTS, Tryz.ntmps74, Tryz.results74, Ru10S])) | fail)
      refine W_ret (endQ_ret (end_at [0, 1] ?_))
      simp [go_sem, Ru10S]
  · have awaits_at := awaits_at ⟨(al, mp, cs), W, L⟩ q 10 o g w t v (by dsimp only; omega) hW (decide_eq_false hw)
    rw [if_neg (fun h => hw h.1)]
    repeat' (first | refine sA ?_ | with_reducible refine W_tf rfl (fun h => ?_) (fun h => ?_) | ((with_reducible first | refine hK _ ?_ | refine hK _ _ ?_); clear hK K) | ((first | refine sC ?_ | (with_reducible first | refine ops_cons (fun K hK => ?_) | refine opsd_cons (fun K hK => ?_) | refine W_reg lv74MdF ?_ | refine W_drw lv74MdF (by kernel_rfl) ?_) | ((with_reducible refine opsd_nil ?_); refine And.intro (by kernel_rfl) ?_) | ((with_reducible refine callV_lend awaitsS [0,1] awaits_ok rfl ?_); simp only [go_sem, seval, reduceCtorEq, decide_true, Bool.and_self, lv74MdF]; refine ⟨alk, rfl, _, _, awaits_at , ?_⟩) | with_reducible refine callV_snap ?_ | with_reducible refine And.intro (fun h => ?_) (fun h => ?_) | with_reducible refine And.intro (by omega) ?_); (try simp only [go_sem, seval, reduceCtorEq, decide_true, Bool.and_self, lv74MdF, awaitsS, Tryz.ntmps74, Tryz.results74, Ru10S])) | fail)
    refine W_ret (endQ_ret (end_at [0, 1] ?_))
    simp [go_sem, Ru10S]
set_option maxHeartbeats 4000000 in
theorem ru11_ok : Ok Tryz.prog 75 Ru11S := by
  refine fn_ok Ru11S Tryz.func75 rfl rfl ?_
  rintro args ins res outs ⟨s, x, hv, h0, hk, rfl, rfl, rfl, rfl⟩
  refine ⟨by simp [Tryz.ntmps75], fun w0 V Bo mu0 => ?_⟩
  obtain ⟨al, mp, cs, W, L, q, o, g, w, t, v, rfl, rfl, hq, hW, l2, l3, l1, hu, hf, hz⟩ := ru_pre hv h0 hk
  have hn : nx ⟨(al, mp, cs), W, L⟩ ⟨((11 : Nat) : Int), (q : Int) + 1, o, g, w, t, v⟩ = if W[q]?.getD 0 = t ∧ (if al[q]?.getD false = true then (0 : Int) else 11) = 0 then some ⟨(al, mp, cs), W.set q 0, L⟩ else none := by simp [nx, opO, ix_succ]
  rw [hn]
  by_cases hw : W[q]?.getD 0 = t
  · have awaits_at := awaits_at ⟨(al, mp, cs), W, L⟩ q 11 o g w t v (by dsimp only; omega) hW (decide_eq_true hw)
    by_cases ha : al[q]?.getD false = true
    · rw [if_pos ⟨hw, if_pos ha⟩]
      have livesT_at := livesT_at ⟨(al, mp, cs), W, L⟩ q (by dsimp only; omega) l2 ha
      have endT_at : endTS.rel _ _ _ _ := end_t ⟨(al, mp, cs), W, L⟩ al mp cs q 11 o g w t v (by dsimp only; omega) hW
      repeat' (first | refine sA ?_ | ((with_reducible first | refine hK _ ?_ | refine hK _ _ ?_); clear hK K) | ((first | refine sC ?_ | (with_reducible first | refine ops_cons (fun K hK => ?_) | refine opsd_cons (fun K hK => ?_) | refine W_reg [(0, [0, 3]), (1, [4])] ?_ | refine W_drw [(0, [0, 3]), (1, [4])] (by kernel_rfl) ?_) | ((with_reducible refine opsd_nil ?_); refine And.intro (by kernel_rfl) ?_) | ((with_reducible refine callV_lend awaitsS [0,1] awaits_ok rfl ?_); simp only [go_sem, seval, reduceCtorEq, decide_true, Bool.and_self]; refine ⟨alk, rfl, _, _, awaits_at , ?_⟩) | ((with_reducible refine callV_lend livesTS [0,1] livesT_ok rfl ?_); simp only [go_sem, seval, reduceCtorEq, decide_true, Bool.and_self]; refine ⟨alk, rfl, _, _, livesT_at , ?_⟩) | ((with_reducible refine callV_lend endTS [0,1] endT_ok rfl ?_); simp only [go_sem, seval, reduceCtorEq, decide_true, Bool.and_self]; refine ⟨alk, rfl, _, _, endT_at , ?_⟩) | with_reducible refine callV_snap ?_ | with_reducible refine And.intro (fun h => ?_) (fun h => ?_) | with_reducible refine And.intro (by omega) ?_); (try simp only [go_sem, seval, reduceCtorEq, decide_true, Bool.and_self, awaitsS, livesTS, endTS, Tryz.ntmps75, Tryz.results75, Ru11S])) | fail)
      refine W_ret (endQ_ret (end_at [0, 1] ?_))
      simp [go_sem, Ru11S]
    · rw [if_neg (fun h => absurd h.2 (by rw [if_neg ha]; decide))]
      have livesT_at := livesT_at ⟨(al, mp, cs), W, L⟩ q (by dsimp only; omega) l2 (Bool.eq_false_iff.2 ha)
      repeat' (first | refine sA ?_ | ((with_reducible first | refine hK _ ?_ | refine hK _ _ ?_); clear hK K) | ((first | refine sC ?_ | (with_reducible first | refine ops_cons (fun K hK => ?_) | refine opsd_cons (fun K hK => ?_) | refine W_reg [(0, [0, 3]), (1, [4])] ?_ | refine W_drw [(0, [0, 3]), (1, [4])] (by kernel_rfl) ?_) | ((with_reducible refine opsd_nil ?_); refine And.intro (by kernel_rfl) ?_) | ((with_reducible refine callV_lend awaitsS [0,1] awaits_ok rfl ?_); simp only [go_sem, seval, reduceCtorEq, decide_true, Bool.and_self]; refine ⟨alk, rfl, _, _, awaits_at , ?_⟩) | ((with_reducible refine callV_lend livesTS [0,1] livesT_ok rfl ?_); simp only [go_sem, seval, reduceCtorEq, decide_true, Bool.and_self]; refine ⟨alk, rfl, _, _, livesT_at , ?_⟩) | with_reducible refine callV_snap ?_ | with_reducible refine And.intro (fun h => ?_) (fun h => ?_) | with_reducible refine And.intro (by omega) ?_); (try simp only [go_sem, seval, reduceCtorEq, decide_true, Bool.and_self, awaitsS, livesTS, Tryz.ntmps75, Tryz.results75, Ru11S])) | fail)
      refine W_ret (endQ_ret (end_at [0, 1] ?_))
      simp [go_sem, Ru11S]
  · have awaits_at := awaits_at ⟨(al, mp, cs), W, L⟩ q 11 o g w t v (by dsimp only; omega) hW (decide_eq_false hw)
    rw [if_neg (fun h => hw h.1)]
    repeat' (first | refine sA ?_ | ((with_reducible first | refine hK _ ?_ | refine hK _ _ ?_); clear hK K) | ((first | refine sC ?_ | (with_reducible first | refine ops_cons (fun K hK => ?_) | refine opsd_cons (fun K hK => ?_) | refine W_reg [(0, [0, 3]), (1, [4])] ?_ | refine W_drw [(0, [0, 3]), (1, [4])] (by kernel_rfl) ?_) | ((with_reducible refine opsd_nil ?_); refine And.intro (by kernel_rfl) ?_) | ((with_reducible refine callV_lend awaitsS [0,1] awaits_ok rfl ?_); simp only [go_sem, seval, reduceCtorEq, decide_true, Bool.and_self]; refine ⟨alk, rfl, _, _, awaits_at , ?_⟩) | with_reducible refine callV_snap ?_ | with_reducible refine And.intro (fun h => ?_) (fun h => ?_) | with_reducible refine And.intro (by omega) ?_); (try simp only [go_sem, seval, reduceCtorEq, decide_true, Bool.and_self, awaitsS, Tryz.ntmps75, Tryz.results75, Ru11S])) | fail)
    refine W_ret (endQ_ret (end_at [0, 1] ?_))
    simp [go_sem, Ru11S]
set_option maxHeartbeats 4000000 in
theorem ru3_ok : Ok Tryz.prog 67 Ru3S := by
  refine fn_ok Ru3S Tryz.func67 rfl rfl ?_
  rintro args ins res outs ⟨s, x, hv, h0, hk, rfl, rfl, rfl, rfl⟩
  refine ⟨by simp [Tryz.ntmps67], fun w0 V Bo mu0 => ?_⟩
  obtain ⟨al, mp, cs, W, L, q, o, g, w, t, v, rfl, rfl, hq, hW, l2, l3, l1, hu, hf, hz⟩ := ru_pre hv h0 hk
  have hn : nx ⟨(al, mp, cs), W, L⟩ ⟨((3 : Nat) : Int), (q : Int) + 1, o, g, w, t, v⟩ = if W[q]?.getD 0 = t ∧ (if mapE al mp cs ((q : Int) + 1) g w = 0 ∧ rdV cs ((q : Int) + 1) g w.toNat = v then (0 : Int) else 2) = 0 then some ⟨(al, mp, cs), W.set q 0, L⟩ else none := by simp [nx, opO, ix_succ]
  rw [hn]
  have R0 := Rd_at al mp cs ((q : Int) + 1) g w hu (by omega) (by omega) (by omega)
  generalize mapE al mp cs ((q : Int) + 1) g w = E at *
  generalize rdV cs ((q : Int) + 1) g w.toNat = r at *
  by_cases hw : W[q]?.getD 0 = t
  case neg =>
    have awaits_at := awaits_at ⟨(al, mp, cs), W, L⟩ q 3 o g w t v (by dsimp only; omega) hW (decide_eq_false hw)
    rw [if_neg (fun h => hw h.1)]
    generalize (if E = 0 then r else 0) = r' at *
    have Rd_at : RdS.rel [fm al mp cs, iv ((q : Int) + 1), iv g, iv w] [] (.tup [wv (r' : Int), iv E]) [] := R0
    repeat' (first | refine sA ?_ | ((with_reducible first | refine hK _ ?_ | refine hK _ _ ?_); clear hK K) | ((first | refine sC ?_ | (with_reducible first | refine ops_cons (fun K hK => ?_) | refine opsd_cons (fun K hK => ?_) | refine W_reg [(0, [0, 3]), (1, [0, 3, 5, 6]), (2, [4])] ?_ | refine W_drw [(0, [0, 3]), (1, [0, 3, 5, 6]), (2, [4])] (by kernel_rfl) ?_) | ((with_reducible refine opsd_nil ?_); refine And.intro (by kernel_rfl) ?_) | ((with_reducible refine callV_lend awaitsS [0,1] awaits_ok rfl ?_); simp only [go_sem, seval, reduceCtorEq, decide_true, Bool.and_self]; refine ⟨alk, rfl, _, _, awaits_at , ?_⟩) | with_reducible refine callV_snap ?_ | ((with_reducible refine call_go RdS Rd_ok ?_); refine ⟨alk, _, _, Rd_at , ?_⟩) | with_reducible refine And.intro (fun h => ?_) (fun h => ?_) | with_reducible refine And.intro (by omega) ?_); (try simp only [go_sem, seval, reduceCtorEq, decide_true, Bool.and_self, awaitsS, Tryz.ntmps67, Tryz.results67, Ru3S])) | fail)
    refine W_ret (endQ_ret (end_at [0, 1] ?_))
    simp [go_sem, Ru3S]
  have awaits_at := awaits_at ⟨(al, mp, cs), W, L⟩ q 3 o g w t v (by dsimp only; omega) hW (decide_eq_true hw)
  by_cases hE : E = 0
  · subst hE
    rw [if_pos rfl] at R0
    have Rd_at : RdS.rel [fm al mp cs, iv ((q : Int) + 1), iv g, iv w] [] (.tup [wv (r : Int), iv 0]) [] := R0
    by_cases hr : r = v
    · subst hr
      rw [if_pos ⟨hw, if_pos ⟨rfl, rfl⟩⟩]
      have endT_at : endTS.rel _ _ _ _ := end_t ⟨(al, mp, cs), W, L⟩ al mp cs q 3 o g w t r (by dsimp only; omega) hW
      repeat' (first | refine sA ?_ | ((with_reducible first | refine hK _ ?_ | refine hK _ _ ?_); clear hK K) | ((first | refine sC ?_ | (with_reducible first | refine ops_cons (fun K hK => ?_) | refine opsd_cons (fun K hK => ?_) | refine W_reg [(0, [0, 3]), (1, [0, 3, 5, 6]), (2, [4])] ?_ | refine W_drw [(0, [0, 3]), (1, [0, 3, 5, 6]), (2, [4])] (by kernel_rfl) ?_) | ((with_reducible refine opsd_nil ?_); refine And.intro (by kernel_rfl) ?_) | ((with_reducible refine callV_lend awaitsS [0,1] awaits_ok rfl ?_); simp only [go_sem, seval, reduceCtorEq, decide_true, Bool.and_self]; refine ⟨alk, rfl, _, _, awaits_at , ?_⟩) | ((with_reducible refine callV_lend endTS [0,1] endT_ok rfl ?_); simp only [go_sem, seval, reduceCtorEq, decide_true, Bool.and_self]; refine ⟨alk, rfl, _, _, endT_at , ?_⟩) | with_reducible refine callV_snap ?_ | ((with_reducible refine call_go RdS Rd_ok ?_); refine ⟨alk, _, _, Rd_at , ?_⟩) | with_reducible refine And.intro (fun h => ?_) (fun h => ?_) | with_reducible refine And.intro (by omega) ?_); (try simp only [go_sem, seval, reduceCtorEq, decide_true, Bool.and_self, awaitsS, endTS, Tryz.ntmps67, Tryz.results67, Ru3S])) | fail)
      refine W_ret (endQ_ret (end_at [0, 1] ?_))
      simp [go_sem, Ru3S]
    · have hr' : ¬ (r : Int) = (v : Int) := by omega
      rw [if_neg (fun h => absurd h.2 (by rw [if_neg (fun h => hr h.2)]; decide))]
      repeat' (first | refine sA ?_ | ((with_reducible first | refine hK _ ?_ | refine hK _ _ ?_); clear hK K) | ((first | refine sC ?_ | (with_reducible first | refine ops_cons (fun K hK => ?_) | refine opsd_cons (fun K hK => ?_) | refine W_reg [(0, [0, 3]), (1, [0, 3, 5, 6]), (2, [4])] ?_ | refine W_drw [(0, [0, 3]), (1, [0, 3, 5, 6]), (2, [4])] (by kernel_rfl) ?_) | ((with_reducible refine opsd_nil ?_); refine And.intro (by kernel_rfl) ?_) | ((with_reducible refine callV_lend awaitsS [0,1] awaits_ok rfl ?_); simp only [go_sem, seval, reduceCtorEq, decide_true, Bool.and_self, hr']; refine ⟨alk, rfl, _, _, awaits_at , ?_⟩) | with_reducible refine callV_snap ?_ | ((with_reducible refine call_go RdS Rd_ok ?_); refine ⟨alk, _, _, Rd_at , ?_⟩) | with_reducible refine And.intro (fun h => ?_) (fun h => ?_) | with_reducible refine And.intro (by omega) ?_); (try simp only [go_sem, seval, reduceCtorEq, decide_true, Bool.and_self, hr', awaitsS, Tryz.ntmps67, Tryz.results67, Ru3S])) | fail)
      refine W_ret (endQ_ret (end_at [0, 1] ?_))
      simp [go_sem, Ru3S]
  · rw [if_neg hE] at R0
    have Rd_at : RdS.rel [fm al mp cs, iv ((q : Int) + 1), iv g, iv w] [] (.tup [wv ((0 : Nat) : Int), iv E]) [] := R0
    rw [if_neg (fun h => absurd h.2 (by rw [if_neg (fun h => hE h.1)]; decide))]
    by_cases hr : v = 0
    · subst hr
      have endT_at : endTS.rel _ _ _ _ := end_f ⟨(al, mp, cs), W, L⟩ al mp cs E hE q 3 o g w t 0 (by dsimp only; omega) hW
      repeat' (first | refine sA ?_ | ((with_reducible first | refine hK _ ?_ | refine hK _ _ ?_); clear hK K) | ((first | refine sC ?_ | (with_reducible first | refine ops_cons (fun K hK => ?_) | refine opsd_cons (fun K hK => ?_) | refine W_reg [(0, [0, 3]), (1, [0, 3, 5, 6]), (2, [4])] ?_ | refine W_drw [(0, [0, 3]), (1, [0, 3, 5, 6]), (2, [4])] (by kernel_rfl) ?_) | ((with_reducible refine opsd_nil ?_); refine And.intro (by kernel_rfl) ?_) | ((with_reducible refine callV_lend awaitsS [0,1] awaits_ok rfl ?_); simp only [go_sem, seval, reduceCtorEq, decide_true, Bool.and_self]; refine ⟨alk, rfl, _, _, awaits_at , ?_⟩) | ((with_reducible refine callV_lend endTS [0,1] endT_ok rfl ?_); simp only [go_sem, seval, reduceCtorEq, decide_true, Bool.and_self]; refine ⟨alk, rfl, _, _, endT_at , ?_⟩) | with_reducible refine callV_snap ?_ | ((with_reducible refine call_go RdS Rd_ok ?_); refine ⟨alk, _, _, Rd_at , ?_⟩) | with_reducible refine And.intro (fun h => ?_) (fun h => ?_) | with_reducible refine And.intro (by omega) ?_); (try simp only [go_sem, seval, reduceCtorEq, decide_true, Bool.and_self, awaitsS, endTS, Tryz.ntmps67, Tryz.results67, Ru3S])) | fail)
      refine W_ret (endQ_ret (end_at [0, 1] ?_))
      simp [go_sem, Ru3S]
    · have hr' : ¬ ((0 : Nat) : Int) = (v : Int) := by omega
      have hr'' : ¬ (0 : Int) = (v : Int) := by omega
      repeat' (first | refine sA ?_ | ((with_reducible first | refine hK _ ?_ | refine hK _ _ ?_); clear hK K) | ((first | refine sC ?_ | (with_reducible first | refine ops_cons (fun K hK => ?_) | refine opsd_cons (fun K hK => ?_) | refine W_reg [(0, [0, 3]), (1, [0, 3, 5, 6]), (2, [4])] ?_ | refine W_drw [(0, [0, 3]), (1, [0, 3, 5, 6]), (2, [4])] (by kernel_rfl) ?_) | ((with_reducible refine opsd_nil ?_); refine And.intro (by kernel_rfl) ?_) | ((with_reducible refine callV_lend awaitsS [0,1] awaits_ok rfl ?_); simp only [go_sem, seval, reduceCtorEq, decide_true, Bool.and_self, hr', hr'']; refine ⟨alk, rfl, _, _, awaits_at , ?_⟩) | with_reducible refine callV_snap ?_ | ((with_reducible refine call_go RdS Rd_ok ?_); refine ⟨alk, _, _, Rd_at , ?_⟩) | with_reducible refine And.intro (fun h => ?_) (fun h => ?_) | with_reducible refine And.intro (by omega) ?_); (try simp only [go_sem, seval, reduceCtorEq, decide_true, Bool.and_self, hr', hr'', awaitsS, Tryz.ntmps67, Tryz.results67, Ru3S])) | fail)
      refine W_ret (endQ_ret (end_at [0, 1] ?_))
      simp [go_sem, Ru3S]
set_option maxHeartbeats 4000000 in
theorem ru8_ok : Ok Tryz.prog 72 Ru8S := by
  refine fn_ok Ru8S Tryz.func72 rfl rfl ?_
  rintro args ins res outs ⟨s, x, hv, h0, hk, rfl, rfl, rfl, rfl⟩
  refine ⟨by simp [Tryz.ntmps72], fun w0 V Bo mu0 => ?_⟩
  obtain ⟨al, mp, cs, W, L, q, o, g, w, t, v, rfl, rfl, hq, hW, l2, l3, l1, hu, hf, hz⟩ := ru_pre hv h0 hk
  obtain rfl : t = 0 := by simp [unuO] at hz; omega
  have hn : nx ⟨(al, mp, cs), W, L⟩ ⟨((8 : Nat) : Int), (q : Int) + 1, o, g, w, 0, v⟩ = if W[q]?.getD 0 = 0 ∧ (if mapE al mp cs ((q : Int) + 1) g w = 12 then (0 : Int) else 2) = 0 then some ⟨(al, mp, cs), W.set q 0, L⟩ else none := by simp [nx, opO, ix_succ]
  rw [hn]
  have R0 := Rd_at al mp cs ((q : Int) + 1) g w hu (by omega) (by omega) (by omega)
  generalize mapE al mp cs ((q : Int) + 1) g w = E at *
  generalize (if E = 0 then rdV cs ((q : Int) + 1) g w.toNat else 0) = r at *
  have Rd_at : RdS.rel [fm al mp cs, iv ((q : Int) + 1), iv g, iv w] [] (.tup [wv (r : Int), iv E]) [] := R0
  by_cases hw : W[q]?.getD 0 = 0
  · have rests_at := rests_at ⟨(al, mp, cs), W, L⟩ q (by dsimp only; omega) hW (decide_eq_true hw)
    by_cases hE : E = 12
    · rw [if_pos ⟨hw, if_pos hE⟩, set_self hw]
      repeat' (first | refine sA ?_ | ((with_reducible first | refine hK _ ?_ | refine hK _ _ ?_); clear hK K) | ((first | refine sC ?_ | (with_reducible first | refine ops_cons (fun K hK => ?_) | refine opsd_cons (fun K hK => ?_) | refine W_reg [(0, [0, 3]), (1, [0, 3, 6]), (2, [4])] ?_ | refine W_drw [(0, [0, 3]), (1, [0, 3, 6]), (2, [4])] (by kernel_rfl) ?_) | ((with_reducible refine opsd_nil ?_); refine And.intro (by kernel_rfl) ?_) | ((with_reducible refine callV_lend restsS [0,1] rests_ok rfl ?_); simp only [go_sem, seval, reduceCtorEq, decide_true, Bool.and_self, hE]; refine ⟨alk, rfl, _, _, rests_at , ?_⟩) | with_reducible refine callV_snap ?_ | ((with_reducible refine call_go RdS Rd_ok ?_); refine ⟨alk, _, _, Rd_at , ?_⟩) | with_reducible refine And.intro (fun h => ?_) (fun h => ?_) | with_reducible refine And.intro (by omega) ?_); (try simp only [go_sem, seval, reduceCtorEq, decide_true, Bool.and_self, hE, restsS, Tryz.ntmps72, Tryz.results72, Ru8S])) | fail)
      refine W_ret (endQ_ret (end_at [0, 1] ?_))
      simp [go_sem, Ru8S]
    · rw [if_neg (fun h => absurd h.2 (by rw [if_neg hE]; decide))]
      repeat' (first | refine sA ?_ | ((with_reducible first | refine hK _ ?_ | refine hK _ _ ?_); clear hK K) | ((first | refine sC ?_ | (with_reducible first | refine ops_cons (fun K hK => ?_) | refine opsd_cons (fun K hK => ?_) | refine W_reg [(0, [0, 3]), (1, [0, 3, 6]), (2, [4])] ?_ | refine W_drw [(0, [0, 3]), (1, [0, 3, 6]), (2, [4])] (by kernel_rfl) ?_) | ((with_reducible refine opsd_nil ?_); refine And.intro (by kernel_rfl) ?_) | ((with_reducible refine callV_lend restsS [0,1] rests_ok rfl ?_); simp only [go_sem, seval, reduceCtorEq, decide_true, Bool.and_self, hE]; refine ⟨alk, rfl, _, _, rests_at , ?_⟩) | with_reducible refine callV_snap ?_ | ((with_reducible refine call_go RdS Rd_ok ?_); refine ⟨alk, _, _, Rd_at , ?_⟩) | with_reducible refine And.intro (fun h => ?_) (fun h => ?_) | with_reducible refine And.intro (by omega) ?_); (try simp only [go_sem, seval, reduceCtorEq, decide_true, Bool.and_self, hE, restsS, Tryz.ntmps72, Tryz.results72, Ru8S])) | fail)
      refine W_ret (endQ_ret (end_at [0, 1] ?_))
      simp [go_sem, Ru8S]
  · have rests_at := rests_at ⟨(al, mp, cs), W, L⟩ q (by dsimp only; omega) hW (decide_eq_false hw)
    rw [if_neg (fun h => hw h.1)]
    repeat' (first | refine sA ?_ | ((with_reducible first | refine hK _ ?_ | refine hK _ _ ?_); clear hK K) | ((first | refine sC ?_ | (with_reducible first | refine ops_cons (fun K hK => ?_) | refine opsd_cons (fun K hK => ?_) | refine W_reg [(0, [0, 3]), (1, [0, 3, 6]), (2, [4])] ?_ | refine W_drw [(0, [0, 3]), (1, [0, 3, 6]), (2, [4])] (by kernel_rfl) ?_) | ((with_reducible refine opsd_nil ?_); refine And.intro (by kernel_rfl) ?_) | ((with_reducible refine callV_lend restsS [0,1] rests_ok rfl ?_); simp only [go_sem, seval, reduceCtorEq, decide_true, Bool.and_self]; refine ⟨alk, rfl, _, _, rests_at , ?_⟩) | with_reducible refine callV_snap ?_ | ((with_reducible refine call_go RdS Rd_ok ?_); refine ⟨alk, _, _, Rd_at , ?_⟩) | with_reducible refine And.intro (fun h => ?_) (fun h => ?_) | with_reducible refine And.intro (by omega) ?_); (try simp only [go_sem, seval, reduceCtorEq, decide_true, Bool.and_self, restsS, Tryz.ntmps72, Tryz.results72, Ru8S])) | fail)
    refine W_ret (endQ_ret (end_at [0, 1] ?_))
    simp [go_sem, Ru8S]
set_option maxHeartbeats 4000000 in
theorem ru9_ok : Ok Tryz.prog 73 Ru9S := by
  refine fn_ok Ru9S Tryz.func73 rfl rfl ?_
  rintro args ins res outs ⟨s, x, hv, h0, hk, rfl, rfl, rfl, rfl⟩
  refine ⟨by simp [Tryz.ntmps73], fun w0 V Bo mu0 => ?_⟩
  obtain ⟨al, mp, cs, W, L, q, o, g, w, t, v, rfl, rfl, hq, hW, l2, l3, l1, hu, hf, hz⟩ := ru_pre hv h0 hk
  have hn : nx ⟨(al, mp, cs), W, L⟩ ⟨((9 : Nat) : Int), (q : Int) + 1, o, g, w, t, v⟩ = if W[q]?.getD 0 = 0 ∧ L < t then some ⟨(al, mp, cs), W.set q t, t⟩ else none := by simp [nx, ix_succ]
  rw [hn]
  have hqW : q < W.length := by omega
  have e0 : encU W[q] = [.int .u64 (W[q] : Int)] := rfl
  have hp1 : (q : Int) + 1 - 1 = (q : Int) := by omega
  have hset : ((W.map encU).set q [.int .u64 (t : Int)]) = (W.set q t).map encU := by rw [List.map_set]; rfl
  have hsl : (W.set q t).length = W.length := List.length_set
  by_cases hw : W[q]?.getD 0 = 0
  · have rests_at := rests_at ⟨(al, mp, cs), W, L⟩ q (by dsimp only; omega) hW (decide_eq_true hw)
    by_cases hL : L < t
    · have hL' : ¬ (t : Int) ≤ (L : Int) := by omega
      rw [if_pos ⟨hw, hL⟩]
      repeat' (first | refine sA ?_ | with_reducible refine W_tf rfl (fun h => ?_) (fun h => ?_) | ((with_reducible first | refine hK _ ?_ | refine hK _ _ ?_); clear hK K) | ((with_reducible refine idx_map2 hqW ?_); simp only [go_sem, seval, reduceCtorEq, encU_len, e0, hset]) | ((first | refine sC ?_ | (with_reducible first | refine ops_cons (fun K hK => ?_) | refine opsd_cons (fun K hK => ?_) | refine W_reg [(0, [0, 3]), (1, [0, 3, 19]), (2, [4]), (3, []), (4, [4])] ?_ | refine W_drw [(0, [0, 3]), (1, [0, 3, 19]), (2, [4]), (3, []), (4, [4])] (by kernel_rfl) ?_) | ((with_reducible refine opsd_nil ?_); refine And.intro (by kernel_rfl) ?_) | ((with_reducible refine callV_lend restsS [0,1] rests_ok rfl ?_); simp only [go_sem, seval, reduceCtorEq, hp1, hL', hset, e0, decide_true, Bool.and_self]; refine ⟨alk, rfl, _, _, rests_at , ?_⟩) | with_reducible refine callV_snap ?_ | with_reducible refine And.intro (fun h => ?_) (fun h => ?_) | with_reducible refine And.intro (by omega) ?_); (try simp only [go_sem, seval, reduceCtorEq, hp1, hL', hset, e0, decide_true, Bool.and_self, restsS, Tryz.ntmps73, Tryz.results73, Ru9S])) | fail)
      refine W_ret (endQ_ret (end_at [0, 1] ?_))
      simp [go_sem, Ru9S, hsl]
    · have hL' : (t : Int) ≤ (L : Int) := by omega
      rw [if_neg (fun h => hL h.2)]
      repeat' (first | refine sA ?_ | with_reducible refine W_tf rfl (fun h => ?_) (fun h => ?_) | ((with_reducible first | refine hK _ ?_ | refine hK _ _ ?_); clear hK K) | ((first | refine sC ?_ | (with_reducible first | refine ops_cons (fun K hK => ?_) | refine opsd_cons (fun K hK => ?_) | refine W_reg [(0, [0, 3]), (1, [0, 3, 19]), (2, [4]), (3, []), (4, [4])] ?_ | refine W_drw [(0, [0, 3]), (1, [0, 3, 19]), (2, [4]), (3, []), (4, [4])] (by kernel_rfl) ?_) | ((with_reducible refine opsd_nil ?_); refine And.intro (by kernel_rfl) ?_) | ((with_reducible refine callV_lend restsS [0,1] rests_ok rfl ?_); simp only [go_sem, seval, reduceCtorEq, decide_true, Bool.and_self, hL']; refine ⟨alk, rfl, _, _, rests_at , ?_⟩) | with_reducible refine callV_snap ?_ | with_reducible refine And.intro (fun h => ?_) (fun h => ?_) | with_reducible refine And.intro (by omega) ?_); (try simp only [go_sem, seval, reduceCtorEq, decide_true, Bool.and_self, hL', restsS, Tryz.ntmps73, Tryz.results73, Ru9S])) | fail)
      refine W_ret (endQ_ret (end_at [0, 1] ?_))
      simp [go_sem, Ru9S, hsl]
  · have rests_at := rests_at ⟨(al, mp, cs), W, L⟩ q (by dsimp only; omega) hW (decide_eq_false hw)
    rw [if_neg (fun h => hw h.1)]
    repeat' (first | refine sA ?_ | with_reducible refine W_tf rfl (fun h => ?_) (fun h => ?_) | ((with_reducible first | refine hK _ ?_ | refine hK _ _ ?_); clear hK K) | ((first | refine sC ?_ | (with_reducible first | refine ops_cons (fun K hK => ?_) | refine opsd_cons (fun K hK => ?_) | refine W_reg [(0, [0, 3]), (1, [0, 3, 19]), (2, [4]), (3, []), (4, [4])] ?_ | refine W_drw [(0, [0, 3]), (1, [0, 3, 19]), (2, [4]), (3, []), (4, [4])] (by kernel_rfl) ?_) | ((with_reducible refine opsd_nil ?_); refine And.intro (by kernel_rfl) ?_) | ((with_reducible refine callV_lend restsS [0,1] rests_ok rfl ?_); simp only [go_sem, seval, reduceCtorEq, decide_true, Bool.and_self]; refine ⟨alk, rfl, _, _, rests_at , ?_⟩) | with_reducible refine callV_snap ?_ | with_reducible refine And.intro (fun h => ?_) (fun h => ?_) | with_reducible refine And.intro (by omega) ?_); (try simp only [go_sem, seval, reduceCtorEq, decide_true, Bool.and_self, restsS, Tryz.ntmps73, Tryz.results73, Ru9S])) | fail)
    refine W_ret (endQ_ret (end_at [0, 1] ?_))
    simp [go_sem, Ru9S]
end Go.Proofs.YtpocnjliigjidaaGreat
