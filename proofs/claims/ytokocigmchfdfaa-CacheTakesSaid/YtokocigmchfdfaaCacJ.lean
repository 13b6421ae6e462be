/- The chapter's examples, by the engine. -/
import Derived.Test.YtokocigmchfdfaaCacI
namespace Go.Proofs.Ytokocigmchfdfaa
open Go.RowKit
set_option maxRecDepth 100000
set_option linter.unusedSimpArgs false
set_option linter.unusedVariables false

def firstI (c : List (Int × Int)) : Option Nat := c.findIdx? fun s => s.2 != 255
def lastI (c : List (Int × Int)) : Option Nat := (List.range c.length).reverse.find? fun k => (gt c k).2 != 255
theorem firstI_some {c : List (Int × Int)} {i : Nat} (h : firstI c = some i) : Lo c i := by
  obtain ⟨hi, h1, h2⟩ := List.findIdx?_eq_some_iff_getElem.1 h
  exact ⟨hi, by simpa using h1, fun j hj hji => by simpa using h2 j hji⟩
theorem firstI_none {c : List (Int × Int)} (h : firstI c = none) : Full c := by
  intro s hs
  have := List.findIdx?_eq_none_iff.1 h s hs
  simpa using this
theorem lastI_some {c : List (Int × Int)} {i : Nat} (h : lastI c = some i) : Hi c i := by
  obtain ⟨h1, xa, bs, h2, h3⟩ := List.find?_eq_some_iff_append.1 h
  have hm : i ∈ (List.range c.length).reverse := by rw [h2]; simp
  have hi : i < c.length := by simpa using hm
  refine ⟨hi, by rw [gt_lt hi] at h1; simpa using h1, fun j hj hij => ?_⟩
  have hr : List.range c.length = bs.reverse ++ [i] ++ xa.reverse := by
    have := congrArg List.reverse h2
    simpa using this
  have hbl : bs.length = i := by
    have : (List.range c.length)[bs.length]? = some i := by rw [hr]; simp
    rw [List.getElem?_range (by have := congrArg List.length hr; simp at this; omega)] at this
    simpa using this
  have hja : j ∈ xa := by
    have : (List.range c.length)[j]? = some j := List.getElem?_range hj
    rw [hr, List.getElem?_append_right (by simp; omega)] at this
    simpa using List.mem_of_getElem? this
  have := h3 j hja
  rw [gt_lt hj] at this
  simpa using this
def trun : Nat → List (Int × Int) → Option (List (Int × Int) × List (Int × Int))
  | 0, _ => none
  | n + 1, c => match firstI c, lastI c with
    | none, _ => some (c, [])
    | some _, none => none
    | some i, some j => if i = j then some (c, []) else if i < j then (trun n (nxt c i j)).map fun r => (r.1, mv c i j :: r.2) else none
theorem trun_sound : ∀ (n : Nat) (c c' ms : List (Int × Int)), trun n c = some (c', ms) → TRun c c' ms
  | 0, c, c', ms, h => by simp [trun] at h
  | n + 1, c, c', ms, h => by
    simp only [trun] at h
    split at h
    · rename_i hf
      simp at h
      obtain ⟨rfl, rfl⟩ := h
      exact .full (firstI_none hf)
    · cases h
    · rename_i i j hf hl
      split at h
      · rename_i e
        subst e
        simp at h
        obtain ⟨rfl, rfl⟩ := h
        exact .one (firstI_some hf) (lastI_some hl)
      · split at h
        · rename_i hij
          simp only [Option.map_eq_some_iff] at h
          obtain ⟨⟨d, m⟩, h1, h2⟩ := h
          injection h2 with h2 h3
          subst h2 h3
          exact .step (firstI_some hf) (lastI_some hl) hij (trun_sound n _ _ _ h1)
        · cases h
def valB (c : List (Int × Int)) : Bool := decide (cc c = (0, 0)) && c.all fun s => decide (0 ≤ s.2 ∧ s.2 ≤ 255)
theorem valB_ok {c : List (Int × Int)} (h : valB c = true) : Val c := by
  simp only [valB, Bool.and_eq_true, decide_eq_true_eq, List.all_eq_true] at h
  exact cc_val (fun s hs => by simpa using h.2 s hs) (by rw [h.1])

abbrev mes : List (Int × Int) := [(3, 1), (5, 6), (9, 128)]
def messyS : Spec := { rel := fun args ins res outs => args = [] ∧ ins = [] ∧ res = .row 0 2 0 3 ∧ outs = [.rows 38 2 (mes.map encDS)] }
theorem messy_at : messyS.rel [] [] (.row 0 2 0 3) [.rows 38 2 (mes.map encDS)] := ⟨rfl, rfl, rfl, rfl⟩
theorem messy_ok : Ok Try.prog 39 messyS := by
  refine fn_ok messyS Try.func39 rfl rfl ?_
  rintro args ins res outs ⟨rfl, rfl, rfl, rfl⟩
  refine ⟨by simp [Try.ntmps39], fun w0 V Bo mu0 => ?_⟩
  repeat' (first
    | (with_reducible first | refine W_seq ?_ | refine W_condT rfl ?_ | refine W_condF rfl ?_ | refine W_tf rfl (fun h => ?_) (fun h => ?_) | refine W_block ?_ | refine W_scope ?_ | refine endQ_ret ?_ | refine endQ_normal ?_)
    | ((with_reducible first | refine hK _ ?_ | refine hK _ _ ?_); clear hK K)
    | ((first | (with_reducible first | refine ops_cons (fun K hK => ?_) | refine opsd_cons (fun K hK => ?_) | refine ops_nil ?_ | refine fit_i64 (by omega) ?_ | refine fit_u8 (by omega) ?_ | refine fit_u64 (by omega) ?_ | refine fit_u32 (by omega) ?_ | refine fit_any ?_ | refine quo_nn (by omega) ?_ | refine rem_nn (by omega) ?_ | refine quo_any ?_ | refine rem_any ?_ | refine sh_in (by simp only [IntKind.bits]; omega) ?_) | ((with_reducible refine opsd_nil ?_); refine And.intro (by kernel_rfl) ?_) | ((with_reducible refine callV_row listS list_ok ?_); simp only [go_sem, Nat.reduceAdd, Nat.reduceSub, Nat.reduceMul, Nat.reduceDiv, Nat.reduceMod, Nat.reducePow, Nat.reduceLT, Nat.reduceEqDiff, Nat.reduceBEq, Nat.reduceLeDiff, reduceIte, reduceCtorEq, Int.reduceLT, Int.reduceLE, Int.reduceEq, Int.reduceNe, Int.reduceNeg, Int.reduceAdd, Int.reduceSub, Int.reduceMul, Int.reduceToNat, Int.reducePow, Int.reduceDiv, Int.reduceMod, Nat.reduceSucc, encDS, encDI, listS]; refine ⟨(by first | exact alOk_nil _ | exact alOk_f rfl), rfl, _, _, list_at _ (by simp [flatD]) _ rfl, ?_⟩) | with_reducible refine callV_snap ?_ | ((with_reducible refine call_go slabS slab_ok ?_); refine ⟨(by first | exact alOk_nil _ | exact alOk_f rfl), _, _, slab_at 3 [0] 1 (by decide) (by decide) (by decide +kernel), ?_⟩) | ((with_reducible refine call_go slabS slab_ok ?_); refine ⟨(by first | exact alOk_nil _ | exact alOk_f rfl), _, _, slab_at 5 [1, 2] 6 (by decide) (by decide) (by decide +kernel), ?_⟩) | ((with_reducible refine call_go slabS slab_ok ?_); refine ⟨(by first | exact alOk_nil _ | exact alOk_f rfl), _, _, slab_at 9 [7] 128 (by decide) (by decide) (by decide +kernel), ?_⟩) | (with_reducible first | refine slice_old ?_ | refine app_grow ?_ | refine idx_map (by omega) ?_ | refine W_reg [(0, []), (1, [0])] ?_ | refine W_drw [(0, []), (1, [0])] (by kernel_rfl) ?_ | refine W_label ?_ | refine W_skip ?_ | refine W_exit ?_ | refine W_ret ?_ | refine end_at0 ?_) | (with_reducible refine And.intro (fun h => ?_) (fun h => ?_)) | (with_reducible refine And.intro (by omega) ?_)); (try simp only [go_sem, Nat.reduceAdd, Nat.reduceSub, Nat.reduceMul, Nat.reduceDiv, Nat.reduceMod, Nat.reducePow, Nat.reduceLT, Nat.reduceEqDiff, Nat.reduceBEq, Nat.reduceLeDiff, reduceIte, reduceCtorEq, Int.reduceLT, Int.reduceLE, Int.reduceEq, Int.reduceNe, Int.reduceNeg, Int.reduceAdd, Int.reduceSub, Int.reduceMul, Int.reduceToNat, Int.reducePow, Int.reduceDiv, Int.reduceMod, Nat.reduceSucc, encDS, encDI, listS, listS, Try.ntmps39, Try.results39, messyS]))
    | fail)
  refine end_at [3] ?_
  simp [go_sem, Try.results39, messyS]

def awakeS : Spec := { rel := fun args ins res outs => args = [] ∧ ins = [] ∧ res = bv true ∧ outs = [] }
theorem awake_at : awakeS.rel [] [] (bv true) [] := ⟨rfl, rfl, rfl, rfl⟩
set_option maxHeartbeats 4000000 in
theorem awake_ok : Ok Try.prog 9 awakeS := by
  refine fn_ok awakeS Try.func9 rfl rfl ?_
  rintro args ins res outs ⟨rfl, rfl, rfl, rfl⟩
  refine ⟨by simp [Try.ntmps9], fun w0 V Bo mu0 => ?_⟩
  have hv1 : Val mes := valB_ok (by decide +kernel)
  have hr1 : TRun mes [(3, 15)] [(79, 25), (42, 26), (41, 27)] := trun_sound 5 _ _ _ (by decide +kernel)
  have hsp : spr [(3, 1), (5, 6), (9, 128)] = 2 := by decide +kernel
  have hv2 : Val [(3, 1), (5, 2)] := valB_ok (by decide +kernel)
  have he2 : List.eraseIdx [((3 : Int), (1 : Int)), (5, 2)] 1 = [(3, 1)] := rfl
  repeat' (first
    | (with_reducible first | refine W_seq ?_ | refine W_condT rfl ?_ | refine W_condF rfl ?_ | refine W_tf rfl (fun h => ?_) (fun h => ?_) | refine W_block ?_ | refine W_scope ?_ | refine endQ_ret ?_ | refine endQ_normal ?_)
    | ((with_reducible first | refine hK _ ?_ | refine hK _ _ ?_); clear hK K)
    | ((first | (with_reducible first | refine ops_cons (fun K hK => ?_) | refine opsd_cons (fun K hK => ?_) | refine ops_nil ?_ | refine fit_i64 (by omega) ?_ | refine fit_u8 (by omega) ?_ | refine fit_u64 (by omega) ?_ | refine fit_u32 (by omega) ?_ | refine fit_any ?_ | refine quo_nn (by omega) ?_ | refine rem_nn (by omega) ?_ | refine quo_any ?_ | refine rem_any ?_ | refine sh_in (by simp only [IntKind.bits]; omega) ?_) | ((with_reducible refine opsd_nil ?_); refine And.intro (by kernel_rfl) ?_) | ((with_reducible refine callV_row listS list_ok ?_); simp only [go_sem, Nat.reduceAdd, Nat.reduceSub, Nat.reduceMul, Nat.reduceDiv, Nat.reduceMod, Nat.reducePow, Nat.reduceLT, Nat.reduceEqDiff, Nat.reduceBEq, Nat.reduceLeDiff, reduceIte, reduceCtorEq, Int.reduceLT, Int.reduceLE, Int.reduceEq, Int.reduceNe, Int.reduceNeg, Int.reduceAdd, Int.reduceSub, Int.reduceMul, Int.reduceToNat, Int.reducePow, Int.reduceDiv, Int.reduceMod, Nat.reduceSucc, encDS, encDI, encDM, listS, hsp, he2]; refine ⟨(by first | exact alOk_nil _ | exact alOk_f rfl), rfl, _, _, list_at _ (by simp [flatD]) _ rfl, ?_⟩) | with_reducible refine callV_snap ?_ | ((with_reducible refine call_go messyS messy_ok ?_); refine ⟨(by first | exact alOk_nil _ | exact alOk_f rfl), _, _, messy_at , ?_⟩) | ((with_reducible refine call_go TidyS Tidy_ok ?_); refine ⟨(by first | exact alOk_nil _ | exact alOk_f rfl), _, _, Tidy_at mes [(3, 15)] [(79, 25), (42, 26), (41, 27)] (by decide) hv1 hr1 (by decide), ?_⟩) | ((with_reducible refine call_go SpareS Spare_ok ?_); refine ⟨(by first | exact alOk_nil _ | exact alOk_f rfl), _, _, Spare_at mes (by decide) hv1, ?_⟩) | ((with_reducible refine call_go slabS slab_ok ?_); refine ⟨(by first | exact alOk_nil _ | exact alOk_f rfl), _, _, slab_at 3 [0] 1 (by decide) (by decide) (by decide +kernel), ?_⟩) | ((with_reducible refine call_go slabS slab_ok ?_); refine ⟨(by first | exact alOk_nil _ | exact alOk_f rfl), _, _, slab_at 5 [1] 2 (by decide) (by decide) (by decide +kernel), ?_⟩) | ((with_reducible refine call_go slabS slab_ok ?_); refine ⟨(by first | exact alOk_nil _ | exact alOk_f rfl), _, _, slab_at 7 [0] 1 (by decide) (by decide) (by decide +kernel), ?_⟩) | ((with_reducible refine call_go slabS slab_ok ?_); refine ⟨(by first | exact alOk_nil _ | exact alOk_f rfl), _, _, slab_at 3 [0, 1, 2, 3] 15 (by decide) (by decide) (by decide +kernel), ?_⟩) | ((with_reducible refine call_go FreeDrS FreeDr_ok ?_); refine ⟨(by first | exact alOk_nil _ | exact alOk_f rfl), _, _, FreeDr_at [(3, 1), (5, 2)] 41 1 (by decide) (by decide) hv2 (by decide) (by decide) rfl (by decide +kernel) (by decide +kernel), ?_⟩) | ((with_reducible refine call_go takesES takesE_ok ?_); refine ⟨(by first | exact alOk_nil _ | exact alOk_f rfl), _, _, takesE_at [] 7 56 [(7, 1)] (by decide) (valB_ok (by decide +kernel)) (by intro s hs; cases hs) (by decide) (by decide) (by intro s hs; cases hs) rfl rfl, ?_⟩) | ((with_reducible refine call_go SameS Same_ok ?_); refine ⟨(by first | exact alOk_nil _ | exact alOk_f rfl), _, _, Same_at [(3, 15)] (by decide), ?_⟩) | ((with_reducible refine call_go SameS Same_ok ?_); refine ⟨(by first | exact alOk_nil _ | exact alOk_f rfl), _, _, Same_at [(3, 1)] (by decide), ?_⟩) | ((with_reducible refine call_go smS sm_ok ?_); refine ⟨(by first | exact alOk_nil _ | exact alOk_f rfl), _, _, sm_at [(79, 25), (42, 26), (41, 27)] (by decide), ?_⟩) | (with_reducible first | refine slice_old ?_ | refine app_grow ?_ | refine idx_map (by omega) ?_ | refine W_reg [(0, []), (1, [1, 2, 3]), (2, [1, 2, 3, 4, 5]), (3, [1, 2, 3, 4, 5, 6, 7, 8]), (4, [0])] ?_ | refine W_drw [(0, []), (1, [1, 2, 3]), (2, [1, 2, 3, 4, 5]), (3, [1, 2, 3, 4, 5, 6, 7, 8]), (4, [0])] (by kernel_rfl) ?_ | refine W_label ?_ | refine W_skip ?_ | refine W_exit ?_ | refine W_ret ?_ | refine end_at0 ?_) | (with_reducible refine And.intro (fun h => ?_) (fun h => ?_)) | (with_reducible refine And.intro (by omega) ?_)); (try simp only [go_sem, Nat.reduceAdd, Nat.reduceSub, Nat.reduceMul, Nat.reduceDiv, Nat.reduceMod, Nat.reducePow, Nat.reduceLT, Nat.reduceEqDiff, Nat.reduceBEq, Nat.reduceLeDiff, reduceIte, reduceCtorEq, Int.reduceLT, Int.reduceLE, Int.reduceEq, Int.reduceNe, Int.reduceNeg, Int.reduceAdd, Int.reduceSub, Int.reduceMul, Int.reduceToNat, Int.reducePow, Int.reduceDiv, Int.reduceMod, Nat.reduceSucc, encDS, encDI, encDM, listS, hsp, he2, listS, Try.ntmps9, Try.results9, awakeS]))
    | fail)

def knownS : Spec := { rel := fun args ins res outs => args = [] ∧ ins = [] ∧ res = bv true ∧ outs = [] }
theorem known_at : knownS.rel [] [] (bv true) [] := ⟨rfl, rfl, rfl, rfl⟩
set_option maxHeartbeats 4000000 in
theorem known_ok : Ok Try.prog 4 knownS := by
  refine fn_ok knownS Try.func4 rfl rfl ?_
  rintro args ins res outs ⟨rfl, rfl, rfl, rfl⟩
  refine ⟨by simp [Try.ntmps4], fun w0 V Bo mu0 => ?_⟩
  have v0 : Val [] := valB_ok (by decide +kernel)
  have f0 : Full [] := by intro s hs; cases hs
  have v1 : Val [(3, 255)] := valB_ok (by decide +kernel)
  have f1 : Full [(3, 255)] := by intro s hs; simp at hs; subst hs; rfl
  have v2 : Val [(3, 1), (5, 2)] := valB_ok (by decide +kernel)
  have v3 : Val [(3, 1)] := valB_ok (by decide +kernel)
  have v4 : Val [(3, 3)] := valB_ok (by decide +kernel)
  have v5 : Val [(3, 255), (5, 2), (9, 1)] := valB_ok (by decide +kernel)
  have a2 : At [(3, 1), (5, 2)] (40 / 8) 1 := ⟨by decide, by decide, by decide⟩
  have u2 : ∀ h : 1 < [((3 : Int), (1 : Int)), (5, 2)].length, ([((3 : Int), (1 : Int)), (5, 2)][1]).1 = 40 / 8 → usd ([((3 : Int), (1 : Int)), (5, 2)][1]).2 (40 % 8) = false := fun _ _ => (by decide +kernel : usd 2 0 = false)
  have c1 : cc [(5, 1), (5, 2)] = (8, 1) := by decide +kernel
  have c2 : cc [(5, 0)] = (3, 0) := by decide +kernel
  have l4 : Lo [(3, 3)] 0 := firstI_some (by decide +kernel)
  have l5 : Lo [(3, 255), (5, 2), (9, 1)] 1 := firstI_some (by decide +kernel)
  have g1 : ∀ s ∈ [((3 : Int), (255 : Int))], s.1 < 5 := by intro s hs; simp at hs; subst hs; decide
  repeat' (first
    | (with_reducible first | refine W_seq ?_ | refine W_condT rfl ?_ | refine W_condF rfl ?_ | refine W_tf rfl (fun h => ?_) (fun h => ?_) | refine W_block ?_ | refine W_scope ?_ | refine endQ_ret ?_ | refine endQ_normal ?_)
    | ((with_reducible first | refine hK _ ?_ | refine hK _ _ ?_); clear hK K)
    | ((first | (with_reducible first | refine ops_cons (fun K hK => ?_) | refine opsd_cons (fun K hK => ?_) | refine ops_nil ?_ | refine fit_i64 (by omega) ?_ | refine fit_u8 (by omega) ?_ | refine fit_u64 (by omega) ?_ | refine fit_u32 (by omega) ?_ | refine fit_any ?_ | refine quo_nn (by omega) ?_ | refine rem_nn (by omega) ?_ | refine quo_any ?_ | refine rem_any ?_ | refine sh_in (by simp only [IntKind.bits]; omega) ?_) | ((with_reducible refine opsd_nil ?_); refine And.intro (by kernel_rfl) ?_) | ((with_reducible refine callV_row listS list_ok ?_); simp only [go_sem, Nat.reduceAdd, Nat.reduceSub, Nat.reduceMul, Nat.reduceDiv, Nat.reduceMod, Nat.reducePow, Nat.reduceLT, Nat.reduceEqDiff, Nat.reduceBEq, Nat.reduceLeDiff, reduceIte, reduceCtorEq, Int.reduceLT, Int.reduceLE, Int.reduceEq, Int.reduceNe, Int.reduceNeg, Int.reduceAdd, Int.reduceSub, Int.reduceMul, Int.reduceToNat, Int.reducePow, Int.reduceDiv, Int.reduceMod, Nat.reduceSucc, encDS, encDI, encDM, listS, c1, c2]; refine ⟨(by first | exact alOk_nil _ | exact alOk_f rfl), rfl, _, _, list_at _ (by simp [flatD]) _ rfl, ?_⟩) | with_reducible refine callV_snap ?_ | ((with_reducible refine call_go awakeS awake_ok ?_); refine ⟨(by first | exact alOk_nil _ | exact alOk_f rfl), _, _, awake_at , ?_⟩) | ((with_reducible refine call_go TakeFuS TakeFu_ok ?_); refine ⟨(by first | exact alOk_nil _ | exact alOk_f rfl), _, _, TakeFu_at [] (by decide) v0 f0, ?_⟩) | ((with_reducible refine call_go fullS full_ok ?_); refine ⟨(by first | exact alOk_nil _ | exact alOk_f rfl), _, _, full_at _, ?_⟩) | ((with_reducible refine call_go TakeExS TakeEx_ok ?_); refine ⟨(by first | exact alOk_nil _ | exact alOk_f rfl), _, _, TakeEx_at [(3, 255)] 3 0 (by decide) (by decide) v1 f1 rfl, ?_⟩) | ((with_reducible refine call_go slabS slab_ok ?_); refine ⟨(by first | exact alOk_nil _ | exact alOk_f rfl), _, _, slab_at 3 [0] 1 (by decide) (by decide) (by decide +kernel), ?_⟩) | ((with_reducible refine call_go slabS slab_ok ?_); refine ⟨(by first | exact alOk_nil _ | exact alOk_f rfl), _, _, slab_at 5 [1] 2 (by decide) (by decide) (by decide +kernel), ?_⟩) | ((with_reducible refine call_go slabS slab_ok ?_); refine ⟨(by first | exact alOk_nil _ | exact alOk_f rfl), _, _, slab_at 5 [0] 1 (by decide) (by decide) (by decide +kernel), ?_⟩) | ((with_reducible refine call_go slabS slab_ok ?_); refine ⟨(by first | exact alOk_nil _ | exact alOk_f rfl), _, _, slab_at 5 [] 0 (by decide) (by decide) (by decide +kernel), ?_⟩) | ((with_reducible refine call_go slabS slab_ok ?_); refine ⟨(by first | exact alOk_nil _ | exact alOk_f rfl), _, _, slab_at 3 [0, 1] 3 (by decide) (by decide) (by decide +kernel), ?_⟩) | ((with_reducible refine call_go slabS slab_ok ?_); refine ⟨(by first | exact alOk_nil _ | exact alOk_f rfl), _, _, slab_at 3 [0, 1, 2] 7 (by decide) (by decide) (by decide +kernel), ?_⟩) | ((with_reducible refine call_go slabS slab_ok ?_); refine ⟨(by first | exact alOk_nil _ | exact alOk_f rfl), _, _, slab_at 9 [0] 1 (by decide) (by decide) (by decide +kernel), ?_⟩) | ((with_reducible refine call_go slabS slab_ok ?_); refine ⟨(by first | exact alOk_nil _ | exact alOk_f rfl), _, _, slab_at 5 [0, 1] 3 (by decide) (by decide) (by decide +kernel), ?_⟩) | ((with_reducible refine call_go FreeMsS FreeMs_ok ?_); refine ⟨(by first | exact alOk_nil _ | exact alOk_f rfl), _, _, FreeMs_at [(3, 1), (5, 2)] 40 1 (by decide) v2 (by decide) (by decide) a2 u2, ?_⟩) | ((with_reducible refine call_go FreeRgS FreeRg_ok ?_); refine ⟨(by first | exact alOk_nil _ | exact alOk_f rfl), _, _, FreeRg_at [(3, 1)] 2048 (by decide) v3 (by decide), ?_⟩) | ((with_reducible refine call_go CheckS Check_ok ?_); refine ⟨(by first | exact alOk_nil _ | exact alOk_f rfl), _, _, Check_at [(5, 1), (5, 2)] (by decide), ?_⟩) | ((with_reducible refine call_go CheckS Check_ok ?_); refine ⟨(by first | exact alOk_nil _ | exact alOk_f rfl), _, _, Check_at [(5, 0)] (by decide), ?_⟩) | ((with_reducible refine call_go takesPS takesP_ok ?_); refine ⟨(by first | exact alOk_nil _ | exact alOk_f rfl), _, _, takesP_at [(3, 3)] 5 26 [(3, 7)] 0 (by decide) (by decide) v4 (by decide) (by decide) l4 (by decide +kernel) (by decide +kernel), ?_⟩) | ((with_reducible refine call_go takesES takesE_ok ?_); refine ⟨(by first | exact alOk_nil _ | exact alOk_f rfl), _, _, takesE_at [(3, 255)] 5 40 [(3, 255), (5, 1)] (by decide) v1 f1 (by decide) (by decide) g1 rfl rfl, ?_⟩) | ((with_reducible refine call_go takesPS takesP_ok ?_); refine ⟨(by first | exact alOk_nil _ | exact alOk_f rfl), _, _, takesP_at [(3, 255), (5, 2), (9, 1)] (-1) 40 [(3, 255), (5, 3), (9, 1)] 1 (by decide) (by decide) v5 (by decide) (by decide) l5 (by decide +kernel) (by decide +kernel), ?_⟩) | (with_reducible first | refine slice_old ?_ | refine app_grow ?_ | refine idx_map (by omega) ?_ | refine W_reg [(0, []), (1, [4]), (2, [4, 8]), (3, [4, 8, 11]), (4, [4, 8, 11, 14]), (5, [4, 8, 11, 14, 15, 16]), (6, [4, 8, 11, 14, 15, 16, 17, 18]), (7, [4, 8, 11, 14, 15, 16, 17, 18, 19]), (8, [0])] ?_ | refine W_drw [(0, []), (1, [4]), (2, [4, 8]), (3, [4, 8, 11]), (4, [4, 8, 11, 14]), (5, [4, 8, 11, 14, 15, 16]), (6, [4, 8, 11, 14, 15, 16, 17, 18]), (7, [4, 8, 11, 14, 15, 16, 17, 18, 19]), (8, [0])] (by kernel_rfl) ?_ | refine W_label ?_ | refine W_skip ?_ | refine W_exit ?_ | refine W_ret ?_ | refine end_at0 ?_) | (with_reducible refine And.intro (fun h => ?_) (fun h => ?_)) | (with_reducible refine And.intro (by omega) ?_)); (try simp only [go_sem, Nat.reduceAdd, Nat.reduceSub, Nat.reduceMul, Nat.reduceDiv, Nat.reduceMod, Nat.reducePow, Nat.reduceLT, Nat.reduceEqDiff, Nat.reduceBEq, Nat.reduceLeDiff, reduceIte, reduceCtorEq, Int.reduceLT, Int.reduceLE, Int.reduceEq, Int.reduceNe, Int.reduceNeg, Int.reduceAdd, Int.reduceSub, Int.reduceMul, Int.reduceToNat, Int.reducePow, Int.reduceDiv, Int.reduceMod, Nat.reduceSucc, encDS, encDI, encDM, listS, c1, c2, listS, Try.ntmps4, Try.results4, knownS]))
    | fail)
end Go.Proofs.Ytokocigmchfdfaa
