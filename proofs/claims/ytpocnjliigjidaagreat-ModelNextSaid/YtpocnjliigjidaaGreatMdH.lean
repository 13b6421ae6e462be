import Derived.Test.YtpocnjliigjidaaGreatMdF
import Derived.Test.YtpocnjliigjidaaGreatMdC
/- A story's validity; copies of slices, of stories; the beginning; the table of rules. -/
namespace Go.Proofs.YtpocnjliigjidaaGreat
open Go.RowKit
set_option maxRecDepth 100000
set_option linter.unusedSimpArgs false
set_option linter.unusedVariables false
abbrev lv133MdH : List (Nat × List Nat) := [(0, [0, 1]), (1, [0, 1, 7, 8]), (2, [0, 1, 7, 8, 9]), (3, [0, 1, 5, 7, 8]), (4, [0, 1, 5, 7, 8, 16]), (5, [4]), (6, [0, 1, 7, 8]), (7, [4])]
abbrev lv26MdH : List (Nat × List Nat) := [(0, [1]), (1, [1, 3]), (2, [1, 3, 10]), (3, [2]), (4, [1, 15]), (5, [2]), (6, [1, 18]), (7, [2]), (8, [1, 20, 21, 22]), (9, [1, 20, 21, 22, 23]), (10, [1, 5, 20, 21, 22]), (11, [1, 20, 21, 22, 29]), (12, [2]), (13, [1, 20, 21, 22]), (14, [33]), (15, [2]), (16, [2])]
abbrev lv49MdH : List (Nat × List Nat) := [(0, [0]), (1, [0, 3]), (2, [0, 3, 6, 7, 8]), (3, [0, 3, 6, 7, 8, 9]), (4, [0, 3, 4, 5, 6, 7, 8]), (5, [0, 3, 6, 7, 8, 22]), (6, [2]), (7, [0, 3, 6, 7, 8]), (8, [2])]
abbrev syA (s : Sy) : AV := .agg [.d (.sl (s.m.1.map encDB)), .d (.sl (s.m.2.1.map encU)), .d (.sl (s.m.2.2.map encCl)), .d (.sl (s.W.map encU)), wv (s.L : Int)]
def IxW (l : List Nat) (v : Nat) : Int := match l.findIdx? (fun x => decide (v = x)) with
  | some i => (i : Int)
  | none => -1
def IxWS : Spec := { rel := fun args ins res outs => ∃ (l : List Nat) (v : Nat), l.length ≤ 1000000 ∧ args = [.d (.sl (l.map encU)), wv (v : Int)] ∧ ins = [] ∧ res = iv (IxW l v) ∧ outs = [] }
theorem IxW_at (l : List Nat) (v : Nat) (h : l.length ≤ 1000000) {b : Int} (hb : IxW l v = b) : IxWS.rel [.d (.sl (l.map encU)), wv (v : Int)] [] (iv b) [] := ⟨l, v, h, rfl, rfl, by rw [hb], rfl⟩
theorem IxW_ok : Ok Tryz.prog 133 IxWS := by
  refine fn_ok IxWS Tryz.func133 rfl rfl ?_
  rintro args ins res outs ⟨l, v, hl, rfl, rfl, rfl, rfl⟩
  refine ⟨by simp [Tryz.ntmps133], fun w0 V Bo mu0 => ?_⟩
  repeat' (first | refine sA ?_ | with_reducible refine W_tf rfl (fun h => ?_) (fun h => ?_) | ((with_reducible first | refine hK _ ?_ | refine hK _ _ ?_); clear hK K) | ((first | refine sB ?_ | (with_reducible first | refine ops_cons (fun K hK => ?_) | refine W_reg lv133MdH ?_) | with_reducible refine callV_snap ?_ | with_reducible refine And.intro (fun h => ?_) (fun h => ?_) | with_reducible refine And.intro (by omega) ?_); (try simp only [go_sem, seval, reduceCtorEq, lv133MdH, Tryz.ntmps133, Tryz.results133, IxWS])) | fail)
  refine W_loop (fun i : Nat => ⟨[(0, .d (.sl (l.map encU))), (1, wv (v : Int)), (7, iv (l.length : Int)), (8, iv (i : Int))], []⟩) (fun i => i ≤ l.length ∧ ∀ j (h : j < l.length), j < i → l[j] ≠ v) (fun i => l.length - i) 0 ⟨Nat.zero_le _, fun _ _ h => by omega⟩ [] ?_ ?_
  · simp [go_sem]
  rintro i ⟨hi, hT⟩
  by_cases hlt : i < l.length
  · have hki : (i : Int) < l.length := by omega
    have e0 : encU l[i] = [.int .u64 (l[i] : Int)] := rfl
    by_cases he : v = l[i]
    · have he' : (v : Int) = (l[i] : Int) := by omega
      have hr : IxW l v = (i : Int) := by
        unfold IxW
        have : l.findIdx? (fun x => decide (v = x)) = some i := by
          rw [List.findIdx?_eq_some_iff_getElem]
          exact ⟨hlt, by simpa using he, fun j hj => by have := hT j (by omega) hj; simpa using fun h => this h.symm⟩
        rw [this]
      rw [hr]
      repeat' (first | refine sA ?_ | with_reducible refine W_tf rfl (fun h => ?_) (fun h => ?_) | ((with_reducible first | refine hK _ ?_ | refine hK _ _ ?_); clear hK K) | ((first | refine sB ?_ | (with_reducible first | refine ops_cons (fun K hK => ?_) | refine W_reg lv133MdH ?_) | with_reducible refine callV_snap ?_ | with_reducible refine And.intro (fun h => ?_) (fun h => ?_) | with_reducible refine And.intro (by omega) ?_); (try simp only [go_sem, seval, reduceCtorEq, hki, e0, he', lv133MdH, Tryz.ntmps133, Tryz.results133, IxWS])) | fail)
    · have he' : ¬ (v : Int) = (l[i] : Int) := by omega
      repeat' (first | refine sA ?_ | with_reducible refine W_tf rfl (fun h => ?_) (fun h => ?_) | ((with_reducible first | refine hK _ ?_ | refine hK _ _ ?_); clear hK K) | ((first | refine sB ?_ | (with_reducible first | refine ops_cons (fun K hK => ?_) | refine W_reg lv133MdH ?_) | with_reducible refine callV_snap ?_ | with_reducible refine And.intro (fun h => ?_) (fun h => ?_) | with_reducible refine And.intro (by omega) ?_); (try simp only [go_sem, seval, reduceCtorEq, hki, e0, he', lv133MdH, Tryz.ntmps133, Tryz.results133, IxWS])) | fail)
      refine ⟨i + 1, [], ⟨by omega, fun j h hj => ?_⟩, by omega, ?_⟩
      · by_cases hji : j = i
        · subst hji; exact fun h => he h.symm
        · exact hT j h (by omega)
      · simp [go_sem]
  · have hki : ¬ (i : Int) < l.length := by omega
    have hr : IxW l v = -1 := by
      unfold IxW
      have : l.findIdx? (fun x => decide (v = x)) = none := by
        rw [List.findIdx?_eq_none_iff]
        intro x hx
        obtain ⟨j, hj, rfl⟩ := List.mem_iff_getElem.1 hx
        have := hT j hj (by omega)
        simpa using fun h => this h.symm
      rw [this]
    rw [hr]
    repeat' (first | refine sA ?_ | with_reducible refine W_tf rfl (fun h => ?_) (fun h => ?_) | ((with_reducible first | refine hK _ ?_ | refine hK _ _ ?_); clear hK K) | ((first | refine sB ?_ | (with_reducible first | refine ops_cons (fun K hK => ?_) | refine W_reg lv133MdH ?_) | with_reducible refine callV_snap ?_ | with_reducible refine And.intro (fun h => ?_) (fun h => ?_) | with_reducible refine And.intro (by omega) ?_); (try simp only [go_sem, seval, reduceCtorEq, hki, lv133MdH, Tryz.ntmps133, Tryz.results133, IxWS])) | fail)
theorem ixW_nn (l : List Nat) (v : Nat) : l.contains v = decide (0 ≤ IxW l v) := by
  unfold IxW
  cases h : l.findIdx? (fun x => decide (v = x)) with
  | none =>
    rw [List.findIdx?_eq_none_iff] at h
    have : ¬ v ∈ l := fun hm => by have := h v hm; simp at this
    simpa using this
  | some i =>
    obtain ⟨h1, h2, _⟩ := List.findIdx?_eq_some_iff_getElem.1 h
    simp only [decide_eq_true_eq] at h2
    have : v ∈ l := h2 ▸ List.getElem_mem h1
    simp [this]
def CnWS : Spec := { rel := fun args ins res outs => ∃ (l : List Nat) (v : Nat), l.length ≤ 1000000 ∧ args = [.d (.sl (l.map encU)), wv (v : Int)] ∧ ins = [] ∧ res = bv (l.contains v) ∧ outs = [] }
theorem CnW_at (l : List Nat) (v : Nat) (h : l.length ≤ 1000000) {b : Bool} (hb : l.contains v = b) : CnWS.rel [.d (.sl (l.map encU)), wv (v : Int)] [] (bv b) [] := ⟨l, v, h, rfl, rfl, by rw [hb], rfl⟩
theorem CnW_ok : Ok Tryz.prog 84 CnWS := by
  refine fn_ok CnWS Tryz.func84 rfl rfl ?_
  rintro args ins res outs ⟨l, v, hl, rfl, rfl, rfl, rfl⟩
  refine ⟨by simp [Tryz.ntmps84], fun w0 V Bo mu0 => ?_⟩
  rw [ixW_nn]
  have IxW_at := IxW_at l v hl rfl
  generalize IxW l v = b at *
  repeat' (first | refine sA ?_ | ((with_reducible first | refine hK _ ?_ | refine hK _ _ ?_); clear hK K) | ((first | refine sB ?_ | (with_reducible first | refine ops_cons (fun K hK => ?_) | refine W_reg [(0, [0, 1]), (1, [4])] ?_) | with_reducible refine callV_snap ?_ | ((with_reducible refine call_go IxWS IxW_ok ?_); refine ⟨alk, _, _, IxW_at , ?_⟩) | with_reducible refine And.intro (fun h => ?_) (fun h => ?_) | with_reducible refine And.intro (by omega) ?_); (try simp only [go_sem, seval, reduceCtorEq, Tryz.ntmps84, Tryz.results84, CnWS])) | fail)
  all_goals first | exact dec_t (by omega) | exact dec_f (by omega)
def twcS : Spec := { rel := fun args ins res outs => ∃ (W : List Nat), W.length ≤ 1000000 ∧ args = [.d (.sl (W.map encU))] ∧ ins = [] ∧ res = bv (twc W) ∧ outs = [] }
theorem twc_at (W : List Nat) (h : W.length ≤ 1000000) {b : Bool} (hb : twc W = b) : twcS.rel [.d (.sl (W.map encU))] [] (bv b) [] := ⟨W, h, rfl, rfl, by rw [hb], rfl⟩
theorem twc_ok : Ok Tryz.prog 49 twcS := by
  refine fn_ok twcS Tryz.func49 rfl rfl ?_
  rintro args ins res outs ⟨W, hl, rfl, rfl, rfl, rfl⟩
  refine ⟨by simp [Tryz.ntmps49], fun w0 V Bo mu0 => ?_⟩
  repeat' (first | refine sA ?_ | with_reducible refine W_tf rfl (fun h => ?_) (fun h => ?_) | ((with_reducible first | refine hK _ ?_ | refine hK _ _ ?_); clear hK K) | ((first | refine sB ?_ | (with_reducible first | refine ops_cons (fun K hK => ?_) | refine W_reg lv49MdH ?_) | with_reducible refine callV_snap ?_ | with_reducible refine And.intro (fun h => ?_) (fun h => ?_) | with_reducible refine And.intro (by omega) ?_); (try simp only [go_sem, seval, reduceCtorEq, lv49MdH, Tryz.ntmps49, Tryz.results49, twcS])) | fail)
  refine W_loop (fun i : Nat => ⟨[(0, .d (.sl (W.map encU))), (3, wv 0), (6, .d (.sl (W.map encU))), (7, iv (W.length : Int)), (8, iv (i : Int))], []⟩) (fun i => i ≤ W.length ∧ ∀ j, j < i → (decide (W[j]?.getD 0 ≠ 0) && (W.take j).contains (W[j]?.getD 0)) = false) (fun i => W.length - i) 0 ⟨Nat.zero_le _, fun _ h => by omega⟩ [] ?_ ?_
  · simp [go_sem]
  rintro i ⟨hi, hT⟩
  by_cases hlt : i < W.length
  · have hki : (i : Int) < W.length := by omega
    have e0 : encU W[i] = [.int .u64 (W[i] : Int)] := rfl
    have e2 : W[i]?.getD 0 = W[i] := by simp [hlt]
    have hmap : (W.map encU).take i = (W.take i).map encU := List.map_take.symm
    have htl : (W.take i).length ≤ 1000000 := by rw [List.length_take]; omega
    cases hb : decide (W[i]?.getD 0 ≠ 0) && (W.take i).contains (W[i]?.getD 0) with
    | true =>
      have hr : twc W = true := List.any_eq_true.2 ⟨i, by simpa using hlt, hb⟩
      rw [hr]
      rw [e2] at hb
      obtain ⟨b1, b2⟩ := Bool.and_eq_true_iff.1 hb
      have CnW_at := CnW_at (W.take i) W[i] htl b2
      have hz : ¬ ((W[i] : Nat) : Int) = 0 := by have := of_decide_eq_true b1; omega
      repeat' (first | refine sA ?_ | with_reducible refine W_tf rfl (fun h => ?_) (fun h => ?_) | ((with_reducible first | refine hK _ ?_ | refine hK _ _ ?_); clear hK K) | ((with_reducible refine And.intro (encUe.rows _) ?_)) | ((first | refine sB ?_ | (with_reducible first | refine ops_cons (fun K hK => ?_) | refine W_reg lv49MdH ?_) | with_reducible refine callV_snap ?_ | ((with_reducible refine call_go CnWS CnW_ok ?_); refine ⟨alk, _, _, CnW_at , ?_⟩) | with_reducible refine And.intro (fun h => ?_) (fun h => ?_) | with_reducible refine And.intro (by omega) ?_); (try simp only [go_sem, seval, reduceCtorEq, hki, e0, hz, hmap, Nat.sub_zero, lv49MdH, Tryz.ntmps49, Tryz.results49, twcS])) | fail)
    | false =>
      have next : ∀ j, j < i + 1 → (decide (W[j]?.getD 0 ≠ 0) && (W.take j).contains (W[j]?.getD 0)) = false := fun j hj => by
        by_cases hji : j = i
        · subst hji; exact hb
        · exact hT j (by omega)
      rw [e2] at hb
      by_cases hz : W[i] = 0
      · have hz' : ((W[i] : Nat) : Int) = 0 := by omega
        repeat' (first | refine sA ?_ | with_reducible refine W_tf rfl (fun h => ?_) (fun h => ?_) | ((with_reducible first | refine hK _ ?_ | refine hK _ _ ?_); clear hK K) | ((with_reducible refine And.intro (encUe.rows _) ?_)) | ((first | refine sB ?_ | (with_reducible first | refine ops_cons (fun K hK => ?_) | refine W_reg lv49MdH ?_) | with_reducible refine callV_snap ?_ | with_reducible refine And.intro (fun h => ?_) (fun h => ?_) | with_reducible refine And.intro (by omega) ?_); (try simp only [go_sem, seval, reduceCtorEq, hki, e0, hz', hmap, Nat.sub_zero, lv49MdH, Tryz.ntmps49, Tryz.results49, twcS])) | fail)
        refine ⟨i + 1, [], ⟨by omega, next⟩, by omega, ?_⟩
        simp [go_sem]
      · have hz' : ¬ ((W[i] : Nat) : Int) = 0 := by omega
        have hcf : (W.take i).contains W[i] = false := by simpa [hz] using hb
        have CnW_at := CnW_at (W.take i) W[i] htl hcf
        repeat' (first | refine sA ?_ | with_reducible refine W_tf rfl (fun h => ?_) (fun h => ?_) | ((with_reducible first | refine hK _ ?_ | refine hK _ _ ?_); clear hK K) | ((with_reducible refine And.intro (encUe.rows _) ?_)) | ((first | refine sB ?_ | (with_reducible first | refine ops_cons (fun K hK => ?_) | refine W_reg lv49MdH ?_) | with_reducible refine callV_snap ?_ | ((with_reducible refine call_go CnWS CnW_ok ?_); refine ⟨alk, _, _, CnW_at , ?_⟩) | with_reducible refine And.intro (fun h => ?_) (fun h => ?_) | with_reducible refine And.intro (by omega) ?_); (try simp only [go_sem, seval, reduceCtorEq, hki, e0, hz', hmap, Nat.sub_zero, lv49MdH, Tryz.ntmps49, Tryz.results49, twcS])) | fail)
        refine ⟨i + 1, [], ⟨by omega, next⟩, by omega, ?_⟩
        simp [go_sem]
  · have hki : ¬ (i : Int) < W.length := by omega
    have hr : twc W = false := by
      unfold twc
      rw [List.any_eq_false]
      intro j hj
      have := hT j (by have := List.mem_range.1 hj; omega)
      rw [this]; decide
    rw [hr]
    repeat' (first | refine sA ?_ | with_reducible refine W_tf rfl (fun h => ?_) (fun h => ?_) | ((with_reducible first | refine hK _ ?_ | refine hK _ _ ?_); clear hK K) | ((first | refine sB ?_ | (with_reducible first | refine ops_cons (fun K hK => ?_) | refine W_reg lv49MdH ?_) | with_reducible refine callV_snap ?_ | with_reducible refine And.intro (fun h => ?_) (fun h => ?_) | with_reducible refine And.intro (by omega) ?_); (try simp only [go_sem, seval, reduceCtorEq, hki, lv49MdH, Tryz.ntmps49, Tryz.results49, twcS])) | fail)
def CkyS : Spec := { rel := fun args ins res outs => ∃ s : Sy, U64 s.m.2.1 ∧ s.m.1.length ≤ 1000000 ∧ s.m.2.1.length ≤ 1000000 ∧ s.m.2.2.length ≤ 1000000 ∧ s.W.length ≤ 1000000 ∧ args = [syA s] ∧ ins = [] ∧ res = iv (sye s) ∧ outs = [] }
theorem Cky_at (s : Sy) (h1 : U64 s.m.2.1) (h2 : s.m.1.length ≤ 1000000) (h3 : s.m.2.1.length ≤ 1000000) (h4 : s.m.2.2.length ≤ 1000000) (h5 : s.W.length ≤ 1000000) {e : Int} (he : sye s = e) : CkyS.rel [syA s] [] (iv e) [] := ⟨s, h1, h2, h3, h4, h5, rfl, rfl, by rw [he], rfl⟩
set_option maxHeartbeats 1000000 in
theorem Cky_ok : Ok Tryz.prog 26 CkyS := by
  refine fn_ok CkyS Tryz.func26 rfl rfl ?_
  rintro args ins res outs ⟨⟨⟨al, mp, cs⟩, W, L⟩, hu, h2, h3, h4, h5, rfl, rfl, rfl, rfl⟩
  refine ⟨by simp [Tryz.ntmps26], fun w0 V Bo mu0 => ?_⟩
  dsimp only at *
  unfold sye
  dsimp only
  have C0 := Ck_at al mp cs hu h2 h3 h4
  generalize flchk al mp cs = E at *
  have Ck_at : CkS.rel [fm al mp cs] [] (iv E) [] := C0
  by_cases hE : E = 0
  case neg =>
    rw [if_pos hE]
    repeat' (first | refine sA ?_ | with_reducible refine W_tf rfl (fun h => ?_) (fun h => ?_) | ((with_reducible first | refine hK _ ?_ | refine hK _ _ ?_); clear hK K) | ((first | refine sB ?_ | (with_reducible first | refine ops_cons (fun K hK => ?_) | refine W_reg lv26MdH ?_) | with_reducible refine callV_snap ?_ | ((with_reducible refine call_go CkS Ck_ok ?_); refine ⟨alk, _, _, Ck_at , ?_⟩) | with_reducible refine And.intro (fun h => ?_) (fun h => ?_) | with_reducible refine And.intro (by omega) ?_); (try simp only [go_sem, seval, reduceCtorEq, hE, lv26MdH, Tryz.ntmps26, Tryz.results26, CkyS])) | fail)
  rw [if_neg (fun h => h hE)]
  subst hE
  by_cases h8 : W.length = 8
  case neg =>
    rw [if_pos h8]
    have h8' : ¬ (W.length : Int) = 8 := by omega
    repeat' (first | refine sA ?_ | with_reducible refine W_tf rfl (fun h => ?_) (fun h => ?_) | ((with_reducible first | refine hK _ ?_ | refine hK _ _ ?_); clear hK K) | ((first | refine sB ?_ | (with_reducible first | refine ops_cons (fun K hK => ?_) | refine W_reg lv26MdH ?_) | with_reducible refine callV_snap ?_ | ((with_reducible refine call_go CkS Ck_ok ?_); refine ⟨alk, _, _, Ck_at , ?_⟩) | with_reducible refine And.intro (fun h => ?_) (fun h => ?_) | with_reducible refine And.intro (by omega) ?_); (try simp only [go_sem, seval, reduceCtorEq, h8', lv26MdH, Tryz.ntmps26, Tryz.results26, CkyS])) | fail)
  rw [if_neg (fun h => h h8)]
  have h8' : (W.length : Int) = 8 := by omega
  by_cases hL : mxT < L
  · rw [if_pos hL]
    have hL' : 1099511627776 < (L : Int) := by unfold mxT at hL; omega
    repeat' (first | refine sA ?_ | with_reducible refine W_tf rfl (fun h => ?_) (fun h => ?_) | ((with_reducible first | refine hK _ ?_ | refine hK _ _ ?_); clear hK K) | ((first | refine sB ?_ | (with_reducible first | refine ops_cons (fun K hK => ?_) | refine W_reg lv26MdH ?_) | with_reducible refine callV_snap ?_ | ((with_reducible refine call_go CkS Ck_ok ?_); refine ⟨alk, _, _, Ck_at , ?_⟩) | with_reducible refine And.intro (fun h => ?_) (fun h => ?_) | with_reducible refine And.intro (by omega) ?_); (try simp only [go_sem, seval, reduceCtorEq, h8', hL', lv26MdH, Tryz.ntmps26, Tryz.results26, CkyS])) | fail)
  rw [if_neg hL]
  have hL' : ¬ 1099511627776 < (L : Int) := by unfold mxT at hL; omega
  repeat' (first | refine sA ?_ | with_reducible refine W_tf rfl (fun h => ?_) (fun h => ?_) | ((with_reducible first | refine hK _ ?_ | refine hK _ _ ?_); clear hK K) | ((first | refine sB ?_ | (with_reducible first | refine ops_cons (fun K hK => ?_) | refine W_reg lv26MdH ?_) | with_reducible refine callV_snap ?_ | ((with_reducible refine call_go CkS Ck_ok ?_); refine ⟨alk, _, _, Ck_at , ?_⟩) | with_reducible refine And.intro (fun h => ?_) (fun h => ?_) | with_reducible refine And.intro (by omega) ?_); (try simp only [go_sem, seval, reduceCtorEq, h8', hL', lv26MdH, Tryz.ntmps26, Tryz.results26, CkyS])) | fail)
  refine W_loop (fun i : Nat => ⟨[(1, .ptr 0 0), (20, .d (.sl (W.map encU))), (21, iv 8), (22, iv (i : Int))], [some (.box 40 [.d (.sl (al.map encDB)), .d (.sl (mp.map encU)), .d (.sl (cs.map encCl)), .d (.sl (W.map encU)), wv (L : Int)])]⟩) (fun i => i ≤ W.length ∧ ∀ j (h : j < W.length), j < i → W[j] ≤ L) (fun i => W.length - i) 0 ⟨Nat.zero_le _, fun _ _ h => by omega⟩ [0] ?_ ?_
  · simp [go_sem]
  rintro i ⟨hi, hT⟩
  by_cases hlt : i < W.length
  · have hki : (i : Int) < W.length := by omega
    have hk8 : (i : Int) < 8 := by omega
    have e0 : encU W[i] = [.int .u64 (W[i] : Int)] := rfl
    by_cases hw : L < W[i]
    · have hw' : (L : Int) < (W[i] : Int) := by omega
      rw [if_pos (List.any_eq_true.2 ⟨W[i], List.getElem_mem hlt, by simpa using hw⟩)]
      repeat' (first | refine sA ?_ | with_reducible refine W_tf rfl (fun h => ?_) (fun h => ?_) | ((with_reducible first | refine hK _ ?_ | refine hK _ _ ?_); clear hK K) | ((first | refine sB ?_ | (with_reducible first | refine ops_cons (fun K hK => ?_) | refine W_reg lv26MdH ?_) | with_reducible refine callV_snap ?_ | with_reducible refine And.intro (fun h => ?_) (fun h => ?_) | with_reducible refine And.intro (by omega) ?_); (try simp only [go_sem, seval, reduceCtorEq, hki, hk8, e0, hw', lv26MdH, Tryz.ntmps26, Tryz.results26, CkyS])) | fail)
    · have hw' : ¬ (L : Int) < (W[i] : Int) := by omega
      repeat' (first | refine sA ?_ | with_reducible refine W_tf rfl (fun h => ?_) (fun h => ?_) | ((with_reducible first | refine hK _ ?_ | refine hK _ _ ?_); clear hK K) | ((first | refine sB ?_ | (with_reducible first | refine ops_cons (fun K hK => ?_) | refine W_reg lv26MdH ?_) | with_reducible refine callV_snap ?_ | with_reducible refine And.intro (fun h => ?_) (fun h => ?_) | with_reducible refine And.intro (by omega) ?_); (try simp only [go_sem, seval, reduceCtorEq, hki, hk8, e0, hw', lv26MdH, Tryz.ntmps26, Tryz.results26, CkyS])) | fail)
      refine ⟨i + 1, [0], ⟨by omega, fun j h hj => ?_⟩, by omega, ?_⟩
      · by_cases hji : j = i
        · subst hji; omega
        · exact hT j h (by omega)
      · simp [go_sem]
  · have hki : ¬ (i : Int) < 8 := by omega
    have hn : ¬ W.any (fun w => decide (L < w)) = true := fun h => by
      obtain ⟨w, hw, hb⟩ := List.any_eq_true.1 h
      obtain ⟨j, hj, rfl⟩ := List.mem_iff_getElem.1 hw
      have := hT j hj (by omega)
      simp only [decide_eq_true_eq] at hb
      omega
    rw [if_neg hn]
    have T0 := twc_at W h5 rfl
    cases ht : twc W with
    | true =>
      have twc_at : twcS.rel [.d (.sl (W.map encU))] [] (bv true) [] := ht ▸ T0
      rw [if_pos rfl]
      repeat' (first | refine sA ?_ | with_reducible refine W_tf rfl (fun h => ?_) (fun h => ?_) | ((with_reducible first | refine hK _ ?_ | refine hK _ _ ?_); clear hK K) | ((first | refine sB ?_ | (with_reducible first | refine ops_cons (fun K hK => ?_) | refine W_reg lv26MdH ?_) | with_reducible refine callV_snap ?_ | ((with_reducible refine call_go twcS twc_ok ?_); refine ⟨alk, _, _, twc_at , ?_⟩) | with_reducible refine And.intro (fun h => ?_) (fun h => ?_) | with_reducible refine And.intro (by omega) ?_); (try simp only [go_sem, seval, reduceCtorEq, hki, lv26MdH, Tryz.ntmps26, Tryz.results26, CkyS])) | fail)
    | false =>
      have twc_at : twcS.rel [.d (.sl (W.map encU))] [] (bv false) [] := ht ▸ T0
      rw [if_neg (by decide)]
      repeat' (first | refine sA ?_ | with_reducible refine W_tf rfl (fun h => ?_) (fun h => ?_) | ((with_reducible first | refine hK _ ?_ | refine hK _ _ ?_); clear hK K) | ((first | refine sB ?_ | (with_reducible first | refine ops_cons (fun K hK => ?_) | refine W_reg lv26MdH ?_) | with_reducible refine callV_snap ?_ | ((with_reducible refine call_go twcS twc_ok ?_); refine ⟨alk, _, _, twc_at , ?_⟩) | with_reducible refine And.intro (fun h => ?_) (fun h => ?_) | with_reducible refine And.intro (by omega) ?_); (try simp only [go_sem, seval, reduceCtorEq, hki, lv26MdH, Tryz.ntmps26, Tryz.results26, CkyS])) | fail)
end Go.Proofs.YtpocnjliigjidaaGreat
namespace Go.Proofs.YtpocnjliigjidaaGreat
open Go.RowKit
set_option maxRecDepth 100000
set_option linter.unusedSimpArgs false
set_option linter.unusedVariables false
def SoBS : Spec := { rel := fun args ins res outs => ∃ c : List Bool, c.length ≤ 1000000 ∧ args = [.d (.sl (c.map encDB))] ∧ ins = [] ∧ res = .row 0 1 0 c.length ∧ outs = [.rows 4 1 (c.map encDB)] }
theorem SoB_ok : Ok Tryz.prog 62 SoBS := by
  refine fn_ok SoBS Tryz.func62 rfl rfl ?_
  rintro args ins res outs ⟨c, hc, rfl, rfl, rfl, rfl⟩
  refine ⟨by simp [Tryz.ntmps62], fun w0 V Bo mu0 => ?_⟩
  repeat' (first | refine sA ?_ | ((with_reducible first | refine hK _ ?_ | refine hK _ _ ?_); clear hK K) | ((with_reducible refine And.intro (encB.rows _) ?_)) | ((first | refine sC ?_ | (with_reducible first | refine ops_cons (fun K hK => ?_) | refine W_reg [(0, [0]), (1, [2])] ?_) | with_reducible refine callV_snap ?_ | with_reducible refine And.intro (fun h => ?_) (fun h => ?_) | with_reducible refine And.intro (by omega) ?_); (try simp only [go_sem, seval, reduceCtorEq, Tryz.ntmps62, Tryz.results62, SoBS])) | fail)
  refine W_ret (endQ_ret (end_at [0] ?_))
  have := encB.flat c
  simp [go_sem, Tryz.results62, SoBS]
  simpa [flatD] using this
def SoBFS : Spec := { al := true, rel := fun args ins res outs => ∃ c : List Bool, c.length ≤ 1000000 ∧ args = [.d (.sl (c.map encDB))] ∧ ins = [] ∧ res = .d (.sl (c.map encDB)) ∧ outs = [] }
theorem SoBF_at (c : List Bool) (h : c.length ≤ 1000000) : SoBFS.rel [.d (.sl (c.map encDB))] [] (.d (.sl (c.map encDB))) [] := ⟨c, h, rfl, rfl, rfl, rfl⟩
theorem SoBF_ok : Ok Tryz.prog 62 SoBFS := by
  refine ok_frz SoB_ok SoBFS rfl ?_
  rintro args ins res outs ⟨c, h, rfl, rfl, rfl, rfl⟩
  exact ⟨rfl, rfl, _, _, ⟨c, h, rfl, rfl, rfl, rfl⟩, by simp [frz, frzA, frz1, List.take_of_length_le]⟩
def SoWS : Spec := { rel := fun args ins res outs => ∃ c : List Nat, c.length ≤ 1000000 ∧ args = [.d (.sl (c.map encU))] ∧ ins = [] ∧ res = .row 0 1 0 c.length ∧ outs = [.rows 24 1 (c.map encU)] }
theorem SoW_at (c : List Nat) (h : c.length ≤ 1000000) : SoWS.rel [.d (.sl (c.map encU))] [] (.row 0 1 0 c.length) [.rows 24 1 (c.map encU)] := ⟨c, h, rfl, rfl, rfl, rfl⟩
theorem SoW_ok : Ok Tryz.prog 63 SoWS := by
  refine fn_ok SoWS Tryz.func63 rfl rfl ?_
  rintro args ins res outs ⟨c, hc, rfl, rfl, rfl, rfl⟩
  refine ⟨by simp [Tryz.ntmps63], fun w0 V Bo mu0 => ?_⟩
  repeat' (first | refine sA ?_ | ((with_reducible first | refine hK _ ?_ | refine hK _ _ ?_); clear hK K) | ((with_reducible refine And.intro (encUe.rows _) ?_)) | ((first | refine sC ?_ | (with_reducible first | refine ops_cons (fun K hK => ?_) | refine W_reg [(0, [0]), (1, [2])] ?_) | with_reducible refine callV_snap ?_ | with_reducible refine And.intro (fun h => ?_) (fun h => ?_) | with_reducible refine And.intro (by omega) ?_); (try simp only [go_sem, seval, reduceCtorEq, Tryz.ntmps63, Tryz.results63, SoWS])) | fail)
  refine W_ret (endQ_ret (end_at [0] ?_))
  have := encUe.flat c
  simp [go_sem, Tryz.results63, SoWS]
  simpa [flatD] using this
def SoWFS : Spec := { al := true, rel := fun args ins res outs => ∃ c : List Nat, c.length ≤ 1000000 ∧ args = [.d (.sl (c.map encU))] ∧ ins = [] ∧ res = .d (.sl (c.map encU)) ∧ outs = [] }
theorem SoWF_at (c : List Nat) (h : c.length ≤ 1000000) : SoWFS.rel [.d (.sl (c.map encU))] [] (.d (.sl (c.map encU))) [] := ⟨c, h, rfl, rfl, rfl, rfl⟩
theorem SoWF_ok : Ok Tryz.prog 63 SoWFS := by
  refine ok_frz SoW_ok SoWFS rfl ?_
  rintro args ins res outs ⟨c, h, rfl, rfl, rfl, rfl⟩
  exact ⟨rfl, rfl, _, _, ⟨c, h, rfl, rfl, rfl, rfl⟩, by simp [frz, frzA, frz1, List.take_of_length_le]⟩
def SoCS : Spec := { rel := fun args ins res outs => ∃ c : List Cl, c.length ≤ 1000000 ∧ args = [.d (.sl (c.map encCl))] ∧ ins = [] ∧ res = .row 0 4 0 c.length ∧ outs = [.rows 90 4 (c.map encCl)] }
theorem SoC_ok : Ok Tryz.prog 64 SoCS := by
  refine fn_ok SoCS Tryz.func64 rfl rfl ?_
  rintro args ins res outs ⟨c, hc, rfl, rfl, rfl, rfl⟩
  refine ⟨by simp [Tryz.ntmps64], fun w0 V Bo mu0 => ?_⟩
  repeat' (first | refine sA ?_ | ((with_reducible first | refine hK _ ?_ | refine hK _ _ ?_); clear hK K) | ((with_reducible refine And.intro (encCle.rows _) ?_)) | ((first | refine sC ?_ | (with_reducible first | refine ops_cons (fun K hK => ?_) | refine W_reg [(0, [0]), (1, [2])] ?_) | with_reducible refine callV_snap ?_ | with_reducible refine And.intro (fun h => ?_) (fun h => ?_) | with_reducible refine And.intro (by omega) ?_); (try simp only [go_sem, seval, reduceCtorEq, Tryz.ntmps64, Tryz.results64, SoCS])) | fail)
  refine W_ret (endQ_ret (end_at [0] ?_))
  have := encCle.flat c
  simp [go_sem, Tryz.results64, SoCS]
  simpa [flatD] using this
def SoCFS : Spec := { al := true, rel := fun args ins res outs => ∃ c : List Cl, c.length ≤ 1000000 ∧ args = [.d (.sl (c.map encCl))] ∧ ins = [] ∧ res = .d (.sl (c.map encCl)) ∧ outs = [] }
theorem SoCF_at (c : List Cl) (h : c.length ≤ 1000000) : SoCFS.rel [.d (.sl (c.map encCl))] [] (.d (.sl (c.map encCl))) [] := ⟨c, h, rfl, rfl, rfl, rfl⟩
theorem SoCF_ok : Ok Tryz.prog 64 SoCFS := by
  refine ok_frz SoC_ok SoCFS rfl ?_
  rintro args ins res outs ⟨c, h, rfl, rfl, rfl, rfl⟩
  exact ⟨rfl, rfl, _, _, ⟨c, h, rfl, rfl, rfl, rfl⟩, by simp [frz, frzA, frz1, List.take_of_length_le]⟩
abbrev syR (i : Nat) (s : Sy) : AV := .agg [.d (.sl (s.m.1.map encDB)), .d (.sl (s.m.2.1.map encU)), .d (.sl (s.m.2.2.map encCl)), .row i 1 0 s.W.length, wv (s.L : Int)]
def CpyS : Spec := { al := true, rel := fun args ins res outs => ∃ s : Sy, s.m.1.length ≤ 1000000 ∧ s.m.2.1.length ≤ 1000000 ∧ s.m.2.2.length ≤ 1000000 ∧ s.W.length ≤ 1000000 ∧ args = [syA s] ∧ ins = [] ∧ res = syR 0 s ∧ outs = [.rows 24 1 (s.W.map encU)] }
theorem Cpy_at (s : Sy) (h2 : s.m.1.length ≤ 1000000) (h3 : s.m.2.1.length ≤ 1000000) (h4 : s.m.2.2.length ≤ 1000000) (h5 : s.W.length ≤ 1000000) : CpyS.rel [syA s] [] (syR 0 s) [.rows 24 1 (s.W.map encU)] := ⟨s, h2, h3, h4, h5, rfl, rfl, rfl, rfl⟩
theorem Cpy_ok : Ok Tryz.prog 43 CpyS := by
  refine fn_ok CpyS Tryz.func43 rfl rfl ?_
  rintro args ins res outs ⟨s, h2, h3, h4, h5, rfl, rfl, rfl, rfl⟩
  refine ⟨by simp [Tryz.ntmps43], fun w0 V Bo mu0 => ?_⟩
  repeat' (first | refine sA ?_ | ((with_reducible first | refine hK _ ?_ | refine hK _ _ ?_); clear hK K) | ((first | refine sC ?_ | (with_reducible first | refine ops_cons (fun K hK => ?_) | refine opsd_cons (fun K hK => ?_) | refine W_reg [(0, [1, 2]), (1, [1, 2]), (2, [1, 2]), (3, [2])] ?_ | refine W_drw [(0, [1, 2]), (1, [1, 2]), (2, [1, 2]), (3, [2])] (by kernel_rfl) ?_) | ((with_reducible refine opsd_nil ?_); refine And.intro (by kernel_rfl) ?_) | with_reducible refine callV_snap ?_ | ((with_reducible refine call_go SoBFS SoBF_ok ?_); refine ⟨alk, _, _, SoBF_at s.m.1 h2, ?_⟩) | ((with_reducible refine call_go SoWFS SoWF_ok ?_); refine ⟨alk, _, _, SoWF_at s.m.2.1 h3, ?_⟩) | ((with_reducible refine call_go SoWS SoW_ok ?_); refine ⟨alk, _, _, SoW_at s.W h5, ?_⟩) | ((with_reducible refine call_go SoCFS SoCF_ok ?_); refine ⟨alk, _, _, SoCF_at s.m.2.2 h4, ?_⟩) | with_reducible refine And.intro (fun h => ?_) (fun h => ?_) | with_reducible refine And.intro (by omega) ?_); (try simp only [go_sem, seval, reduceCtorEq, Tryz.ntmps43, Tryz.results43, CpyS])) | fail)
  refine W_ret (endQ_ret (end_at [2] ?_))
  have := encUe.flat s.W
  simp [go_sem, Tryz.results43, CpyS]
  trace_state
def MNewS : Spec := { al := true, rel := fun args ins res outs => args = [] ∧ ins = [] ∧ res = syR 0 sy0 ∧ outs = [.rows 24 1 (mp0.map encU)] }
theorem MNew_at : MNewS.rel [] [] (syR 0 sy0) [.rows 24 1 (mp0.map encU)] := ⟨rfl, rfl, rfl, rfl⟩
theorem MNew_ok : Ok Tryz.prog 24 MNewS := by
  refine fn_ok MNewS Tryz.func24 rfl rfl ?_
  rintro args ins res outs ⟨rfl, rfl, rfl, rfl⟩
  refine ⟨by simp [Tryz.ntmps24], fun w0 V Bo mu0 => ?_⟩
  repeat' (first | refine sA ?_ | ((with_reducible first | refine hK _ ?_ | refine hK _ _ ?_); clear hK K) | ((first | refine sC ?_ | (with_reducible first | refine ops_cons (fun K hK => ?_) | refine opsd_cons (fun K hK => ?_) | refine W_reg [(0, [0]), (1, [0])] ?_ | refine W_drw [(0, [0]), (1, [0])] (by kernel_rfl) ?_) | ((with_reducible refine opsd_nil ?_); refine And.intro (by kernel_rfl) ?_) | with_reducible refine callV_snap ?_ | ((with_reducible refine call_go NewFS NewF_ok ?_); refine ⟨alk, _, _, NewF_at , ?_⟩) | with_reducible refine And.intro (fun h => ?_) (fun h => ?_) | with_reducible refine And.intro (by omega) ?_); (try simp only [go_sem, seval, reduceCtorEq, Tryz.ntmps24, Tryz.results24, MNewS])) | fail)
  refine W_ret (endQ_ret (end_at [1] ?_))
  simp [go_sem, Tryz.results24, MNewS, encU, sy0]
  trace_state
def MNewFS : Spec := { al := true, rel := fun args ins res outs => args = [] ∧ ins = [] ∧ res = syA sy0 ∧ outs = [] }
theorem MNewF_at : MNewFS.rel [] [] (syA sy0) [] := ⟨rfl, rfl, rfl, rfl⟩
theorem MNewF_ok : Ok Tryz.prog 24 MNewFS := by
  refine ok_frz MNew_ok MNewFS rfl ?_
  rintro args ins res outs ⟨rfl, rfl, rfl, rfl⟩
  exact ⟨rfl, rfl, _, _, ⟨rfl, rfl, rfl, rfl⟩, rfl⟩
def rfn (n : Nat) : Nat := if n = 1 then 65 else if n = 2 then 66 else if n = 3 then 67 else if n = 4 then 68 else if n = 5 then 69 else if n = 6 then 70 else if n = 7 then 71 else if n = 8 then 72 else if n = 9 then 73 else if n = 10 then 74 else 75
def fvl (n : Nat) : Value := .func (.func (rfn n)) #[] #[]
def ruE : List Ie := [⟨1, fvl 1, 0⟩, ⟨2, fvl 2, 1⟩, ⟨3, fvl 3, 2⟩, ⟨4, fvl 4, 3⟩, ⟨5, fvl 5, 4⟩, ⟨6, fvl 6, 5⟩, ⟨7, fvl 7, 6⟩, ⟨8, fvl 8, 7⟩, ⟨9, fvl 9, 8⟩, ⟨10, fvl 10, 9⟩, ⟨11, fvl 11, 10⟩]
def ruleS : Spec := { rel := fun args ins res outs => args = [] ∧ ins = [] ∧ res = .mp 0 ∧ outs = [imO ruE 11] }
theorem rule_at : ruleS.rel [] [] (.mp 0) [imO ruE 11] := ⟨rfl, rfl, rfl, rfl⟩
theorem ip0 (v1 : Value) : iput [] 0 1 v1 = ([⟨1, v1, 0⟩], 1) := rfl
theorem ip1 (v1 v2 : Value) : iput [⟨1, v1, 0⟩] 1 2 v2 = ([⟨1, v1, 0⟩, ⟨2, v2, 1⟩], 2) := rfl
theorem ip2 (v1 v2 v3 : Value) : iput [⟨1, v1, 0⟩, ⟨2, v2, 1⟩] 2 3 v3 = ([⟨1, v1, 0⟩, ⟨2, v2, 1⟩, ⟨3, v3, 2⟩], 3) := rfl
theorem ip3 (v1 v2 v3 v4 : Value) : iput [⟨1, v1, 0⟩, ⟨2, v2, 1⟩, ⟨3, v3, 2⟩] 3 4 v4 = ([⟨1, v1, 0⟩, ⟨2, v2, 1⟩, ⟨3, v3, 2⟩, ⟨4, v4, 3⟩], 4) := rfl
theorem ip4 (v1 v2 v3 v4 v5 : Value) : iput [⟨1, v1, 0⟩, ⟨2, v2, 1⟩, ⟨3, v3, 2⟩, ⟨4, v4, 3⟩] 4 5 v5 = ([⟨1, v1, 0⟩, ⟨2, v2, 1⟩, ⟨3, v3, 2⟩, ⟨4, v4, 3⟩, ⟨5, v5, 4⟩], 5) := rfl
theorem ip5 (v1 v2 v3 v4 v5 v6 : Value) : iput [⟨1, v1, 0⟩, ⟨2, v2, 1⟩, ⟨3, v3, 2⟩, ⟨4, v4, 3⟩, ⟨5, v5, 4⟩] 5 6 v6 = ([⟨1, v1, 0⟩, ⟨2, v2, 1⟩, ⟨3, v3, 2⟩, ⟨4, v4, 3⟩, ⟨5, v5, 4⟩, ⟨6, v6, 5⟩], 6) := rfl
theorem ip6 (v1 v2 v3 v4 v5 v6 v7 : Value) : iput [⟨1, v1, 0⟩, ⟨2, v2, 1⟩, ⟨3, v3, 2⟩, ⟨4, v4, 3⟩, ⟨5, v5, 4⟩, ⟨6, v6, 5⟩] 6 7 v7 = ([⟨1, v1, 0⟩, ⟨2, v2, 1⟩, ⟨3, v3, 2⟩, ⟨4, v4, 3⟩, ⟨5, v5, 4⟩, ⟨6, v6, 5⟩, ⟨7, v7, 6⟩], 7) := rfl
theorem ip7 (v1 v2 v3 v4 v5 v6 v7 v8 : Value) : iput [⟨1, v1, 0⟩, ⟨2, v2, 1⟩, ⟨3, v3, 2⟩, ⟨4, v4, 3⟩, ⟨5, v5, 4⟩, ⟨6, v6, 5⟩, ⟨7, v7, 6⟩] 7 8 v8 = ([⟨1, v1, 0⟩, ⟨2, v2, 1⟩, ⟨3, v3, 2⟩, ⟨4, v4, 3⟩, ⟨5, v5, 4⟩, ⟨6, v6, 5⟩, ⟨7, v7, 6⟩, ⟨8, v8, 7⟩], 8) := rfl
theorem ip8 (v1 v2 v3 v4 v5 v6 v7 v8 v9 : Value) : iput [⟨1, v1, 0⟩, ⟨2, v2, 1⟩, ⟨3, v3, 2⟩, ⟨4, v4, 3⟩, ⟨5, v5, 4⟩, ⟨6, v6, 5⟩, ⟨7, v7, 6⟩, ⟨8, v8, 7⟩] 8 9 v9 = ([⟨1, v1, 0⟩, ⟨2, v2, 1⟩, ⟨3, v3, 2⟩, ⟨4, v4, 3⟩, ⟨5, v5, 4⟩, ⟨6, v6, 5⟩, ⟨7, v7, 6⟩, ⟨8, v8, 7⟩, ⟨9, v9, 8⟩], 9) := rfl
theorem ip9 (v1 v2 v3 v4 v5 v6 v7 v8 v9 v10 : Value) : iput [⟨1, v1, 0⟩, ⟨2, v2, 1⟩, ⟨3, v3, 2⟩, ⟨4, v4, 3⟩, ⟨5, v5, 4⟩, ⟨6, v6, 5⟩, ⟨7, v7, 6⟩, ⟨8, v8, 7⟩, ⟨9, v9, 8⟩] 9 10 v10 = ([⟨1, v1, 0⟩, ⟨2, v2, 1⟩, ⟨3, v3, 2⟩, ⟨4, v4, 3⟩, ⟨5, v5, 4⟩, ⟨6, v6, 5⟩, ⟨7, v7, 6⟩, ⟨8, v8, 7⟩, ⟨9, v9, 8⟩, ⟨10, v10, 9⟩], 10) := rfl
theorem ip10 (v1 v2 v3 v4 v5 v6 v7 v8 v9 v10 v11 : Value) : iput [⟨1, v1, 0⟩, ⟨2, v2, 1⟩, ⟨3, v3, 2⟩, ⟨4, v4, 3⟩, ⟨5, v5, 4⟩, ⟨6, v6, 5⟩, ⟨7, v7, 6⟩, ⟨8, v8, 7⟩, ⟨9, v9, 8⟩, ⟨10, v10, 9⟩] 10 11 v11 = ([⟨1, v1, 0⟩, ⟨2, v2, 1⟩, ⟨3, v3, 2⟩, ⟨4, v4, 3⟩, ⟨5, v5, 4⟩, ⟨6, v6, 5⟩, ⟨7, v7, 6⟩, ⟨8, v8, 7⟩, ⟨9, v9, 8⟩, ⟨10, v10, 9⟩, ⟨11, v11, 10⟩], 11) := rfl
theorem rule_ok : Ok Tryz.prog 44 ruleS := by
  refine fn_ok ruleS Tryz.func44 rfl rfl ?_
  rintro args ins res outs ⟨rfl, rfl, rfl, rfl⟩
  refine ⟨by simp [Tryz.ntmps44], fun w0 V Bo mu0 => ?_⟩
  repeat' (first | refine sA ?_ | ((with_reducible first | refine hK _ ?_ | refine hK _ _ ?_); clear hK K) | ((refine ext_imake rfl ?_ rfl ?_) <;> simp only [go_sem, seval, reduceCtorEq]) | ((refine ext_iput (.inr rfl) rfl rfl rfl rfl rfl (only_fn _) rfl ?_); simp only [go_sem, seval, reduceCtorEq, ip0, ip1, ip2, ip3, ip4, ip5, ip6, ip7, ip8, ip9, ip10]) | ((first | refine sC ?_ | (with_reducible first | refine ops_cons (fun K hK => ?_) | refine W_reg [(0, []), (1, [0])] ?_) | with_reducible refine And.intro (fun h => ?_) (fun h => ?_) | with_reducible refine And.intro (by omega) ?_); (try simp only [go_sem, seval, reduceCtorEq, Tryz.ntmps44, Tryz.results44, ruleS])) | fail)
  refine W_ret (endQ_ret (end_at [0] ?_))
  simp [go_sem, Tryz.results44, ruleS]
  all_goals rfl
def ruxS {n : Nat} : Spec := { al := true, rel := fun args ins res outs => RuR n args ins res outs }
theorem rux_all {n : Nat} (h1 : 1 ≤ n) (h2 : n ≤ 11) : Ok Tryz.prog (rfn n) (ruxS (n := n)) := by
  rcases (show n = 1 ∨ n = 2 ∨ n = 3 ∨ n = 4 ∨ n = 5 ∨ n = 6 ∨ n = 7 ∨ n = 8 ∨ n = 9 ∨ n = 10 ∨ n = 11 by omega) with rfl | rfl | rfl | rfl | rfl | rfl | rfl | rfl | rfl | rfl | rfl
  · exact ru1_ok
  · exact ru2_ok
  · exact ru3_ok
  · exact ru4_ok
  · exact ru5_ok
  · exact ru6_ok
  · exact ru7_ok
  · exact ru8_ok
  · exact ru9_ok
  · exact ru10_ok
  · exact ru11_ok
theorem iget_ru {n : Nat} (h1 : 1 ≤ n) (h2 : n ≤ 11) : iget ruE (n : Int) = some (fvl n) := by
  rcases (show n = 1 ∨ n = 2 ∨ n = 3 ∨ n = 4 ∨ n = 5 ∨ n = 6 ∨ n = 7 ∨ n = 8 ∨ n = 9 ∨ n = 10 ∨ n = 11 by omega) with rfl | rfl | rfl | rfl | rfl | rfl | rfl | rfl | rfl | rfl | rfl
  all_goals rfl
end Go.Proofs.YtpocnjliigjidaaGreat
