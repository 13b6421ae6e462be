import Derived.Test.YtacfipmigkbncaaBdA
import Derived.Test.YtacfipmigkbncaaEngY

/- The shelf of free blocks, plain: lists of places by order; sorted insertion. -/
namespace Go.Proofs.Ytacfipmigkbncaa
set_option linter.unusedSimpArgs false
set_option linter.unusedVariables false

abbrev lv86BdB : List (Nat × List Nat) := [(0, [0, 1, 2]), (1, [0, 2, 7, 8]), (2, [0, 2, 7, 8, 20]), (3, [8]), (4, [6])]
abbrev Shf := Nat → List Nat
def upd (L : Shf) (k : Nat) (l : List Nat) : Shf := fun j => if j = k then l else L j
def insS (x : Nat) : List Nat → List Nat
  | [] => [x]
  | y :: l => if y < x then y :: insS x l else x :: y :: l
abbrev Asc (l : List Nat) : Prop := l.Pairwise (· < ·)
/-- a shelf: ascending places below 256 -/
structure Sh (L : Shf) : Prop where
  asc : ∀ k, Asc (L k)
  lt : ∀ k, ∀ x ∈ L k, x < 256

theorem insS_len (x : Nat) : ∀ l : List Nat, (insS x l).length = l.length + 1
  | [] => rfl
  | y :: l => by simp only [insS]; split <;> simp [insS_len x l]
theorem insS_mem (x z : Nat) : ∀ l : List Nat, z ∈ insS x l ↔ z = x ∨ z ∈ l
  | [] => by simp [insS]
  | y :: l => by
    simp only [insS]
    split
    · simp only [List.mem_cons, insS_mem x z l]
      constructor
      · rintro (h | h | h) <;> simp [h]
      · rintro (h | h | h) <;> simp [h]
    · simp
theorem insS_asc (x : Nat) : ∀ l : List Nat, Asc l → x ∉ l → Asc (insS x l)
  | [], _, _ => by simp [insS]
  | y :: l, h, hx => by
    obtain ⟨h1, h2⟩ := List.pairwise_cons.1 h
    simp only [List.mem_cons, not_or] at hx
    simp only [insS]
    split
    · rename_i hy
      refine List.pairwise_cons.2 ⟨fun z hz => ?_, insS_asc x l h2 hx.2⟩
      rcases (insS_mem x z l).1 hz with rfl | hz
      · exact hy
      · exact h1 z hz
    · rename_i hy
      refine List.pairwise_cons.2 ⟨fun z hz => ?_, h⟩
      rcases List.mem_cons.1 hz with rfl | hz
      · omega
      · have := h1 z hz; omega
/-- where x stands in an ascending list -/
theorem pos_ex (x : Nat) : ∀ l : List Nat, Asc l → ∃ p, Pos l x p ∧ insS x l = l.take p ++ x :: l.drop p ∧ (x ∈ l ↔ ∃ h : p < l.length, l[p] = x) ∧ (x ∈ l → l.erase x = l.eraseIdx p)
  | [], _ => ⟨0, ⟨Nat.le_refl _, fun j h => by simp at h, fun j h => by simp at h⟩, rfl, by simp, by simp⟩
  | y :: l, h => by
    obtain ⟨h1, h2⟩ := List.pairwise_cons.1 h
    by_cases hy : y < x
    · obtain ⟨p, ⟨a, b, c⟩, d, e, f⟩ := pos_ex x l h2
      refine ⟨p + 1, ⟨by simp; omega, fun j hj hjp => ?_, fun j hj hjp => ?_⟩, ?_, ?_, ?_⟩
      · cases j with
        | zero => exact hy
        | succ j => exact b j (by simpa using hj) (by omega)
      · cases j with
        | zero => omega
        | succ j => exact c j (by simpa using hj) (by omega)
      · simp [insS, hy, d]
      · have hne : x ≠ y := by omega
        simp only [List.mem_cons, hne, false_or, e, List.length_cons, List.getElem_cons_succ]
        constructor
        · rintro ⟨h3, h4⟩; exact ⟨by omega, h4⟩
        · rintro ⟨h3, h4⟩; exact ⟨by omega, h4⟩
      · intro hm
        have hne : (y == x) = false := by simp; omega
        have hm' : x ∈ l := by
          rcases List.mem_cons.1 hm with h | h
          · omega
          · exact h
        rw [List.erase_cons, hne]
        simp [f hm']
    · refine ⟨0, ⟨Nat.zero_le _, fun j _ h => by omega, fun j hj _ => ?_⟩, by simp [insS, hy], ?_, ?_⟩
      · cases j with
        | zero => simp; omega
        | succ j => have := h1 _ (List.getElem_mem (by simpa using hj)); simp; omega
      · constructor
        · intro hm
          refine ⟨by simp, ?_⟩
          rcases List.mem_cons.1 hm with h | h
          · simp [h]
          · have := h1 x h; omega
        · rintro ⟨_, h4⟩; simp at h4; simp [h4]
      · intro hm
        have : y = x := by
          rcases List.mem_cons.1 hm with h | h
          · exact h.symm
          · have := h1 x h; omega
        subst this; simp
theorem asc_erase {l : List Nat} (h : Asc l) (x : Nat) : Asc (l.erase x) := h.sublist List.erase_sublist
theorem asc_nodup {l : List Nat} (h : Asc l) : l.Nodup := h.imp (fun h => Nat.ne_of_lt h)
theorem asc_len : ∀ (l : List Nat) (n : Nat), Asc l → (∀ x ∈ l, x < n) → l.length ≤ n
  | l, n, h, hx => by
    have key : ∀ (l : List Nat) (a : Nat), Asc l → (∀ x ∈ l, a ≤ x ∧ x < n) → l.length ≤ n - a := by
      intro l
      induction l with
      | nil => intro a _ _; simp
      | cons y l ih =>
        intro a h hx
        obtain ⟨h1, h2⟩ := List.pairwise_cons.1 h
        have := ih (y + 1) h2 (fun x hm => ⟨h1 x hm, (hx x (by simp [hm])).2⟩)
        have := hx y (by simp)
        simp; omega
    have := key l 0 h (fun x hm => ⟨Nat.zero_le _, hx x hm⟩)
    omega
theorem Sh.len {L : Shf} (h : Sh L) (k : Nat) : (L k).length ≤ 256 := asc_len _ _ (h.asc k) (h.lt k)
theorem Sh.add {L : Shf} (h : Sh L) {k x : Nat} (hx : x < 256) (hn : x ∉ L k) : Sh (upd L k (insS x (L k))) := by
  refine ⟨fun j => ?_, fun j z hz => ?_⟩
  · unfold upd; split
    · exact insS_asc x _ (h.asc k) hn
    · exact h.asc j
  · unfold upd at hz; split at hz
    · rcases (insS_mem x z _).1 hz with rfl | hz
      · exact hx
      · exact h.lt k z hz
    · exact h.lt j z hz
theorem Sh.del {L : Shf} (h : Sh L) (k x : Nat) : Sh (upd L k ((L k).erase x)) := by
  refine ⟨fun j => ?_, fun j z hz => ?_⟩
  · unfold upd; split
    · exact asc_erase (h.asc k) x
    · exact h.asc j
  · unfold upd at hz; split at hz
    · exact h.lt k z (List.mem_of_mem_erase hz)
    · exact h.lt j z hz
theorem upd_same (L : Shf) (k : Nat) (l : List Nat) : upd L k l k = l := by simp [upd]
theorem upd_ne (L : Shf) {k j : Nat} (l : List Nat) (h : j ≠ k) : upd L k l j = L j := by simp [upd, h]
end Go.Proofs.Ytacfipmigkbncaa

/- The shelf by the engine: add and remove. -/
namespace Go.Proofs.Ytacfipmigkbncaa
open Go.RowKit
set_option maxRecDepth 100000
set_option linter.unusedSimpArgs false
set_option linter.unusedVariables false

abbrev rU (l : List Nat) : Ob := .rows 5 1 (l.map encU)
/-- the shelf as objects: the box is the object i, the rows are those from b on -/
abbrev shBox (b : Nat) (L : Shf) : Ob := .box 112 [.row b 1 0 (L 0).length, .row (b + 1) 1 0 (L 1).length, .row (b + 2) 1 0 (L 2).length, .row (b + 3) 1 0 (L 3).length, .row (b + 4) 1 0 (L 4).length, .row (b + 5) 1 0 (L 5).length, .row (b + 6) 1 0 (L 6).length]
abbrev shI (L : Shf) : List Ob := [shBox 1 L, rU (L 0), rU (L 1), rU (L 2), rU (L 3), rU (L 4), rU (L 5), rU (L 6)]
abbrev shO (L : Shf) : List Ob := [shBox 8 L, rU [], rU [], rU [], rU [], rU [], rU [], rU [], rU (L 0), rU (L 1), rU (L 2), rU (L 3), rU (L 4), rU (L 5), rU (L 6)]

def addS : Spec := { dead := [1, 2, 3, 4, 5, 6, 7], rel := fun args ins res outs => ∃ (L : Shf) (k x : Nat), k ≤ 6 ∧ x < 256 ∧ Sh L ∧ args = [.ptr 0 0, iv x, iv k] ∧ ins = shI L ∧ res = .tup [] ∧ outs = shO (upd L k (insS x (L k))) }
theorem add_at (L : Shf) (k x : Nat) (hk : k ≤ 6) (hx : x < 256) (h : Sh L) : addS.rel [.ptr 0 0, iv x, iv k] (shI L) (.tup []) (shO (upd L k (insS x (L k)))) := ⟨L, k, x, hk, hx, h, rfl, rfl, rfl, rfl⟩
set_option maxHeartbeats 8000000 in
theorem add_ok : Ok Try.prog 87 addS := by
  refine fn_ok addS Try.func87 rfl rfl ?_
  rintro args ins res outs ⟨L, k, x, hk, hx, hL, rfl, rfl, rfl, rfl⟩
  refine ⟨by simp [Try.ntmps87], fun w0 V Bo mu0 => ?_⟩
  refine W_mv 1 rfl ?_
  simp only [go_sem, seval, reduceCtorEq]
  refine W_mv 2 rfl ?_
  simp only [go_sem, seval, reduceCtorEq]
  refine W_mv 3 rfl ?_
  simp only [go_sem, seval, reduceCtorEq]
  refine W_mv 4 rfl ?_
  simp only [go_sem, seval, reduceCtorEq]
  refine W_mv 5 rfl ?_
  simp only [go_sem, seval, reduceCtorEq]
  refine W_mv 6 rfl ?_
  simp only [go_sem, seval, reduceCtorEq]
  refine W_mv 7 rfl ?_
  simp only [go_sem, seval, reduceCtorEq]
  obtain ⟨p, hp, hins, hmem, _⟩ := pos_ex x (L k) (hL.asc k)
  have hl : (L k).length ≤ 1000000 := by have := hL.len k; omega
  have hple : p ≤ (L k).length := hp.le
  have hbd : decide (x ∈ L k) = true ↔ ∃ h : p < (L k).length, (L k)[p] = x := by simp only [decide_eq_true_eq]; exact hmem
  have h7 : k = 0 ∨ k = 1 ∨ k = 2 ∨ k = 3 ∨ k = 4 ∨ k = 5 ∨ k = 6 := by omega
  rcases h7 with rfl | rfl | rfl | rfl | rfl | rfl | rfl
  · have hk' : ((0 : Nat) : Int) = 0 := rfl
    repeat' (first
      | (with_reducible first | refine W_seq ?_ | refine endQ_ret ?_ | refine endQ_normal ?_)
      | ((with_reducible first | refine hK _ ?_ | refine hK _ _ ?_); clear hK K)
      | ((first | (with_reducible first | refine ops_cons (fun K hK => ?_) | refine opsd_cons (fun K hK => ?_) | refine ops_nil ?_ | refine fit_i64 (by omega) ?_ | refine fit_u8 (by omega) ?_ | refine fit_u64 (by omega) ?_ | refine fit_u32 (by omega) ?_ | refine fit_any ?_) | ((with_reducible refine opsd_nil ?_); refine And.intro (by kernel_rfl) ?_) | ((with_reducible refine callV_lend InsS [8,15] Ins_ok rfl ?_); simp only [go_sem, seval, reduceCtorEq, hk', InsS, decide_true, Bool.and_self]; refine ⟨(by first | exact alOk_nil _ | exact alOk_f rfl), rfl, _, _, Ins_at (L 0) x p hple hl, ?_⟩) | with_reducible refine callV_snap ?_ | ((with_reducible refine call_go bsS bs_ok ?_); refine ⟨(by first | exact alOk_nil _ | exact alOk_f rfl), _, _, bs_at _ x p (decide (x ∈ L 0)) hl hp hbd, ?_⟩) | (with_reducible first | refine idx_map (by omega) ?_ | refine W_reg [(0, [0, 1, 2, 6]), (1, [])] ?_ | refine W_drw [(0, [0, 1, 2, 6]), (1, [])] (by kernel_rfl) ?_ | refine end_at0 ?_) | (with_reducible refine And.intro (fun h => ?_) (fun h => ?_)) | (with_reducible refine And.intro (by omega) ?_)); (try simp only [go_sem, seval, reduceCtorEq, hk', InsS, decide_true, Bool.and_self, InsS, Try.ntmps87, Try.results87, addS]))
      | fail)
    refine end_at [0, 1, 2, 3, 4, 5, 6, 7, 16, 9, 10, 11, 12, 13, 14] ?_
    have f0 : ∀ j, ∀ r ∈ (L j).map encU, ∀ z ∈ r, flatD z := fun j => flatU
    have f1 : ∀ r ∈ (insS x (L 0)).map encU, ∀ z ∈ r, flatD z := flatU
    have hil := insS_len x (L 0)
    rw [← hins]
    simp only [go_sem, Try.results87, addS, shO, shBox, rU, upd, reduceIte, Nat.reduceEqDiff, Nat.reduceAdd, hil]
    simp [go_sem, encU]
  · have hk' : ((1 : Nat) : Int) = 1 := rfl
    repeat' (first
      | (with_reducible first | refine W_seq ?_ | refine endQ_ret ?_ | refine endQ_normal ?_)
      | ((with_reducible first | refine hK _ ?_ | refine hK _ _ ?_); clear hK K)
      | ((first | (with_reducible first | refine ops_cons (fun K hK => ?_) | refine opsd_cons (fun K hK => ?_) | refine ops_nil ?_ | refine fit_i64 (by omega) ?_ | refine fit_u8 (by omega) ?_ | refine fit_u64 (by omega) ?_ | refine fit_u32 (by omega) ?_ | refine fit_any ?_) | ((with_reducible refine opsd_nil ?_); refine And.intro (by kernel_rfl) ?_) | ((with_reducible refine callV_lend InsS [9,15] Ins_ok rfl ?_); simp only [go_sem, seval, reduceCtorEq, hk', InsS, decide_true, Bool.and_self]; refine ⟨(by first | exact alOk_nil _ | exact alOk_f rfl), rfl, _, _, Ins_at (L 1) x p hple hl, ?_⟩) | with_reducible refine callV_snap ?_ | ((with_reducible refine call_go bsS bs_ok ?_); refine ⟨(by first | exact alOk_nil _ | exact alOk_f rfl), _, _, bs_at _ x p (decide (x ∈ L 1)) hl hp hbd, ?_⟩) | (with_reducible first | refine idx_map (by omega) ?_ | refine W_reg [(0, [0, 1, 2, 6]), (1, [])] ?_ | refine W_drw [(0, [0, 1, 2, 6]), (1, [])] (by kernel_rfl) ?_ | refine end_at0 ?_) | (with_reducible refine And.intro (fun h => ?_) (fun h => ?_)) | (with_reducible refine And.intro (by omega) ?_)); (try simp only [go_sem, seval, reduceCtorEq, hk', InsS, decide_true, Bool.and_self, InsS, Try.ntmps87, Try.results87, addS]))
      | fail)
    refine end_at [0, 1, 2, 3, 4, 5, 6, 7, 8, 16, 10, 11, 12, 13, 14] ?_
    have f0 : ∀ j, ∀ r ∈ (L j).map encU, ∀ z ∈ r, flatD z := fun j => flatU
    have f1 : ∀ r ∈ (insS x (L 1)).map encU, ∀ z ∈ r, flatD z := flatU
    have hil := insS_len x (L 1)
    rw [← hins]
    simp only [go_sem, Try.results87, addS, shO, shBox, rU, upd, reduceIte, Nat.reduceEqDiff, Nat.reduceAdd, hil]
    simp [go_sem, encU]
  · have hk' : ((2 : Nat) : Int) = 2 := rfl
    repeat' (first
      | (with_reducible first | refine W_seq ?_ | refine endQ_ret ?_ | refine endQ_normal ?_)
      | ((with_reducible first | refine hK _ ?_ | refine hK _ _ ?_); clear hK K)
      | ((first | (with_reducible first | refine ops_cons (fun K hK => ?_) | refine opsd_cons (fun K hK => ?_) | refine ops_nil ?_ | refine fit_i64 (by omega) ?_ | refine fit_u8 (by omega) ?_ | refine fit_u64 (by omega) ?_ | refine fit_u32 (by omega) ?_ | refine fit_any ?_) | ((with_reducible refine opsd_nil ?_); refine And.intro (by kernel_rfl) ?_) | ((with_reducible refine callV_lend InsS [10,15] Ins_ok rfl ?_); simp only [go_sem, seval, reduceCtorEq, hk', InsS, decide_true, Bool.and_self]; refine ⟨(by first | exact alOk_nil _ | exact alOk_f rfl), rfl, _, _, Ins_at (L 2) x p hple hl, ?_⟩) | with_reducible refine callV_snap ?_ | ((with_reducible refine call_go bsS bs_ok ?_); refine ⟨(by first | exact alOk_nil _ | exact alOk_f rfl), _, _, bs_at _ x p (decide (x ∈ L 2)) hl hp hbd, ?_⟩) | (with_reducible first | refine idx_map (by omega) ?_ | refine W_reg [(0, [0, 1, 2, 6]), (1, [])] ?_ | refine W_drw [(0, [0, 1, 2, 6]), (1, [])] (by kernel_rfl) ?_ | refine end_at0 ?_) | (with_reducible refine And.intro (fun h => ?_) (fun h => ?_)) | (with_reducible refine And.intro (by omega) ?_)); (try simp only [go_sem, seval, reduceCtorEq, hk', InsS, decide_true, Bool.and_self, InsS, Try.ntmps87, Try.results87, addS]))
      | fail)
    refine end_at [0, 1, 2, 3, 4, 5, 6, 7, 8, 9, 16, 11, 12, 13, 14] ?_
    have f0 : ∀ j, ∀ r ∈ (L j).map encU, ∀ z ∈ r, flatD z := fun j => flatU
    have f1 : ∀ r ∈ (insS x (L 2)).map encU, ∀ z ∈ r, flatD z := flatU
    have hil := insS_len x (L 2)
    rw [← hins]
    simp only [go_sem, Try.results87, addS, shO, shBox, rU, upd, reduceIte, Nat.reduceEqDiff, Nat.reduceAdd, hil]
    simp [go_sem, encU]
  · have hk' : ((3 : Nat) : Int) = 3 := rfl
    repeat' (first
      | (with_reducible first | refine W_seq ?_ | refine endQ_ret ?_ | refine endQ_normal ?_)
      | ((with_reducible first | refine hK _ ?_ | refine hK _ _ ?_); clear hK K)
      | ((first | (with_reducible first | refine ops_cons (fun K hK => ?_) | refine opsd_cons (fun K hK => ?_) | refine ops_nil ?_ | refine fit_i64 (by omega) ?_ | refine fit_u8 (by omega) ?_ | refine fit_u64 (by omega) ?_ | refine fit_u32 (by omega) ?_ | refine fit_any ?_) | ((with_reducible refine opsd_nil ?_); refine And.intro (by kernel_rfl) ?_) | ((with_reducible refine callV_lend InsS [11,15] Ins_ok rfl ?_); simp only [go_sem, seval, reduceCtorEq, hk', InsS, decide_true, Bool.and_self]; refine ⟨(by first | exact alOk_nil _ | exact alOk_f rfl), rfl, _, _, Ins_at (L 3) x p hple hl, ?_⟩) | with_reducible refine callV_snap ?_ | ((with_reducible refine call_go bsS bs_ok ?_); refine ⟨(by first | exact alOk_nil _ | exact alOk_f rfl), _, _, bs_at _ x p (decide (x ∈ L 3)) hl hp hbd, ?_⟩) | (with_reducible first | refine idx_map (by omega) ?_ | refine W_reg [(0, [0, 1, 2, 6]), (1, [])] ?_ | refine W_drw [(0, [0, 1, 2, 6]), (1, [])] (by kernel_rfl) ?_ | refine end_at0 ?_) | (with_reducible refine And.intro (fun h => ?_) (fun h => ?_)) | (with_reducible refine And.intro (by omega) ?_)); (try simp only [go_sem, seval, reduceCtorEq, hk', InsS, decide_true, Bool.and_self, InsS, Try.ntmps87, Try.results87, addS]))
      | fail)
    refine end_at [0, 1, 2, 3, 4, 5, 6, 7, 8, 9, 10, 16, 12, 13, 14] ?_
    have f0 : ∀ j, ∀ r ∈ (L j).map encU, ∀ z ∈ r, flatD z := fun j => flatU
    have f1 : ∀ r ∈ (insS x (L 3)).map encU, ∀ z ∈ r, flatD z := flatU
    have hil := insS_len x (L 3)
    rw [← hins]
    simp only [go_sem, Try.results87, addS, shO, shBox, rU, upd, reduceIte, Nat.reduceEqDiff, Nat.reduceAdd, hil]
    simp [go_sem, encU]
  · have hk' : ((4 : Nat) : Int) = 4 := rfl
    repeat' (first
      | (with_reducible first | refine W_seq ?_ | refine endQ_ret ?_ | refine endQ_normal ?_)
      | ((with_reducible first | refine hK _ ?_ | refine hK _ _ ?_); clear hK K)
      | ((first | (with_reducible first | refine ops_cons (fun K hK => ?_) | refine opsd_cons (fun K hK => ?_) | refine ops_nil ?_ | refine fit_i64 (by omega) ?_ | refine fit_u8 (by omega) ?_ | refine fit_u64 (by omega) ?_ | refine fit_u32 (by omega) ?_ | refine fit_any ?_) | ((with_reducible refine opsd_nil ?_); refine And.intro (by kernel_rfl) ?_) | ((with_reducible refine callV_lend InsS [12,15] Ins_ok rfl ?_); simp only [go_sem, seval, reduceCtorEq, hk', InsS, decide_true, Bool.and_self]; refine ⟨(by first | exact alOk_nil _ | exact alOk_f rfl), rfl, _, _, Ins_at (L 4) x p hple hl, ?_⟩) | with_reducible refine callV_snap ?_ | ((with_reducible refine call_go bsS bs_ok ?_); refine ⟨(by first | exact alOk_nil _ | exact alOk_f rfl), _, _, bs_at _ x p (decide (x ∈ L 4)) hl hp hbd, ?_⟩) | (with_reducible first | refine idx_map (by omega) ?_ | refine W_reg [(0, [0, 1, 2, 6]), (1, [])] ?_ | refine W_drw [(0, [0, 1, 2, 6]), (1, [])] (by kernel_rfl) ?_ | refine end_at0 ?_) | (with_reducible refine And.intro (fun h => ?_) (fun h => ?_)) | (with_reducible refine And.intro (by omega) ?_)); (try simp only [go_sem, seval, reduceCtorEq, hk', InsS, decide_true, Bool.and_self, InsS, Try.ntmps87, Try.results87, addS]))
      | fail)
    refine end_at [0, 1, 2, 3, 4, 5, 6, 7, 8, 9, 10, 11, 16, 13, 14] ?_
    have f0 : ∀ j, ∀ r ∈ (L j).map encU, ∀ z ∈ r, flatD z := fun j => flatU
    have f1 : ∀ r ∈ (insS x (L 4)).map encU, ∀ z ∈ r, flatD z := flatU
    have hil := insS_len x (L 4)
    rw [← hins]
    simp only [go_sem, Try.results87, addS, shO, shBox, rU, upd, reduceIte, Nat.reduceEqDiff, Nat.reduceAdd, hil]
    simp [go_sem, encU]
  · have hk' : ((5 : Nat) : Int) = 5 := rfl
    repeat' (first
      | (with_reducible first | refine W_seq ?_ | refine endQ_ret ?_ | refine endQ_normal ?_)
      | ((with_reducible first | refine hK _ ?_ | refine hK _ _ ?_); clear hK K)
      | ((first | (with_reducible first | refine ops_cons (fun K hK => ?_) | refine opsd_cons (fun K hK => ?_) | refine ops_nil ?_ | refine fit_i64 (by omega) ?_ | refine fit_u8 (by omega) ?_ | refine fit_u64 (by omega) ?_ | refine fit_u32 (by omega) ?_ | refine fit_any ?_) | ((with_reducible refine opsd_nil ?_); refine And.intro (by kernel_rfl) ?_) | ((with_reducible refine callV_lend InsS [13,15] Ins_ok rfl ?_); simp only [go_sem, seval, reduceCtorEq, hk', InsS, decide_true, Bool.and_self]; refine ⟨(by first | exact alOk_nil _ | exact alOk_f rfl), rfl, _, _, Ins_at (L 5) x p hple hl, ?_⟩) | with_reducible refine callV_snap ?_ | ((with_reducible refine call_go bsS bs_ok ?_); refine ⟨(by first | exact alOk_nil _ | exact alOk_f rfl), _, _, bs_at _ x p (decide (x ∈ L 5)) hl hp hbd, ?_⟩) | (with_reducible first | refine idx_map (by omega) ?_ | refine W_reg [(0, [0, 1, 2, 6]), (1, [])] ?_ | refine W_drw [(0, [0, 1, 2, 6]), (1, [])] (by kernel_rfl) ?_ | refine end_at0 ?_) | (with_reducible refine And.intro (fun h => ?_) (fun h => ?_)) | (with_reducible refine And.intro (by omega) ?_)); (try simp only [go_sem, seval, reduceCtorEq, hk', InsS, decide_true, Bool.and_self, InsS, Try.ntmps87, Try.results87, addS]))
      | fail)
    refine end_at [0, 1, 2, 3, 4, 5, 6, 7, 8, 9, 10, 11, 12, 16, 14] ?_
    have f0 : ∀ j, ∀ r ∈ (L j).map encU, ∀ z ∈ r, flatD z := fun j => flatU
    have f1 : ∀ r ∈ (insS x (L 5)).map encU, ∀ z ∈ r, flatD z := flatU
    have hil := insS_len x (L 5)
    rw [← hins]
    simp only [go_sem, Try.results87, addS, shO, shBox, rU, upd, reduceIte, Nat.reduceEqDiff, Nat.reduceAdd, hil]
    simp [go_sem, encU]
  · have hk' : ((6 : Nat) : Int) = 6 := rfl
    repeat' (first
      | (with_reducible first | refine W_seq ?_ | refine endQ_ret ?_ | refine endQ_normal ?_)
      | ((with_reducible first | refine hK _ ?_ | refine hK _ _ ?_); clear hK K)
      | ((first | (with_reducible first | refine ops_cons (fun K hK => ?_) | refine opsd_cons (fun K hK => ?_) | refine ops_nil ?_ | refine fit_i64 (by omega) ?_ | refine fit_u8 (by omega) ?_ | refine fit_u64 (by omega) ?_ | refine fit_u32 (by omega) ?_ | refine fit_any ?_) | ((with_reducible refine opsd_nil ?_); refine And.intro (by kernel_rfl) ?_) | ((with_reducible refine callV_lend InsS [14,15] Ins_ok rfl ?_); simp only [go_sem, seval, reduceCtorEq, hk', InsS, decide_true, Bool.and_self]; refine ⟨(by first | exact alOk_nil _ | exact alOk_f rfl), rfl, _, _, Ins_at (L 6) x p hple hl, ?_⟩) | with_reducible refine callV_snap ?_ | ((with_reducible refine call_go bsS bs_ok ?_); refine ⟨(by first | exact alOk_nil _ | exact alOk_f rfl), _, _, bs_at _ x p (decide (x ∈ L 6)) hl hp hbd, ?_⟩) | (with_reducible first | refine idx_map (by omega) ?_ | refine W_reg [(0, [0, 1, 2, 6]), (1, [])] ?_ | refine W_drw [(0, [0, 1, 2, 6]), (1, [])] (by kernel_rfl) ?_ | refine end_at0 ?_) | (with_reducible refine And.intro (fun h => ?_) (fun h => ?_)) | (with_reducible refine And.intro (by omega) ?_)); (try simp only [go_sem, seval, reduceCtorEq, hk', InsS, decide_true, Bool.and_self, InsS, Try.ntmps87, Try.results87, addS]))
      | fail)
    refine end_at [0, 1, 2, 3, 4, 5, 6, 7, 8, 9, 10, 11, 12, 13, 16] ?_
    have f0 : ∀ j, ∀ r ∈ (L j).map encU, ∀ z ∈ r, flatD z := fun j => flatU
    have f1 : ∀ r ∈ (insS x (L 6)).map encU, ∀ z ∈ r, flatD z := flatU
    have hil := insS_len x (L 6)
    rw [← hins]
    simp only [go_sem, Try.results87, addS, shO, shBox, rU, upd, reduceIte, Nat.reduceEqDiff, Nat.reduceAdd, hil]
    simp [go_sem, encU]

def removeS : Spec := { rel := fun args ins res outs => ∃ (L : Shf) (k x : Nat), k ≤ 6 ∧ x < 256 ∧ Sh L ∧ args = [.ptr 0 0, iv x, iv k] ∧ ins = shI L ∧ res = bv (decide (x ∈ L k)) ∧ outs = shI (upd L k ((L k).erase x)) }
theorem remove_at (L : Shf) (k x : Nat) (hk : k ≤ 6) (hx : x < 256) (h : Sh L) : removeS.rel [.ptr 0 0, iv x, iv k] (shI L) (bv (decide (x ∈ L k))) (shI (upd L k ((L k).erase x))) := ⟨L, k, x, hk, hx, h, rfl, rfl, rfl, rfl⟩
set_option maxHeartbeats 8000000 in
theorem remove_ok : Ok Try.prog 86 removeS := by
  refine fn_ok removeS Try.func86 rfl rfl ?_
  rintro args ins res outs ⟨L, k, x, hk, hx, hL, rfl, rfl, rfl, rfl⟩
  refine ⟨by simp [Try.ntmps86], fun w0 V Bo mu0 => ?_⟩
  obtain ⟨p, hp, _, hmem, her⟩ := pos_ex x (L k) (hL.asc k)
  have hl : (L k).length ≤ 1000000 := by have := hL.len k; omega
  have hple : p ≤ (L k).length := hp.le
  have hbd : decide (x ∈ L k) = true ↔ ∃ h : p < (L k).length, (L k)[p] = x := by simp only [decide_eq_true_eq]; exact hmem
  have h7 : k = 0 ∨ k = 1 ∨ k = 2 ∨ k = 3 ∨ k = 4 ∨ k = 5 ∨ k = 6 := by omega
  by_cases hm : x ∈ L k
  · have hplt : p < (L k).length := (hmem.1 hm).1
    have he := her hm
    have hel : ((L k).eraseIdx p).length = (L k).length - 1 := by simp [List.length_eraseIdx, hplt]
    rw [decide_eq_true hm] at hbd
    rw [decide_eq_true hm, he]
    clear her hmem he
    rcases h7 with rfl | rfl | rfl | rfl | rfl | rfl | rfl
    · have hk' : ((0 : Nat) : Int) = 0 := rfl
      repeat' (first
        | (with_reducible first | refine W_seq ?_ | refine W_condT rfl ?_ | refine W_condF rfl ?_ | refine W_tf rfl (fun h => ?_) (fun h => ?_) | refine endQ_ret ?_ | refine endQ_normal ?_)
        | ((with_reducible first | refine hK _ ?_ | refine hK _ _ ?_); clear hK K)
        | ((first | (with_reducible first | refine ops_cons (fun K hK => ?_) | refine opsd_cons (fun K hK => ?_) | refine ops_nil ?_ | refine fit_i64 (by omega) ?_ | refine fit_u8 (by omega) ?_ | refine fit_u64 (by omega) ?_ | refine fit_u32 (by omega) ?_ | refine fit_any ?_) | ((with_reducible refine opsd_nil ?_); refine And.intro (by kernel_rfl) ?_) | ((with_reducible refine callV_lend DelS [1] Del_ok rfl ?_); simp only [go_sem, seval, reduceCtorEq, hk', DelS, decide_true, Bool.and_self, lv86BdB]; refine ⟨(by first | exact alOk_nil _ | exact alOk_f rfl), rfl, _, _, Del_at (L 0) p hl hplt, ?_⟩) | with_reducible refine callV_snap ?_ | ((with_reducible refine call_go bsS bs_ok ?_); refine ⟨(by first | exact alOk_nil _ | exact alOk_f rfl), _, _, bs_at _ x p true hl hp hbd, ?_⟩) | (with_reducible first | refine idx_map (by omega) ?_ | refine W_reg lv86BdB ?_ | refine W_drw lv86BdB (by kernel_rfl) ?_ | refine W_skip ?_ | refine end_at0 ?_) | (with_reducible refine And.intro (fun h => ?_) (fun h => ?_)) | (with_reducible refine And.intro (by omega) ?_)); (try simp only [go_sem, seval, reduceCtorEq, hk', DelS, decide_true, Bool.and_self, lv86BdB, DelS, Try.ntmps86, Try.results86, removeS]))
        | fail)
      refine W_ret (endQ_ret (end_at [0, 1, 2, 3, 4, 5, 6, 7] ?_))
      simp only [go_sem, Try.results86, removeS, shI, shBox, rU, upd, reduceIte, Nat.reduceEqDiff, Nat.reduceAdd, hel]
      simp [go_sem, encU]
    · have hk' : ((1 : Nat) : Int) = 1 := rfl
      repeat' (first
        | (with_reducible first | refine W_seq ?_ | refine W_condT rfl ?_ | refine W_condF rfl ?_ | refine W_tf rfl (fun h => ?_) (fun h => ?_) | refine endQ_ret ?_ | refine endQ_normal ?_)
        | ((with_reducible first | refine hK _ ?_ | refine hK _ _ ?_); clear hK K)
        | ((first | (with_reducible first | refine ops_cons (fun K hK => ?_) | refine opsd_cons (fun K hK => ?_) | refine ops_nil ?_ | refine fit_i64 (by omega) ?_ | refine fit_u8 (by omega) ?_ | refine fit_u64 (by omega) ?_ | refine fit_u32 (by omega) ?_ | refine fit_any ?_) | ((with_reducible refine opsd_nil ?_); refine And.intro (by kernel_rfl) ?_) | ((with_reducible refine callV_lend DelS [2] Del_ok rfl ?_); simp only [go_sem, seval, reduceCtorEq, hk', DelS, decide_true, Bool.and_self, lv86BdB]; refine ⟨(by first | exact alOk_nil _ | exact alOk_f rfl), rfl, _, _, Del_at (L 1) p hl hplt, ?_⟩) | with_reducible refine callV_snap ?_ | ((with_reducible refine call_go bsS bs_ok ?_); refine ⟨(by first | exact alOk_nil _ | exact alOk_f rfl), _, _, bs_at _ x p true hl hp hbd, ?_⟩) | (with_reducible first | refine idx_map (by omega) ?_ | refine W_reg lv86BdB ?_ | refine W_drw lv86BdB (by kernel_rfl) ?_ | refine W_skip ?_ | refine end_at0 ?_) | (with_reducible refine And.intro (fun h => ?_) (fun h => ?_)) | (with_reducible refine And.intro (by omega) ?_)); (try simp only [go_sem, seval, reduceCtorEq, hk', DelS, decide_true, Bool.and_self, lv86BdB, DelS, Try.ntmps86, Try.results86, removeS]))
        | fail)
      refine W_ret (endQ_ret (end_at [0, 1, 2, 3, 4, 5, 6, 7] ?_))
      simp only [go_sem, Try.results86, removeS, shI, shBox, rU, upd, reduceIte, Nat.reduceEqDiff, Nat.reduceAdd, hel]
      simp [go_sem, encU]
    · have hk' : ((2 : Nat) : Int) = 2 := rfl
      repeat' (first
        | (with_reducible first | refine W_seq ?_ | refine W_condT rfl ?_ | refine W_condF rfl ?_ | refine W_tf rfl (fun h => ?_) (fun h => ?_) | refine endQ_ret ?_ | refine endQ_normal ?_)
        | ((with_reducible first | refine hK _ ?_ | refine hK _ _ ?_); clear hK K)
        | ((first | (with_reducible first | refine ops_cons (fun K hK => ?_) | refine opsd_cons (fun K hK => ?_) | refine ops_nil ?_ | refine fit_i64 (by omega) ?_ | refine fit_u8 (by omega) ?_ | refine fit_u64 (by omega) ?_ | refine fit_u32 (by omega) ?_ | refine fit_any ?_) | ((with_reducible refine opsd_nil ?_); refine And.intro (by kernel_rfl) ?_) | ((with_reducible refine callV_lend DelS [3] Del_ok rfl ?_); simp only [go_sem, seval, reduceCtorEq, hk', DelS, decide_true, Bool.and_self, lv86BdB]; refine ⟨(by first | exact alOk_nil _ | exact alOk_f rfl), rfl, _, _, Del_at (L 2) p hl hplt, ?_⟩) | with_reducible refine callV_snap ?_ | ((with_reducible refine call_go bsS bs_ok ?_); refine ⟨(by first | exact alOk_nil _ | exact alOk_f rfl), _, _, bs_at _ x p true hl hp hbd, ?_⟩) | (with_reducible first | refine idx_map (by omega) ?_ | refine W_reg lv86BdB ?_ | refine W_drw lv86BdB (by kernel_rfl) ?_ | refine W_skip ?_ | refine end_at0 ?_) | (with_reducible refine And.intro (fun h => ?_) (fun h => ?_)) | (with_reducible refine And.intro (by omega) ?_)); (try simp only [go_sem, seval, reduceCtorEq, hk', DelS, decide_true, Bool.and_self, lv86BdB, DelS, Try.ntmps86, Try.results86, removeS]))
        | fail)
      refine W_ret (endQ_ret (end_at [0, 1, 2, 3, 4, 5, 6, 7] ?_))
      simp only [go_sem, Try.results86, removeS, shI, shBox, rU, upd, reduceIte, Nat.reduceEqDiff, Nat.reduceAdd, hel]
      simp [go_sem, encU]
    · have hk' : ((3 : Nat) : Int) = 3 := rfl
      repeat' (first
        | (with_reducible first | refine W_seq ?_ | refine W_condT rfl ?_ | refine W_condF rfl ?_ | refine W_tf rfl (fun h => ?_) (fun h => ?_) | refine endQ_ret ?_ | refine endQ_normal ?_)
        | ((with_reducible first | refine hK _ ?_ | refine hK _ _ ?_); clear hK K)
        | ((first | (with_reducible first | refine ops_cons (fun K hK => ?_) | refine opsd_cons (fun K hK => ?_) | refine ops_nil ?_ | refine fit_i64 (by omega) ?_ | refine fit_u8 (by omega) ?_ | refine fit_u64 (by omega) ?_ | refine fit_u32 (by omega) ?_ | refine fit_any ?_) | ((with_reducible refine opsd_nil ?_); refine And.intro (by kernel_rfl) ?_) | ((with_reducible refine callV_lend DelS [4] Del_ok rfl ?_); simp only [go_sem, seval, reduceCtorEq, hk', DelS, decide_true, Bool.and_self, lv86BdB]; refine ⟨(by first | exact alOk_nil _ | exact alOk_f rfl), rfl, _, _, Del_at (L 3) p hl hplt, ?_⟩) | with_reducible refine callV_snap ?_ | ((with_reducible refine call_go bsS bs_ok ?_); refine ⟨(by first | exact alOk_nil _ | exact alOk_f rfl), _, _, bs_at _ x p true hl hp hbd, ?_⟩) | (with_reducible first | refine idx_map (by omega) ?_ | refine W_reg lv86BdB ?_ | refine W_drw lv86BdB (by kernel_rfl) ?_ | refine W_skip ?_ | refine end_at0 ?_) | (with_reducible refine And.intro (fun h => ?_) (fun h => ?_)) | (with_reducible refine And.intro (by omega) ?_)); (try simp only [go_sem, seval, reduceCtorEq, hk', DelS, decide_true, Bool.and_self, lv86BdB, DelS, Try.ntmps86, Try.results86, removeS]))
        | fail)
      refine W_ret (endQ_ret (end_at [0, 1, 2, 3, 4, 5, 6, 7] ?_))
      simp only [go_sem, Try.results86, removeS, shI, shBox, rU, upd, reduceIte, Nat.reduceEqDiff, Nat.reduceAdd, hel]
      simp [go_sem, encU]
    · have hk' : ((4 : Nat) : Int) = 4 := rfl
      repeat' (first
        | (with_reducible first | refine W_seq ?_ | refine W_condT rfl ?_ | refine W_condF rfl ?_ | refine W_tf rfl (fun h => ?_) (fun h => ?_) | refine endQ_ret ?_ | refine endQ_normal ?_)
        | ((with_reducible first | refine hK _ ?_ | refine hK _ _ ?_); clear hK K)
        | ((first | (with_reducible first | refine ops_cons (fun K hK => ?_) | refine opsd_cons (fun K hK => ?_) | refine ops_nil ?_ | refine fit_i64 (by omega) ?_ | refine fit_u8 (by omega) ?_ | refine fit_u64 (by omega) ?_ | refine fit_u32 (by omega) ?_ | refine fit_any ?_) | ((with_reducible refine opsd_nil ?_); refine And.intro (by kernel_rfl) ?_) | ((with_reducible refine callV_lend DelS [5] Del_ok rfl ?_); simp only [go_sem, seval, reduceCtorEq, hk', DelS, decide_true, Bool.and_self, lv86BdB]; refine ⟨(by first | exact alOk_nil _ | exact alOk_f rfl), rfl, _, _, Del_at (L 4) p hl hplt, ?_⟩) | with_reducible refine callV_snap ?_ | ((with_reducible refine call_go bsS bs_ok ?_); refine ⟨(by first | exact alOk_nil _ | exact alOk_f rfl), _, _, bs_at _ x p true hl hp hbd, ?_⟩) | (with_reducible first | refine idx_map (by omega) ?_ | refine W_reg lv86BdB ?_ | refine W_drw lv86BdB (by kernel_rfl) ?_ | refine W_skip ?_ | refine end_at0 ?_) | (with_reducible refine And.intro (fun h => ?_) (fun h => ?_)) | (with_reducible refine And.intro (by omega) ?_)); (try simp only [go_sem, seval, reduceCtorEq, hk', DelS, decide_true, Bool.and_self, lv86BdB, DelS, Try.ntmps86, Try.results86, removeS]))
        | fail)
      refine W_ret (endQ_ret (end_at [0, 1, 2, 3, 4, 5, 6, 7] ?_))
      simp only [go_sem, Try.results86, removeS, shI, shBox, rU, upd, reduceIte, Nat.reduceEqDiff, Nat.reduceAdd, hel]
      simp [go_sem, encU]
    · have hk' : ((5 : Nat) : Int) = 5 := rfl
      repeat' (first
        | (with_reducible first | refine W_seq ?_ | refine W_condT rfl ?_ | refine W_condF rfl ?_ | refine W_tf rfl (fun h => ?_) (fun h => ?_) | refine endQ_ret ?_ | refine endQ_normal ?_)
        | ((with_reducible first | refine hK _ ?_ | refine hK _ _ ?_); clear hK K)
        | ((first | (with_reducible first | refine ops_cons (fun K hK => ?_) | refine opsd_cons (fun K hK => ?_) | refine ops_nil ?_ | refine fit_i64 (by omega) ?_ | refine fit_u8 (by omega) ?_ | refine fit_u64 (by omega) ?_ | refine fit_u32 (by omega) ?_ | refine fit_any ?_) | ((with_reducible refine opsd_nil ?_); refine And.intro (by kernel_rfl) ?_) | ((with_reducible refine callV_lend DelS [6] Del_ok rfl ?_); simp only [go_sem, seval, reduceCtorEq, hk', DelS, decide_true, Bool.and_self, lv86BdB]; refine ⟨(by first | exact alOk_nil _ | exact alOk_f rfl), rfl, _, _, Del_at (L 5) p hl hplt, ?_⟩) | with_reducible refine callV_snap ?_ | ((with_reducible refine call_go bsS bs_ok ?_); refine ⟨(by first | exact alOk_nil _ | exact alOk_f rfl), _, _, bs_at _ x p true hl hp hbd, ?_⟩) | (with_reducible first | refine idx_map (by omega) ?_ | refine W_reg lv86BdB ?_ | refine W_drw lv86BdB (by kernel_rfl) ?_ | refine W_skip ?_ | refine end_at0 ?_) | (with_reducible refine And.intro (fun h => ?_) (fun h => ?_)) | (with_reducible refine And.intro (by omega) ?_)); (try simp only [go_sem, seval, reduceCtorEq, hk', DelS, decide_true, Bool.and_self, lv86BdB, DelS, Try.ntmps86, Try.results86, removeS]))
        | fail)
      refine W_ret (endQ_ret (end_at [0, 1, 2, 3, 4, 5, 6, 7] ?_))
      simp only [go_sem, Try.results86, removeS, shI, shBox, rU, upd, reduceIte, Nat.reduceEqDiff, Nat.reduceAdd, hel]
      simp [go_sem, encU]
    · have hk' : ((6 : Nat) : Int) = 6 := rfl
      repeat' (first
        | (with_reducible first | refine W_seq ?_ | refine W_condT rfl ?_ | refine W_condF rfl ?_ | refine W_tf rfl (fun h => ?_) (fun h => ?_) | refine endQ_ret ?_ | refine endQ_normal ?_)
        | ((with_reducible first | refine hK _ ?_ | refine hK _ _ ?_); clear hK K)
        | ((first | (with_reducible first | refine ops_cons (fun K hK => ?_) | refine opsd_cons (fun K hK => ?_) | refine ops_nil ?_ | refine fit_i64 (by omega) ?_ | refine fit_u8 (by omega) ?_ | refine fit_u64 (by omega) ?_ | refine fit_u32 (by omega) ?_ | refine fit_any ?_) | ((with_reducible refine opsd_nil ?_); refine And.intro (by kernel_rfl) ?_) | ((with_reducible refine callV_lend DelS [7] Del_ok rfl ?_); simp only [go_sem, seval, reduceCtorEq, hk', DelS, decide_true, Bool.and_self, lv86BdB]; refine ⟨(by first | exact alOk_nil _ | exact alOk_f rfl), rfl, _, _, Del_at (L 6) p hl hplt, ?_⟩) | with_reducible refine callV_snap ?_ | ((with_reducible refine call_go bsS bs_ok ?_); refine ⟨(by first | exact alOk_nil _ | exact alOk_f rfl), _, _, bs_at _ x p true hl hp hbd, ?_⟩) | (with_reducible first | refine idx_map (by omega) ?_ | refine W_reg lv86BdB ?_ | refine W_drw lv86BdB (by kernel_rfl) ?_ | refine W_skip ?_ | refine end_at0 ?_) | (with_reducible refine And.intro (fun h => ?_) (fun h => ?_)) | (with_reducible refine And.intro (by omega) ?_)); (try simp only [go_sem, seval, reduceCtorEq, hk', DelS, decide_true, Bool.and_self, lv86BdB, DelS, Try.ntmps86, Try.results86, removeS]))
        | fail)
      refine W_ret (endQ_ret (end_at [0, 1, 2, 3, 4, 5, 6, 7] ?_))
      simp only [go_sem, Try.results86, removeS, shI, shBox, rU, upd, reduceIte, Nat.reduceEqDiff, Nat.reduceAdd, hel]
      simp [go_sem, encU]
  · rw [decide_eq_false hm] at hbd
    rw [decide_eq_false hm, List.erase_of_not_mem hm]
    have hu : upd L k (L k) = L := by funext j; unfold upd; split <;> simp_all
    rw [hu]
    rcases h7 with rfl | rfl | rfl | rfl | rfl | rfl | rfl
    · have hk' : ((0 : Nat) : Int) = 0 := rfl
      repeat' (first
        | (with_reducible first | refine W_seq ?_ | refine W_condT rfl ?_ | refine W_condF rfl ?_ | refine W_tf rfl (fun h => ?_) (fun h => ?_) | refine endQ_ret ?_ | refine endQ_normal ?_)
        | ((with_reducible first | refine hK _ ?_ | refine hK _ _ ?_); clear hK K)
        | ((first | (with_reducible first | refine ops_cons (fun K hK => ?_) | refine opsd_cons (fun K hK => ?_) | refine ops_nil ?_ | refine fit_i64 (by omega) ?_ | refine fit_u8 (by omega) ?_ | refine fit_u64 (by omega) ?_ | refine fit_u32 (by omega) ?_ | refine fit_any ?_) | ((with_reducible refine opsd_nil ?_); refine And.intro (by kernel_rfl) ?_) | with_reducible refine callV_snap ?_ | ((with_reducible refine call_go bsS bs_ok ?_); refine ⟨(by first | exact alOk_nil _ | exact alOk_f rfl), _, _, bs_at _ x p false hl hp hbd, ?_⟩) | (with_reducible first | refine idx_map (by omega) ?_ | refine W_reg lv86BdB ?_ | refine W_drw lv86BdB (by kernel_rfl) ?_ | refine W_skip ?_ | refine end_at0 ?_) | (with_reducible refine And.intro (fun h => ?_) (fun h => ?_)) | (with_reducible refine And.intro (by omega) ?_)); (try simp only [go_sem, seval, reduceCtorEq, hk', DelS, decide_true, Bool.and_self, lv86BdB, Try.ntmps86, Try.results86, removeS]))
        | fail)
      refine W_ret (endQ_ret (end_at [0, 1, 2, 3, 4, 5, 6, 7] ?_))
      simp only [go_sem, Try.results86, removeS, shI, shBox, rU, Nat.reduceAdd]
      simp [go_sem, encU]
    · have hk' : ((1 : Nat) : Int) = 1 := rfl
      repeat' (first
        | (with_reducible first | refine W_seq ?_ | refine W_condT rfl ?_ | refine W_condF rfl ?_ | refine W_tf rfl (fun h => ?_) (fun h => ?_) | refine endQ_ret ?_ | refine endQ_normal ?_)
        | ((with_reducible first | refine hK _ ?_ | refine hK _ _ ?_); clear hK K)
        | ((first | (with_reducible first | refine ops_cons (fun K hK => ?_) | refine opsd_cons (fun K hK => ?_) | refine ops_nil ?_ | refine fit_i64 (by omega) ?_ | refine fit_u8 (by omega) ?_ | refine fit_u64 (by omega) ?_ | refine fit_u32 (by omega) ?_ | refine fit_any ?_) | ((with_reducible refine opsd_nil ?_); refine And.intro (by kernel_rfl) ?_) | with_reducible refine callV_snap ?_ | ((with_reducible refine call_go bsS bs_ok ?_); refine ⟨(by first | exact alOk_nil _ | exact alOk_f rfl), _, _, bs_at _ x p false hl hp hbd, ?_⟩) | (with_reducible first | refine idx_map (by omega) ?_ | refine W_reg lv86BdB ?_ | refine W_drw lv86BdB (by kernel_rfl) ?_ | refine W_skip ?_ | refine end_at0 ?_) | (with_reducible refine And.intro (fun h => ?_) (fun h => ?_)) | (with_reducible refine And.intro (by omega) ?_)); (try simp only [go_sem, seval, reduceCtorEq, hk', DelS, decide_true, Bool.and_self, lv86BdB, Try.ntmps86, Try.results86, removeS]))
        | fail)
      refine W_ret (endQ_ret (end_at [0, 1, 2, 3, 4, 5, 6, 7] ?_))
      simp only [go_sem, Try.results86, removeS, shI, shBox, rU, Nat.reduceAdd]
      simp [go_sem, encU]
    · have hk' : ((2 : Nat) : Int) = 2 := rfl
      repeat' (first
        | (with_reducible first | refine W_seq ?_ | refine W_condT rfl ?_ | refine W_condF rfl ?_ | refine W_tf rfl (fun h => ?_) (fun h => ?_) | refine endQ_ret ?_ | refine endQ_normal ?_)
        | ((with_reducible first | refine hK _ ?_ | refine hK _ _ ?_); clear hK K)
        | ((first | (with_reducible first | refine ops_cons (fun K hK => ?_) | refine opsd_cons (fun K hK => ?_) | refine ops_nil ?_ | refine fit_i64 (by omega) ?_ | refine fit_u8 (by omega) ?_ | refine fit_u64 (by omega) ?_ | refine fit_u32 (by omega) ?_ | refine fit_any ?_) | ((with_reducible refine opsd_nil ?_); refine And.intro (by kernel_rfl) ?_) | with_reducible refine callV_snap ?_ | ((with_reducible refine call_go bsS bs_ok ?_); refine ⟨(by first | exact alOk_nil _ | exact alOk_f rfl), _, _, bs_at _ x p false hl hp hbd, ?_⟩) | (with_reducible first | refine idx_map (by omega) ?_ | refine W_reg lv86BdB ?_ | refine W_drw lv86BdB (by kernel_rfl) ?_ | refine W_skip ?_ | refine end_at0 ?_) | (with_reducible refine And.intro (fun h => ?_) (fun h => ?_)) | (with_reducible refine And.intro (by omega) ?_)); (try simp only [go_sem, seval, reduceCtorEq, hk', DelS, decide_true, Bool.and_self, lv86BdB, Try.ntmps86, Try.results86, removeS]))
        | fail)
      refine W_ret (endQ_ret (end_at [0, 1, 2, 3, 4, 5, 6, 7] ?_))
      simp only [go_sem, Try.results86, removeS, shI, shBox, rU, Nat.reduceAdd]
      simp [go_sem, encU]
    · have hk' : ((3 : Nat) : Int) = 3 := rfl
      repeat' (first
        | (with_reducible first | refine W_seq ?_ | refine W_condT rfl ?_ | refine W_condF rfl ?_ | refine W_tf rfl (fun h => ?_) (fun h => ?_) | refine endQ_ret ?_ | refine endQ_normal ?_)
        | ((with_reducible first | refine hK _ ?_ | refine hK _ _ ?_); clear hK K)
        | ((first | (with_reducible first | refine ops_cons (fun K hK => ?_) | refine opsd_cons (fun K hK => ?_) | refine ops_nil ?_ | refine fit_i64 (by omega) ?_ | refine fit_u8 (by omega) ?_ | refine fit_u64 (by omega) ?_ | refine fit_u32 (by omega) ?_ | refine fit_any ?_) | ((with_reducible refine opsd_nil ?_); refine And.intro (by kernel_rfl) ?_) | with_reducible refine callV_snap ?_ | ((with_reducible refine call_go bsS bs_ok ?_); refine ⟨(by first | exact alOk_nil _ | exact alOk_f rfl), _, _, bs_at _ x p false hl hp hbd, ?_⟩) | (with_reducible first | refine idx_map (by omega) ?_ | refine W_reg lv86BdB ?_ | refine W_drw lv86BdB (by kernel_rfl) ?_ | refine W_skip ?_ | refine end_at0 ?_) | (with_reducible refine And.intro (fun h => ?_) (fun h => ?_)) | (with_reducible refine And.intro (by omega) ?_)); (try simp only [go_sem, seval, reduceCtorEq, hk', DelS, decide_true, Bool.and_self, lv86BdB, Try.ntmps86, Try.results86, removeS]))
        | fail)
      refine W_ret (endQ_ret (end_at [0, 1, 2, 3, 4, 5, 6, 7] ?_))
      simp only [go_sem, Try.results86, removeS, shI, shBox, rU, Nat.reduceAdd]
      simp [go_sem, encU]
    · have hk' : ((4 : Nat) : Int) = 4 := rfl
      repeat' (first
        | (with_reducible first | refine W_seq ?_ | refine W_condT rfl ?_ | refine W_condF rfl ?_ | refine W_tf rfl (fun h => ?_) (fun h => ?_) | refine endQ_ret ?_ | refine endQ_normal ?_)
        | ((with_reducible first | refine hK _ ?_ | refine hK _ _ ?_); clear hK K)
        | ((first | (with_reducible first | refine ops_cons (fun K hK => ?_) | refine opsd_cons (fun K hK => ?_) | refine ops_nil ?_ | refine fit_i64 (by omega) ?_ | refine fit_u8 (by omega) ?_ | refine fit_u64 (by omega) ?_ | refine fit_u32 (by omega) ?_ | refine fit_any ?_) | ((with_reducible refine opsd_nil ?_); refine And.intro (by kernel_rfl) ?_) | with_reducible refine callV_snap ?_ | ((with_reducible refine call_go bsS bs_ok ?_); refine ⟨(by first | exact alOk_nil _ | exact alOk_f rfl), _, _, bs_at _ x p false hl hp hbd, ?_⟩) | (with_reducible first | refine idx_map (by omega) ?_ | refine W_reg lv86BdB ?_ | refine W_drw lv86BdB (by kernel_rfl) ?_ | refine W_skip ?_ | refine end_at0 ?_) | (with_reducible refine And.intro (fun h => ?_) (fun h => ?_)) | (with_reducible refine And.intro (by omega) ?_)); (try simp only [go_sem, seval, reduceCtorEq, hk', DelS, decide_true, Bool.and_self, lv86BdB, Try.ntmps86, Try.results86, removeS]))
        | fail)
      refine W_ret (endQ_ret (end_at [0, 1, 2, 3, 4, 5, 6, 7] ?_))
      simp only [go_sem, Try.results86, removeS, shI, shBox, rU, Nat.reduceAdd]
      simp [go_sem, encU]
    · have hk' : ((5 : Nat) : Int) = 5 := rfl
      repeat' (first
        | (with_reducible first | refine W_seq ?_ | refine W_condT rfl ?_ | refine W_condF rfl ?_ | refine W_tf rfl (fun h => ?_) (fun h => ?_) | refine endQ_ret ?_ | refine endQ_normal ?_)
        | ((with_reducible first | refine hK _ ?_ | refine hK _ _ ?_); clear hK K)
        | ((first | (with_reducible first | refine ops_cons (fun K hK => ?_) | refine opsd_cons (fun K hK => ?_) | refine ops_nil ?_ | refine fit_i64 (by omega) ?_ | refine fit_u8 (by omega) ?_ | refine fit_u64 (by omega) ?_ | refine fit_u32 (by omega) ?_ | refine fit_any ?_) | ((with_reducible refine opsd_nil ?_); refine And.intro (by kernel_rfl) ?_) | with_reducible refine callV_snap ?_ | ((with_reducible refine call_go bsS bs_ok ?_); refine ⟨(by first | exact alOk_nil _ | exact alOk_f rfl), _, _, bs_at _ x p false hl hp hbd, ?_⟩) | (with_reducible first | refine idx_map (by omega) ?_ | refine W_reg lv86BdB ?_ | refine W_drw lv86BdB (by kernel_rfl) ?_ | refine W_skip ?_ | refine end_at0 ?_) | (with_reducible refine And.intro (fun h => ?_) (fun h => ?_)) | (with_reducible refine And.intro (by omega) ?_)); (try simp only [go_sem, seval, reduceCtorEq, hk', DelS, decide_true, Bool.and_self, lv86BdB, Try.ntmps86, Try.results86, removeS]))
        | fail)
      refine W_ret (endQ_ret (end_at [0, 1, 2, 3, 4, 5, 6, 7] ?_))
      simp only [go_sem, Try.results86, removeS, shI, shBox, rU, Nat.reduceAdd]
      simp [go_sem, encU]
    · have hk' : ((6 : Nat) : Int) = 6 := rfl
      repeat' (first
        | (with_reducible first | refine W_seq ?_ | refine W_condT rfl ?_ | refine W_condF rfl ?_ | refine W_tf rfl (fun h => ?_) (fun h => ?_) | refine endQ_ret ?_ | refine endQ_normal ?_)
        | ((with_reducible first | refine hK _ ?_ | refine hK _ _ ?_); clear hK K)
        | ((first | (with_reducible first | refine ops_cons (fun K hK => ?_) | refine opsd_cons (fun K hK => ?_) | refine ops_nil ?_ | refine fit_i64 (by omega) ?_ | refine fit_u8 (by omega) ?_ | refine fit_u64 (by omega) ?_ | refine fit_u32 (by omega) ?_ | refine fit_any ?_) | ((with_reducible refine opsd_nil ?_); refine And.intro (by kernel_rfl) ?_) | with_reducible refine callV_snap ?_ | ((with_reducible refine call_go bsS bs_ok ?_); refine ⟨(by first | exact alOk_nil _ | exact alOk_f rfl), _, _, bs_at _ x p false hl hp hbd, ?_⟩) | (with_reducible first | refine idx_map (by omega) ?_ | refine W_reg lv86BdB ?_ | refine W_drw lv86BdB (by kernel_rfl) ?_ | refine W_skip ?_ | refine end_at0 ?_) | (with_reducible refine And.intro (fun h => ?_) (fun h => ?_)) | (with_reducible refine And.intro (by omega) ?_)); (try simp only [go_sem, seval, reduceCtorEq, hk', DelS, decide_true, Bool.and_self, lv86BdB, Try.ntmps86, Try.results86, removeS]))
        | fail)
      refine W_ret (endQ_ret (end_at [0, 1, 2, 3, 4, 5, 6, 7] ?_))
      simp only [go_sem, Try.results86, removeS, shI, shBox, rU, Nat.reduceAdd]
      simp [go_sem, encU]
end Go.Proofs.Ytacfipmigkbncaa
