/- The specification's sets of frames: all, frames, built; by the engine. -/
import Derived.Test.YtacfipmigkbncaaBdJ
import Derived.Test.YtacfipmigkbncaaBdX
namespace Go.Proofs.Ytacfipmigkbncaa
open Go.RowKit
set_option maxRecDepth 100000
set_option linter.unusedSimpArgs false
set_option linter.unusedVariables false

abbrev lv84BdQ : List (Nat × List Nat) := [(0, [0, 1, 2, 3]), (1, [0, 1, 2, 3, 15]), (2, [8]), (3, [0, 1, 2, 3, 9]), (4, [0, 1, 2, 3, 9, 21]), (5, [0, 1, 2, 3, 9]), (6, [0, 1, 2, 3, 9, 29]), (7, [8]), (8, [8])]
/-- a set of frames as a list -/
def bl (N : Nat) (f : Nat → Bool) : List Bool := (List.range N).map f
theorem bl_len (N : Nat) (f : Nat → Bool) : (bl N f).length = N := by simp [bl]
theorem bl_get {N : Nat} {f : Nat → Bool} {i : Nat} (h : i < (bl N f).length) : (bl N f)[i] = f i := by simp [bl]
theorem bl_congr {N : Nat} {f g : Nat → Bool} (h : ∀ i, i < N → f i = g i) : bl N f = bl N g := by
  unfold bl
  exact List.map_congr_left (fun i hi => h i (List.mem_range.1 hi))
def upF (f : Nat → Bool) (i : Nat) (b : Bool) (j : Nat) : Bool := if j = i then b else f j
theorem bl_set {N : Nat} {f : Nat → Bool} {i : Nat} {b : Bool} (h : i < N) : (bl N f).set i b = bl N (upF f i b) := by
  apply List.ext_getElem?
  intro j
  rw [List.getElem?_set]
  simp only [bl, List.length_map, List.length_range, List.getElem?_map]
  by_cases hj : i = j
  · subst hj; simp [h, upF]
  · rw [if_neg hj]
    by_cases hN : j < N
    · simp [hN, upF, Ne.symm hj]
    · simp [hN]
theorem bl_zero (N : Nat) : List.replicate N [D.bool false] = (bl N (fun _ => false)).map encDB := by
  apply List.ext_getElem?
  intro j
  simp only [bl, List.getElem?_map, List.getElem?_replicate]
  by_cases h : j < N <;> simp [h, encDB]
theorem bldG_congr {N : Nat} {f g : Nat → Bool} (h : ∀ i, i < N → f i = g i) : ∀ n a, bldG N f n a = bldG N g n a := by
  have ha : ∀ a n, a + n ≤ N → allF f a n = allF g a n := by
    intro a n hn
    unfold allF
    rw [Bool.eq_iff_iff, List.all_eq_true, List.all_eq_true]
    constructor <;> intro h1 i hi <;> have := h1 i hi <;> have h2 := List.mem_range.1 hi <;> have h3 := h (a + i) (by omega)
    · rw [← h3]; exact this
    · rw [h3]; exact this
  have hf : ∀ a o, fitB N f a o = fitB N g a o := by
    intro a o
    unfold fitB
    by_cases hN : a + 2 ^ o ≤ N
    · rw [ha a _ hN]
    · rw [decide_eq_false hN]; simp
  have hb : ∀ a k, bst N f a k = bst N g a k := by
    intro a k
    induction k with
    | zero => rfl
    | succ k ih => rw [bst, bst, hf, ih]
  intro n
  induction n with
  | zero => intro a; rfl
  | succ n ih =>
    intro a
    rw [bldG, bldG]
    by_cases hlt : a < N
    · rw [if_pos hlt, if_pos hlt, h a hlt, hb, ih, ih]
    · rw [if_neg hlt, if_neg hlt]
theorem bld_congr {N : Nat} {f g : Nat → Bool} (h : ∀ i, i < N → f i = g i) : bld N f = bld N g := bldG_congr h N 0
theorem bldG_fuel {N : Nat} {f : Nat → Bool} : ∀ (n n' a : Nat), N ≤ a + n → N ≤ a + n' → bldG N f n a = bldG N f n' a
  | 0, 0, a, _, _ => rfl
  | 0, n' + 1, a, h, _ => by rw [bldG, bldG, if_neg (by omega)]
  | n + 1, 0, a, _, h => by rw [bldG, bldG, if_neg (by omega)]
  | n + 1, n' + 1, a, h1, h2 => by
    rw [bldG, bldG]
    have hp := two_pos (bst N f a 7)
    rw [bldG_fuel n n' (a + 2 ^ bst N f a 7) (by omega) (by omega), bldG_fuel n n' (a + 1) (by omega) (by omega)]
def bldA (N : Nat) (f : Nat → Bool) (a : Nat) : List Bl := bldG N f (N - a) a
theorem bldA_end {N : Nat} {f : Nat → Bool} {a : Nat} (h : N ≤ a) : bldA N f a = [] := by unfold bldA; rw [Nat.sub_eq_zero_of_le h]; rfl
theorem bldA_no {N : Nat} {f : Nat → Bool} {a : Nat} (h : a < N) (hf : f a = false) : bldA N f a = bldA N f (a + 1) := by
  unfold bldA
  obtain ⟨n, hn⟩ : ∃ n, N - a = n + 1 := ⟨N - a - 1, by omega⟩
  rw [hn, bldG, if_pos h, if_neg (by simp [hf])]
  exact bldG_fuel _ _ _ (by omega) (by omega)
theorem bldA_yes {N : Nat} {f : Nat → Bool} {a : Nat} (h : a < N) (hf : f a = true) : bldA N f a = (a, bst N f a 7) :: bldA N f (a + 2 ^ bst N f a 7) := by
  unfold bldA
  have hp := two_pos (bst N f a 7)
  obtain ⟨n, hn⟩ : ∃ n, N - a = n + 1 := ⟨N - a - 1, by omega⟩
  rw [hn, bldG, if_pos h, if_pos hf, bldG_fuel n (N - (a + 2 ^ bst N f a 7)) _ (by omega) (by omega)]

abbrev nsizeS : Spec := rsizeS
theorem nsize_ok : Ok Try.prog 76 nsizeS := rsize_ok
theorem nsize_at (k : Nat) (h : k ≤ 6) : nsizeS.rel [iv k] [] (iv ((2 ^ k : Nat) : Int)) [] := by
  have := rsize_at (k : Int) (by omega) (by omega)
  rwa [Int.toNat_natCast, pow_nat] at this

def allWn (f : Nat → Bool) (w : Bool) (a : Nat) : Nat → Bool
  | 0 => true
  | n + 1 => (f a == w) && allWn f w (a + 1) n
theorem allWn_iff {f : Nat → Bool} {w : Bool} : ∀ {n a : Nat}, allWn f w a n = true ↔ ∀ i, a ≤ i → i < a + n → f i = w
  | 0, a => by simp [allWn]; omega
  | n + 1, a => by
    rw [allWn, Bool.and_eq_true, beq_iff_eq, allWn_iff (n := n) (a := a + 1)]
    constructor
    · rintro ⟨h1, h2⟩ i i1 i2
      by_cases e : i = a
      · rw [e]; exact h1
      · exact h2 i (by omega) (by omega)
    · intro h; exact ⟨h a (Nat.le_refl _) (by omega), fun i i1 i2 => h i (by omega) (by omega)⟩
theorem allWn_no {f : Nat → Bool} {w : Bool} {n a i : Nat} (h1 : a ≤ i) (h2 : i < a + n) (h : f i ≠ w) : allWn f w a n = false := by
  cases e : allWn f w a n with
  | false => rfl
  | true => exact absurd (allWn_iff.1 e i h1 h2) h
def allR (N : Nat) (f : Nat → Bool) (a n : Nat) (w : Bool) : Bool := decide (a + n ≤ N) && allWn f w a n
def rall0S : Spec := { rel := fun args ins res outs => ∃ (N : Nat) (f : Nat → Bool) (a n : Nat), N ≤ 256 ∧ a ≤ 256 ∧ n ≤ 64 ∧ args = [dB (bl N f), iv a, iv n, bv false] ∧ ins = [] ∧ res = bv (allR N f a n false) ∧ outs = [] }
theorem rall0_at (N : Nat) (f : Nat → Bool) (a n : Nat) (h : N ≤ 256) (ha : a ≤ 256) (hn : n ≤ 64) : rall0S.rel [dB (bl N f), iv a, iv n, bv false] [] (bv (allR N f a n false)) [] := ⟨N, f, a, n, h, ha, hn, rfl, rfl, rfl, rfl⟩
set_option maxHeartbeats 2000000 in
theorem rall0_ok : Ok Try.prog 84 rall0S := by
  refine fn_ok rall0S Try.func84 rfl rfl ?_
  rintro args ins res outs ⟨N, f, a, n, hN, ha, hn, rfl, rfl, rfl, rfl⟩
  refine ⟨by simp [Try.ntmps84], fun w0 V Bo mu0 => ?_⟩
  have hL := bl_len N f
  have ub := Try.underlying4
  have hsum : (a : Int) + (n : Int) = ((a + n : Nat) : Int) := by omega
  by_cases hlt : a + n ≤ N
  case neg =>
    have e : allR N f a n false = false := by unfold allR; rw [decide_eq_false hlt]; rfl
    have h1 : (N : Int) < ((a + n : Nat) : Int) := by omega
    rw [e]
    repeat' (first
      | (with_reducible first | refine W_seq ?_ | refine W_condT rfl ?_ | refine W_condF rfl ?_ | refine W_tf rfl (fun h => ?_) (fun h => ?_) | refine W_block ?_ | refine endQ_ret ?_ | refine endQ_normal ?_)
      | ((with_reducible first | refine hK _ ?_ | refine hK _ _ ?_); clear hK K)
      | ((first | (with_reducible first | refine ops_cons (fun K hK => ?_) | refine ops_nil ?_ | refine fit_i64 (by omega) ?_ | refine fit_any ?_) | with_reducible refine callV_snap ?_ | (with_reducible first | refine idx_map (by omega) ?_ | refine W_reg lv84BdQ ?_ | refine W_skip ?_ | refine W_exit ?_ | refine W_ret ?_ | refine end_at0 ?_) | (with_reducible refine And.intro (fun h => ?_) (fun h => ?_)) | (with_reducible refine And.intro (by omega) ?_)); (try simp only [go_sem, seval, reduceCtorEq, hL, hsum, h1, lv84BdQ, Try.ntmps84, Try.results84, rall0S]))
      | fail)
  have h1 : ¬ (N : Int) < ((a + n : Nat) : Int) := by omega
  have e : allR N f a n false = allWn f false a n := by unfold allR; rw [decide_eq_true hlt]; rfl
  rw [e]
  generalize hR : allWn f false a n = R
  repeat' (first
    | (with_reducible first | refine W_seq ?_ | refine W_condT rfl ?_ | refine W_condF rfl ?_ | refine W_tf rfl (fun h => ?_) (fun h => ?_) | refine W_block ?_ | refine endQ_ret ?_ | refine endQ_normal ?_)
    | ((with_reducible first | refine hK _ ?_ | refine hK _ _ ?_); clear hK K)
    | ((first | (with_reducible first | refine ops_cons (fun K hK => ?_) | refine ops_nil ?_ | refine fit_i64 (by omega) ?_ | refine fit_any ?_) | with_reducible refine callV_snap ?_ | (with_reducible first | refine idx_map (by omega) ?_ | refine W_reg lv84BdQ ?_ | refine W_skip ?_ | refine W_exit ?_ | refine W_ret ?_ | refine end_at0 ?_) | (with_reducible refine And.intro (fun h => ?_) (fun h => ?_)) | (with_reducible refine And.intro (by omega) ?_)); (try simp only [go_sem, seval, reduceCtorEq, hL, hsum, h1, lv84BdQ, Try.ntmps84, Try.results84, rall0S]))
    | fail)
  refine W_loop (fun i : Nat => ⟨[(0, dB (bl N f)), (1, iv a), (2, iv n), (3, bv false), (9, iv i)], []⟩) (fun i => a ≤ i ∧ i ≤ a + n ∧ ∀ j, a ≤ j → j < i → f j = false) (fun i => a + n - i) a ⟨Nat.le_refl _, by omega, fun j _ h => by omega⟩ [] ?_ ?_
  · simp [go_sem]
  rintro i ⟨hi0, hi1, hall⟩
  by_cases hi : i < a + n
  · have hki : (i : Int) < ((a + n : Nat) : Int) := by omega
    have hlb : i < (bl N f).length := by omega
    have hb0 : encDB ((bl N f)[i]) = [.bool (f i)] := by rw [bl_get]; rfl
    cases hf : f i with
    | true =>
      rw [hf] at hb0
      repeat' (first
        | (with_reducible first | refine W_seq ?_ | refine W_condT rfl ?_ | refine W_condF rfl ?_ | refine W_tf rfl (fun h => ?_) (fun h => ?_) | refine W_block ?_ | refine endQ_ret ?_ | refine endQ_normal ?_)
        | ((with_reducible first | refine hK _ ?_ | refine hK _ _ ?_); clear hK K)
        | ((first | (with_reducible first | refine ops_cons (fun K hK => ?_) | refine ops_nil ?_ | refine fit_i64 (by omega) ?_ | refine fit_any ?_) | with_reducible refine callV_snap ?_ | (with_reducible first | refine idx_map (by omega) ?_ | refine W_reg lv84BdQ ?_ | refine W_skip ?_ | refine W_exit ?_ | refine W_ret ?_ | refine end_at0 ?_) | (with_reducible refine And.intro (fun h => ?_) (fun h => ?_)) | (with_reducible refine And.intro (by omega) ?_)); (try simp only [go_sem, seval, reduceCtorEq, hL, hsum, hki, hb0, ub, beq_self_eq_true, lv84BdQ, Try.ntmps84, Try.results84, rall0S]))
        | fail)
      first
        | (refine ⟨i + 1, [], ⟨by omega, by omega, fun j j1 j2 => ?_⟩, by omega, ?_⟩
           · by_cases e : j = i
             · rw [e]; exact hf
             · exact hall j j1 (by omega)
           · simp [go_sem])
        | rw [← hR, allWn_no hi0 hi (by rw [hf]; decide)]
    | false =>
      rw [hf] at hb0
      repeat' (first
        | (with_reducible first | refine W_seq ?_ | refine W_condT rfl ?_ | refine W_condF rfl ?_ | refine W_tf rfl (fun h => ?_) (fun h => ?_) | refine W_block ?_ | refine endQ_ret ?_ | refine endQ_normal ?_)
        | ((with_reducible first | refine hK _ ?_ | refine hK _ _ ?_); clear hK K)
        | ((first | (with_reducible first | refine ops_cons (fun K hK => ?_) | refine ops_nil ?_ | refine fit_i64 (by omega) ?_ | refine fit_any ?_) | with_reducible refine callV_snap ?_ | (with_reducible first | refine idx_map (by omega) ?_ | refine W_reg lv84BdQ ?_ | refine W_skip ?_ | refine W_exit ?_ | refine W_ret ?_ | refine end_at0 ?_) | (with_reducible refine And.intro (fun h => ?_) (fun h => ?_)) | (with_reducible refine And.intro (by omega) ?_)); (try simp only [go_sem, seval, reduceCtorEq, hL, hsum, hki, hb0, ub, beq_self_eq_true, lv84BdQ, Try.ntmps84, Try.results84, rall0S]))
        | fail)
      first
        | (refine ⟨i + 1, [], ⟨by omega, by omega, fun j j1 j2 => ?_⟩, by omega, ?_⟩
           · by_cases e : j = i
             · rw [e]; exact hf
             · exact hall j j1 (by omega)
           · simp [go_sem])
        | rw [← hR, allWn_no hi0 hi (by rw [hf]; decide)]
  · have hki : ¬ (i : Int) < ((a + n : Nat) : Int) := by omega
    have e : R = true := by rw [← hR]; exact allWn_iff.2 (fun j j1 j2 => hall j j1 (by omega))
    subst e
    repeat' (first
      | (with_reducible first | refine W_seq ?_ | refine W_condT rfl ?_ | refine W_condF rfl ?_ | refine W_tf rfl (fun h => ?_) (fun h => ?_) | refine W_block ?_ | refine endQ_ret ?_ | refine endQ_normal ?_)
      | ((with_reducible first | refine hK _ ?_ | refine hK _ _ ?_); clear hK K)
      | ((first | (with_reducible first | refine ops_cons (fun K hK => ?_) | refine ops_nil ?_ | refine fit_i64 (by omega) ?_ | refine fit_any ?_) | with_reducible refine callV_snap ?_ | (with_reducible first | refine idx_map (by omega) ?_ | refine W_reg lv84BdQ ?_ | refine W_skip ?_ | refine W_exit ?_ | refine W_ret ?_ | refine end_at0 ?_) | (with_reducible refine And.intro (fun h => ?_) (fun h => ?_)) | (with_reducible refine And.intro (by omega) ?_)); (try simp only [go_sem, seval, reduceCtorEq, hL, hsum, hki, lv84BdQ, Try.ntmps84, Try.results84, rall0S]))
      | fail)
def rall1S : Spec := { rel := fun args ins res outs => ∃ (N : Nat) (f : Nat → Bool) (a n : Nat), N ≤ 256 ∧ a ≤ 256 ∧ n ≤ 64 ∧ args = [dB (bl N f), iv a, iv n, bv true] ∧ ins = [] ∧ res = bv (allR N f a n true) ∧ outs = [] }
theorem rall1_at (N : Nat) (f : Nat → Bool) (a n : Nat) (h : N ≤ 256) (ha : a ≤ 256) (hn : n ≤ 64) : rall1S.rel [dB (bl N f), iv a, iv n, bv true] [] (bv (allR N f a n true)) [] := ⟨N, f, a, n, h, ha, hn, rfl, rfl, rfl, rfl⟩
set_option maxHeartbeats 2000000 in
theorem rall1_ok : Ok Try.prog 84 rall1S := by
  refine fn_ok rall1S Try.func84 rfl rfl ?_
  rintro args ins res outs ⟨N, f, a, n, hN, ha, hn, rfl, rfl, rfl, rfl⟩
  refine ⟨by simp [Try.ntmps84], fun w0 V Bo mu0 => ?_⟩
  have hL := bl_len N f
  have ub := Try.underlying4
  have hsum : (a : Int) + (n : Int) = ((a + n : Nat) : Int) := by omega
  by_cases hlt : a + n ≤ N
  case neg =>
    have e : allR N f a n true = false := by unfold allR; rw [decide_eq_false hlt]; rfl
    have h1 : (N : Int) < ((a + n : Nat) : Int) := by omega
    rw [e]
    repeat' (first
      | (with_reducible first | refine W_seq ?_ | refine W_condT rfl ?_ | refine W_condF rfl ?_ | refine W_tf rfl (fun h => ?_) (fun h => ?_) | refine W_block ?_ | refine endQ_ret ?_ | refine endQ_normal ?_)
      | ((with_reducible first | refine hK _ ?_ | refine hK _ _ ?_); clear hK K)
      | ((first | (with_reducible first | refine ops_cons (fun K hK => ?_) | refine ops_nil ?_ | refine fit_i64 (by omega) ?_ | refine fit_any ?_) | with_reducible refine callV_snap ?_ | (with_reducible first | refine idx_map (by omega) ?_ | refine W_reg lv84BdQ ?_ | refine W_skip ?_ | refine W_exit ?_ | refine W_ret ?_ | refine end_at0 ?_) | (with_reducible refine And.intro (fun h => ?_) (fun h => ?_)) | (with_reducible refine And.intro (by omega) ?_)); (try simp only [go_sem, seval, reduceCtorEq, hL, hsum, h1, lv84BdQ, Try.ntmps84, Try.results84, rall1S]))
      | fail)
  have h1 : ¬ (N : Int) < ((a + n : Nat) : Int) := by omega
  have e : allR N f a n true = allWn f true a n := by unfold allR; rw [decide_eq_true hlt]; rfl
  rw [e]
  generalize hR : allWn f true a n = R
  repeat' (first
    | (with_reducible first | refine W_seq ?_ | refine W_condT rfl ?_ | refine W_condF rfl ?_ | refine W_tf rfl (fun h => ?_) (fun h => ?_) | refine W_block ?_ | refine endQ_ret ?_ | refine endQ_normal ?_)
    | ((with_reducible first | refine hK _ ?_ | refine hK _ _ ?_); clear hK K)
    | ((first | (with_reducible first | refine ops_cons (fun K hK => ?_) | refine ops_nil ?_ | refine fit_i64 (by omega) ?_ | refine fit_any ?_) | with_reducible refine callV_snap ?_ | (with_reducible first | refine idx_map (by omega) ?_ | refine W_reg lv84BdQ ?_ | refine W_skip ?_ | refine W_exit ?_ | refine W_ret ?_ | refine end_at0 ?_) | (with_reducible refine And.intro (fun h => ?_) (fun h => ?_)) | (with_reducible refine And.intro (by omega) ?_)); (try simp only [go_sem, seval, reduceCtorEq, hL, hsum, h1, lv84BdQ, Try.ntmps84, Try.results84, rall1S]))
    | fail)
  refine W_loop (fun i : Nat => ⟨[(0, dB (bl N f)), (1, iv a), (2, iv n), (3, bv true), (9, iv i)], []⟩) (fun i => a ≤ i ∧ i ≤ a + n ∧ ∀ j, a ≤ j → j < i → f j = true) (fun i => a + n - i) a ⟨Nat.le_refl _, by omega, fun j _ h => by omega⟩ [] ?_ ?_
  · simp [go_sem]
  rintro i ⟨hi0, hi1, hall⟩
  by_cases hi : i < a + n
  · have hki : (i : Int) < ((a + n : Nat) : Int) := by omega
    have hlb : i < (bl N f).length := by omega
    have hb0 : encDB ((bl N f)[i]) = [.bool (f i)] := by rw [bl_get]; rfl
    cases hf : f i with
    | true =>
      rw [hf] at hb0
      repeat' (first
        | (with_reducible first | refine W_seq ?_ | refine W_condT rfl ?_ | refine W_condF rfl ?_ | refine W_tf rfl (fun h => ?_) (fun h => ?_) | refine W_block ?_ | refine endQ_ret ?_ | refine endQ_normal ?_)
        | ((with_reducible first | refine hK _ ?_ | refine hK _ _ ?_); clear hK K)
        | ((first | (with_reducible first | refine ops_cons (fun K hK => ?_) | refine ops_nil ?_ | refine fit_i64 (by omega) ?_ | refine fit_any ?_) | with_reducible refine callV_snap ?_ | (with_reducible first | refine idx_map (by omega) ?_ | refine W_reg lv84BdQ ?_ | refine W_skip ?_ | refine W_exit ?_ | refine W_ret ?_ | refine end_at0 ?_) | (with_reducible refine And.intro (fun h => ?_) (fun h => ?_)) | (with_reducible refine And.intro (by omega) ?_)); (try simp only [go_sem, seval, reduceCtorEq, hL, hsum, hki, hb0, ub, beq_self_eq_true, lv84BdQ, Try.ntmps84, Try.results84, rall1S]))
        | fail)
      first
        | (refine ⟨i + 1, [], ⟨by omega, by omega, fun j j1 j2 => ?_⟩, by omega, ?_⟩
           · by_cases e : j = i
             · rw [e]; exact hf
             · exact hall j j1 (by omega)
           · simp [go_sem])
        | rw [← hR, allWn_no hi0 hi (by rw [hf]; decide)]
    | false =>
      rw [hf] at hb0
      repeat' (first
        | (with_reducible first | refine W_seq ?_ | refine W_condT rfl ?_ | refine W_condF rfl ?_ | refine W_tf rfl (fun h => ?_) (fun h => ?_) | refine W_block ?_ | refine endQ_ret ?_ | refine endQ_normal ?_)
        | ((with_reducible first | refine hK _ ?_ | refine hK _ _ ?_); clear hK K)
        | ((first | (with_reducible first | refine ops_cons (fun K hK => ?_) | refine ops_nil ?_ | refine fit_i64 (by omega) ?_ | refine fit_any ?_) | with_reducible refine callV_snap ?_ | (with_reducible first | refine idx_map (by omega) ?_ | refine W_reg lv84BdQ ?_ | refine W_skip ?_ | refine W_exit ?_ | refine W_ret ?_ | refine end_at0 ?_) | (with_reducible refine And.intro (fun h => ?_) (fun h => ?_)) | (with_reducible refine And.intro (by omega) ?_)); (try simp only [go_sem, seval, reduceCtorEq, hL, hsum, hki, hb0, ub, beq_self_eq_true, lv84BdQ, Try.ntmps84, Try.results84, rall1S]))
        | fail)
      first
        | (refine ⟨i + 1, [], ⟨by omega, by omega, fun j j1 j2 => ?_⟩, by omega, ?_⟩
           · by_cases e : j = i
             · rw [e]; exact hf
             · exact hall j j1 (by omega)
           · simp [go_sem])
        | rw [← hR, allWn_no hi0 hi (by rw [hf]; decide)]
  · have hki : ¬ (i : Int) < ((a + n : Nat) : Int) := by omega
    have e : R = true := by rw [← hR]; exact allWn_iff.2 (fun j j1 j2 => hall j j1 (by omega))
    subst e
    repeat' (first
      | (with_reducible first | refine W_seq ?_ | refine W_condT rfl ?_ | refine W_condF rfl ?_ | refine W_tf rfl (fun h => ?_) (fun h => ?_) | refine W_block ?_ | refine endQ_ret ?_ | refine endQ_normal ?_)
      | ((with_reducible first | refine hK _ ?_ | refine hK _ _ ?_); clear hK K)
      | ((first | (with_reducible first | refine ops_cons (fun K hK => ?_) | refine ops_nil ?_ | refine fit_i64 (by omega) ?_ | refine fit_any ?_) | with_reducible refine callV_snap ?_ | (with_reducible first | refine idx_map (by omega) ?_ | refine W_reg lv84BdQ ?_ | refine W_skip ?_ | refine W_exit ?_ | refine W_ret ?_ | refine end_at0 ?_) | (with_reducible refine And.intro (fun h => ?_) (fun h => ?_)) | (with_reducible refine And.intro (by omega) ?_)); (try simp only [go_sem, seval, reduceCtorEq, hL, hsum, hki, lv84BdQ, Try.ntmps84, Try.results84, rall1S]))
      | fail)
end Go.Proofs.Ytacfipmigkbncaa
