/- buddy.Alloc by the engine. -/
import Derived.Test.YtacfipmigkbncaaBdL
namespace Go.Proofs.Ytacfipmigkbncaa
open Go.RowKit
set_option maxRecDepth 100000
set_option linter.unusedSimpArgs false
set_option linter.unusedVariables false

abbrev lv66BdM : List (Nat × List Nat) := [(0, [1, 2, 4]), (1, [1, 2, 4, 8]), (2, [1, 2, 4, 8, 19]), (3, [4, 5, 6]), (4, [1, 2, 4, 9]), (5, [1, 2, 4, 9, 10]), (6, [1, 2, 4, 9, 10, 36]), (7, [1, 2, 4, 9, 10]), (8, [1, 2, 4, 9, 10, 40]), (9, [4, 5, 6]), (10, [1, 2, 4, 9, 10, 11]), (11, [1, 2, 4, 9, 10, 11]), (12, [1, 2, 4, 9, 10, 11, 56]), (13, [1, 2, 4, 9, 10, 11]), (14, [1, 2, 4, 9, 10, 11]), (15, [4, 5, 6])]
def Halt (p : Prop) : Prop := p
theorem halt_reg {cx : Cx} {l : Array Oper} {b : Bool} {σ : St} {Q : Exit → St → Prop} (id : Nat) (h : Halt (W cx (.region id l b) σ Q)) : W cx (.region id l b) σ Q := h

theorem halt_call {P : Program} {n : Nat} {o : Oper} {σ : St} (f : FuncId) {caps xs : List AV} {K : Eff → Prop} (h : Halt (callV P n o σ (.fn f caps) xs K)) : callV P n o σ (.fn f caps) xs K := h

/-- the block that a block of the order k is taken from -/
structure Best (m : List Bl) (k : Nat) (b : Bl) : Prop where
  mem : b ∈ m
  le : k ≤ b.2
  ord : ∀ c ∈ m, k ≤ c.2 → b.2 ≤ c.2
  fst : ∀ c ∈ m, c.2 = b.2 → b.1 ≤ c.1
/-- the zone behind, as rows of the caller's own -/
def zre (N : Nat) (m : List Bl) (i : Nat) : AV := .agg [iv N, .row i 2 0 m.length]
def frA (m : List Bl) (w k i : Nat) : Bool := frM m i && !inb w k i
def AllocS : Spec := { rel := fun args ins res outs => (∃ (n : Int) (l : List Bi) (k : Int), l.length ≤ 1000000 ∧ askE n l k ≠ 0 ∧ args = [zv n l, iv k] ∧ ins = [] ∧ res = .tup [.agg [iv 0, .nil], iv 0, iv (askE n l k)] ∧ outs = []) ∨
  (∃ (N : Nat) (m : List Bl) (k : Nat), Vz N m ∧ k ≤ 6 ∧ (∀ c ∈ m, c.2 < k) ∧ args = [.agg [iv N, dN m], iv k] ∧ ins = [] ∧ res = .tup [.agg [iv 0, .nil], iv 0, iv 5] ∧ outs = []) ∨
  ∃ (N : Nat) (m : List Bl) (k : Nat) (b : Bl), Vz N m ∧ k ≤ 6 ∧ Best m k b ∧ args = [.agg [iv N, dN m], iv k] ∧ ins = [] ∧ res = .tup [.agg [iv N, .row 0 2 0 (bld N (frA m b.1 k)).length], iv b.1, iv 0] ∧ outs = [.rows 87 2 ((bld N (frA m b.1 k)).map encN)] }
theorem shv_nil {m : List Bl} {k : Nat} : shv m k = [] ↔ ∀ c ∈ m, c.2 ≠ k := by
  constructor
  · intro h c hc e
    have := (shv_mem m c.1 k).2 (by rw [← e]; exact hc)
    rw [h] at this; cases this
  · intro h
    rw [List.eq_nil_iff_forall_not_mem]
    intro x hx
    exact h _ ((shv_mem m x k).1 hx) rfl
theorem split_self {w k o : Nat} {L : Shf} (h : k ≤ o) : splitT w k (o + 1) L w = splitT w k o (put L (w + 2 ^ o, o)) w := by
  have := two_pos o
  rw [splitT, if_pos h, if_neg (by omega)]
theorem split_stop {w k : Nat} {L : Shf} (a : Nat) : splitT w k k L a = L := by
  cases k with
  | zero => rfl
  | succ k => rw [splitT, if_neg (by omega)]
set_option maxHeartbeats 16000000 in
theorem Alloc_ok : Ok Try.prog 66 AllocS := by
  refine fn_ok AllocS Try.func66 rfl rfl ?_
  intro args ins res outs hrel
  refine ⟨?_, ?_⟩
  · rcases hrel with ⟨n, l, k, hl, hc, rfl, rfl, rfl, rfl⟩ | ⟨N, m, k, hv, hk, hno, rfl, rfl, rfl, rfl⟩ | ⟨N, m, k, b, hv, hk, hb, rfl, rfl, rfl, rfl⟩ <;> simp [Try.ntmps66]
  intro w0 V Bo mu0
  rcases hrel with ⟨n, l, k, hl, hc, rfl, rfl, rfl, rfl⟩ | hrel
  · skip
    repeat' (first
      | (with_reducible first | refine W_seq ?_ | refine W_condT rfl ?_ | refine W_condF rfl ?_ | refine W_tf rfl (fun h => ?_) (fun h => ?_) | refine W_block ?_ | refine endQ_ret ?_ | refine endQ_normal ?_)
      | ((with_reducible first | refine hK _ ?_ | refine hK _ _ ?_); clear hK K)
      | ((first | (with_reducible first | refine ops_cons (fun K hK => ?_) | refine opsd_cons (fun K hK => ?_) | refine ops_nil ?_ | refine fit_i64 (by omega) ?_ | refine fit_u8 (by omega) ?_ | refine fit_u64 (by omega) ?_ | refine fit_u32 (by omega) ?_ | refine fit_any ?_ | refine sh_in (by simp only [IntKind.bits]; omega) ?_) | ((with_reducible refine opsd_nil ?_); refine And.intro (by kernel_rfl) ?_) | with_reducible refine callV_snap ?_ | ((with_reducible refine call_go chkdNS chkdN_ok ?_); refine ⟨(by first | exact alOk_nil _ | exact alOk_f rfl), _, _, chkdN_at _ _ _ hl hc, ?_⟩) | (with_reducible first | refine idx_map (by omega) ?_ | refine W_reg lv66BdM ?_ | refine W_drw lv66BdM (by kernel_rfl) ?_ | refine W_skip ?_ | refine W_exit ?_ | refine W_ret ?_ | refine end_at0 ?_) | (with_reducible refine And.intro (fun h => ?_) (fun h => ?_)) | (with_reducible refine And.intro (by omega) ?_)); (try simp only [go_sem, seval, reduceCtorEq, hc, lv66BdM, Try.ntmps66, Try.results66, AllocS]))
      | fail)
  have key : ∃ (N : Nat) (m : List Bl) (k : Nat), Vz N m ∧ k ≤ 6 ∧ args = [.agg [iv N, dN m], iv k] ∧ ins = [] ∧ ((∀ c ∈ m, c.2 < k) ∧ res = .tup [.agg [iv 0, .nil], iv 0, iv 5] ∧ outs = [] ∨
      ∃ b, Best m k b ∧ res = .tup [.agg [iv N, .row 0 2 0 (bld N (frA m b.1 k)).length], iv b.1, iv 0] ∧ outs = [.rows 87 2 ((bld N (frA m b.1 k)).map encN)]) := by
    rcases hrel with ⟨N, m, k, hv, hk, hno, rfl, rfl, rfl, rfl⟩ | ⟨N, m, k, b, hv, hk, hb, rfl, rfl, rfl, rfl⟩
    · exact ⟨N, m, k, hv, hk, rfl, rfl, .inl ⟨hno, rfl, rfl⟩⟩
    · exact ⟨N, m, k, hv, hk, rfl, rfl, .inr ⟨b, hb, rfl, rfl⟩⟩
  clear hrel
  obtain ⟨N, m, k, hv, hk, rfl, rfl, hout⟩ := key
  have hlen : m.length ≤ 1000000 := by have := hv.v.len; omega
  have hpk := p64 k hk
  have hsh := hv.v.sh
  repeat' (first
    | (with_reducible first | refine W_seq ?_ | refine W_condT rfl ?_ | refine W_condF rfl ?_ | refine W_tf rfl (fun h => ?_) (fun h => ?_) | refine W_block ?_ | refine endQ_ret ?_ | refine endQ_normal ?_)
    | ((with_reducible first | refine hK _ ?_ | refine hK _ _ ?_); clear hK K)
    | ((first | (with_reducible first | refine ops_cons (fun K hK => ?_) | refine opsd_cons (fun K hK => ?_) | refine ops_nil ?_ | refine fit_i64 (by omega) ?_ | refine fit_u8 (by omega) ?_ | refine fit_u64 (by omega) ?_ | refine fit_u32 (by omega) ?_ | refine fit_any ?_ | refine sh_in (by simp only [IntKind.bits]; omega) ?_) | ((with_reducible refine opsd_nil ?_); refine And.intro (by kernel_rfl) ?_) | with_reducible refine callV_snap ?_ | ((with_reducible refine call_go chkdVS chkdV_ok ?_); refine ⟨(by first | exact alOk_nil _ | exact alOk_f rfl), _, _, chkdV_at _ _ _ hv hk, ?_⟩) | ((with_reducible refine call_go shelveS shelve_ok ?_); refine ⟨(by first | exact alOk_nil _ | exact alOk_f rfl), _, _, shelve_at m hlen hv.v.bls, ?_⟩) | (with_reducible first | refine idx_map (by omega) ?_ | refine W_reg lv66BdM ?_ | refine W_drw lv66BdM (by kernel_rfl) ?_ | refine W_skip ?_ | refine W_exit ?_ | refine W_ret ?_ | refine end_at0 ?_) | (with_reducible refine And.intro (fun h => ?_) (fun h => ?_)) | (with_reducible refine And.intro (by omega) ?_)); (try simp only [go_sem, seval, reduceCtorEq, lv66BdM, Try.ntmps66, Try.results66, AllocS]))
    | fail)
  obtain ⟨L, hL⟩ : ∃ L, shv m = L := ⟨_, rfl⟩
  rw [hL] at hsh ⊢
  refine W_mono (Q := fun e σ' => e = .exit 0 ∧ ∃ q : Nat, q ≤ 7 ∧ k ≤ q ∧ (∀ j, k ≤ j → j < q → L j = []) ∧ (q ≤ 6 → L q ≠ []) ∧ σ' = ⟨[(1, iv k), (2, .ptr 0 0), (4, .ptr 1 0), (9, .ptr 2 0), (10, iv q), (36, bv false)], [some (.box 59 [iv N, dN m]), some (.box 59 [iv 0, .nil])] ++ (shBox 3 L :: [rU (L 0), rU (L 1), rU (L 2), rU (L 3), rU (L 4), rU (L 5), rU (L 6)]).map some⟩) ?_ ?_
  · refine W_loop (fun q : Nat => ⟨[(1, iv k), (2, .ptr 0 0), (4, .ptr 1 0), (9, .ptr 2 0), (10, iv q)], [some (.box 59 [iv N, dN m]), some (.box 59 [iv 0, .nil])] ++ (shBox 3 L :: [rU (L 0), rU (L 1), rU (L 2), rU (L 3), rU (L 4), rU (L 5), rU (L 6)]).map some⟩)
      (fun q => q ≤ 7 ∧ k ≤ q ∧ (∀ j, k ≤ j → j < q → L j = [])) (fun q => 7 - q) k ⟨by omega, Nat.le_refl _, fun j h1 h2 => by omega⟩ [0, 1, 2, 3, 4, 5, 6, 7, 8, 9] ?_ ?_
    · simp [go_sem]
    rintro q ⟨hq, hkq, hno⟩
    simp only [List.map_cons, List.map_nil, List.cons_append, List.nil_append]
    by_cases h7 : q = 7
    · subst h7
      have hc7 : ((7 : Nat) : Int) = 7 := rfl
      repeat' (first
        | (with_reducible first | refine W_seq ?_ | refine W_condT rfl ?_ | refine W_condF rfl ?_ | refine W_tf rfl (fun h => ?_) (fun h => ?_) | refine W_block ?_ | refine endQ_ret ?_ | refine endQ_normal ?_)
        | ((with_reducible first | refine hK _ ?_ | refine hK _ _ ?_); clear hK K)
        | ((first | (with_reducible first | refine ops_cons (fun K hK => ?_) | refine opsd_cons (fun K hK => ?_) | refine ops_nil ?_ | refine fit_i64 (by omega) ?_ | refine fit_u8 (by omega) ?_ | refine fit_u64 (by omega) ?_ | refine fit_u32 (by omega) ?_ | refine fit_any ?_ | refine sh_in (by simp only [IntKind.bits]; omega) ?_) | ((with_reducible refine opsd_nil ?_); refine And.intro (by kernel_rfl) ?_) | with_reducible refine callV_snap ?_ | (with_reducible first | refine idx_map (by omega) ?_ | refine W_reg lv66BdM ?_ | refine W_drw lv66BdM (by kernel_rfl) ?_ | refine W_skip ?_ | refine W_exit ?_ | refine end_at0 ?_) | (with_reducible refine And.intro (fun h => ?_) (fun h => ?_)) | (with_reducible refine And.intro (by omega) ?_)); (try simp only [go_sem, seval, reduceCtorEq, hc7, lv66BdM, Try.ntmps66, Try.results66, AllocS]))
        | fail)
      exact ⟨7, by omega, by omega, hno, fun h => by omega, rfl⟩
    · have h67 : q = 0 ∨ q = 1 ∨ q = 2 ∨ q = 3 ∨ q = 4 ∨ q = 5 ∨ q = 6 := by omega
      rcases h67 with rfl | rfl | rfl | rfl | rfl | rfl | rfl
      · have hk' : ((0 : Nat) : Int) = 0 := rfl
        by_cases he : L 0 = []
        · have hl0 : (L 0).length = 0 := by rw [he]; rfl
          have hl1 : ((L 0).length : Int) = 0 := by omega
          repeat' (first
            | (with_reducible first | refine W_seq ?_ | refine W_condT rfl ?_ | refine W_condF rfl ?_ | refine W_tf rfl (fun h => ?_) (fun h => ?_) | refine W_block ?_ | refine endQ_ret ?_ | refine endQ_normal ?_)
            | ((with_reducible first | refine hK _ ?_ | refine hK _ _ ?_); clear hK K)
            | ((first | (with_reducible first | refine ops_cons (fun K hK => ?_) | refine opsd_cons (fun K hK => ?_) | refine ops_nil ?_ | refine fit_i64 (by omega) ?_ | refine fit_u8 (by omega) ?_ | refine fit_u64 (by omega) ?_ | refine fit_u32 (by omega) ?_ | refine fit_any ?_ | refine sh_in (by simp only [IntKind.bits]; omega) ?_) | ((with_reducible refine opsd_nil ?_); refine And.intro (by kernel_rfl) ?_) | with_reducible refine callV_snap ?_ | (with_reducible first | refine idx_map (by omega) ?_ | refine W_reg lv66BdM ?_ | refine W_drw lv66BdM (by kernel_rfl) ?_ | refine W_skip ?_ | refine W_exit ?_ | refine end_at0 ?_) | (with_reducible refine And.intro (fun h => ?_) (fun h => ?_)) | (with_reducible refine And.intro (by omega) ?_)); (try simp only [go_sem, seval, reduceCtorEq, hk', hl1, lv66BdM, Try.ntmps66, Try.results66, AllocS]))
            | fail)
          refine ⟨1, [0, 1, 2, 3, 4, 5, 6, 7, 8, 9], ⟨by omega, by omega, fun j h1 h2 => ?_⟩, by omega, ?_⟩
          · rcases Nat.lt_or_ge j 0 with h | h
            · exact hno j h1 h
            · have : j = 0 := by omega
              rw [this]; exact he
          · simp [go_sem]
        · have hl0 : (L 0).length ≠ 0 := fun h => he (List.eq_nil_of_length_eq_zero h)
          have hl1 : ¬ ((L 0).length : Int) = 0 := by omega
          repeat' (first
            | (with_reducible first | refine W_seq ?_ | refine W_condT rfl ?_ | refine W_condF rfl ?_ | refine W_tf rfl (fun h => ?_) (fun h => ?_) | refine W_block ?_ | refine endQ_ret ?_ | refine endQ_normal ?_)
            | ((with_reducible first | refine hK _ ?_ | refine hK _ _ ?_); clear hK K)
            | ((first | (with_reducible first | refine ops_cons (fun K hK => ?_) | refine opsd_cons (fun K hK => ?_) | refine ops_nil ?_ | refine fit_i64 (by omega) ?_ | refine fit_u8 (by omega) ?_ | refine fit_u64 (by omega) ?_ | refine fit_u32 (by omega) ?_ | refine fit_any ?_ | refine sh_in (by simp only [IntKind.bits]; omega) ?_) | ((with_reducible refine opsd_nil ?_); refine And.intro (by kernel_rfl) ?_) | with_reducible refine callV_snap ?_ | (with_reducible first | refine idx_map (by omega) ?_ | refine W_reg lv66BdM ?_ | refine W_drw lv66BdM (by kernel_rfl) ?_ | refine W_skip ?_ | refine W_exit ?_ | refine end_at0 ?_) | (with_reducible refine And.intro (fun h => ?_) (fun h => ?_)) | (with_reducible refine And.intro (by omega) ?_)); (try simp only [go_sem, seval, reduceCtorEq, hk', hl1, lv66BdM, Try.ntmps66, Try.results66, AllocS]))
            | fail)
          exact ⟨0, by omega, by omega, hno, fun _ => he, rfl⟩
      · have hk' : ((1 : Nat) : Int) = 1 := rfl
        by_cases he : L 1 = []
        · have hl0 : (L 1).length = 0 := by rw [he]; rfl
          have hl1 : ((L 1).length : Int) = 0 := by omega
          repeat' (first
            | (with_reducible first | refine W_seq ?_ | refine W_condT rfl ?_ | refine W_condF rfl ?_ | refine W_tf rfl (fun h => ?_) (fun h => ?_) | refine W_block ?_ | refine endQ_ret ?_ | refine endQ_normal ?_)
            | ((with_reducible first | refine hK _ ?_ | refine hK _ _ ?_); clear hK K)
            | ((first | (with_reducible first | refine ops_cons (fun K hK => ?_) | refine opsd_cons (fun K hK => ?_) | refine ops_nil ?_ | refine fit_i64 (by omega) ?_ | refine fit_u8 (by omega) ?_ | refine fit_u64 (by omega) ?_ | refine fit_u32 (by omega) ?_ | refine fit_any ?_ | refine sh_in (by simp only [IntKind.bits]; omega) ?_) | ((with_reducible refine opsd_nil ?_); refine And.intro (by kernel_rfl) ?_) | with_reducible refine callV_snap ?_ | (with_reducible first | refine idx_map (by omega) ?_ | refine W_reg lv66BdM ?_ | refine W_drw lv66BdM (by kernel_rfl) ?_ | refine W_skip ?_ | refine W_exit ?_ | refine end_at0 ?_) | (with_reducible refine And.intro (fun h => ?_) (fun h => ?_)) | (with_reducible refine And.intro (by omega) ?_)); (try simp only [go_sem, seval, reduceCtorEq, hk', hl1, lv66BdM, Try.ntmps66, Try.results66, AllocS]))
            | fail)
          refine ⟨2, [0, 1, 2, 3, 4, 5, 6, 7, 8, 9], ⟨by omega, by omega, fun j h1 h2 => ?_⟩, by omega, ?_⟩
          · rcases Nat.lt_or_ge j 1 with h | h
            · exact hno j h1 h
            · have : j = 1 := by omega
              rw [this]; exact he
          · simp [go_sem]
        · have hl0 : (L 1).length ≠ 0 := fun h => he (List.eq_nil_of_length_eq_zero h)
          have hl1 : ¬ ((L 1).length : Int) = 0 := by omega
          repeat' (first
            | (with_reducible first | refine W_seq ?_ | refine W_condT rfl ?_ | refine W_condF rfl ?_ | refine W_tf rfl (fun h => ?_) (fun h => ?_) | refine W_block ?_ | refine endQ_ret ?_ | refine endQ_normal ?_)
            | ((with_reducible first | refine hK _ ?_ | refine hK _ _ ?_); clear hK K)
            | ((first | (with_reducible first | refine ops_cons (fun K hK => ?_) | refine opsd_cons (fun K hK => ?_) | refine ops_nil ?_ | refine fit_i64 (by omega) ?_ | refine fit_u8 (by omega) ?_ | refine fit_u64 (by omega) ?_ | refine fit_u32 (by omega) ?_ | refine fit_any ?_ | refine sh_in (by simp only [IntKind.bits]; omega) ?_) | ((with_reducible refine opsd_nil ?_); refine And.intro (by kernel_rfl) ?_) | with_reducible refine callV_snap ?_ | (with_reducible first | refine idx_map (by omega) ?_ | refine W_reg lv66BdM ?_ | refine W_drw lv66BdM (by kernel_rfl) ?_ | refine W_skip ?_ | refine W_exit ?_ | refine end_at0 ?_) | (with_reducible refine And.intro (fun h => ?_) (fun h => ?_)) | (with_reducible refine And.intro (by omega) ?_)); (try simp only [go_sem, seval, reduceCtorEq, hk', hl1, lv66BdM, Try.ntmps66, Try.results66, AllocS]))
            | fail)
          exact ⟨1, by omega, by omega, hno, fun _ => he, rfl⟩
      · have hk' : ((2 : Nat) : Int) = 2 := rfl
        by_cases he : L 2 = []
        · have hl0 : (L 2).length = 0 := by rw [he]; rfl
          have hl1 : ((L 2).length : Int) = 0 := by omega
          repeat' (first
            | (with_reducible first | refine W_seq ?_ | refine W_condT rfl ?_ | refine W_condF rfl ?_ | refine W_tf rfl (fun h => ?_) (fun h => ?_) | refine W_block ?_ | refine endQ_ret ?_ | refine endQ_normal ?_)
            | ((with_reducible first | refine hK _ ?_ | refine hK _ _ ?_); clear hK K)
            | ((first | (with_reducible first | refine ops_cons (fun K hK => ?_) | refine opsd_cons (fun K hK => ?_) | refine ops_nil ?_ | refine fit_i64 (by omega) ?_ | refine fit_u8 (by omega) ?_ | refine fit_u64 (by omega) ?_ | refine fit_u32 (by omega) ?_ | refine fit_any ?_ | refine sh_in (by simp only [IntKind.bits]; omega) ?_) | ((with_reducible refine opsd_nil ?_); refine And.intro (by kernel_rfl) ?_) | with_reducible refine callV_snap ?_ | (with_reducible first | refine idx_map (by omega) ?_ | refine W_reg lv66BdM ?_ | refine W_drw lv66BdM (by kernel_rfl) ?_ | refine W_skip ?_ | refine W_exit ?_ | refine end_at0 ?_) | (with_reducible refine And.intro (fun h => ?_) (fun h => ?_)) | (with_reducible refine And.intro (by omega) ?_)); (try simp only [go_sem, seval, reduceCtorEq, hk', hl1, lv66BdM, Try.ntmps66, Try.results66, AllocS]))
            | fail)
          refine ⟨3, [0, 1, 2, 3, 4, 5, 6, 7, 8, 9], ⟨by omega, by omega, fun j h1 h2 => ?_⟩, by omega, ?_⟩
          · rcases Nat.lt_or_ge j 2 with h | h
            · exact hno j h1 h
            · have : j = 2 := by omega
              rw [this]; exact he
          · simp [go_sem]
        · have hl0 : (L 2).length ≠ 0 := fun h => he (List.eq_nil_of_length_eq_zero h)
          have hl1 : ¬ ((L 2).length : Int) = 0 := by omega
          repeat' (first
            | (with_reducible first | refine W_seq ?_ | refine W_condT rfl ?_ | refine W_condF rfl ?_ | refine W_tf rfl (fun h => ?_) (fun h => ?_) | refine W_block ?_ | refine endQ_ret ?_ | refine endQ_normal ?_)
            | ((with_reducible first | refine hK _ ?_ | refine hK _ _ ?_); clear hK K)
            | ((first | (with_reducible first | refine ops_cons (fun K hK => ?_) | refine opsd_cons (fun K hK => ?_) | refine ops_nil ?_ | refine fit_i64 (by omega) ?_ | refine fit_u8 (by omega) ?_ | refine fit_u64 (by omega) ?_ | refine fit_u32 (by omega) ?_ | refine fit_any ?_ | refine sh_in (by simp only [IntKind.bits]; omega) ?_) | ((with_reducible refine opsd_nil ?_); refine And.intro (by kernel_rfl) ?_) | with_reducible refine callV_snap ?_ | (with_reducible first | refine idx_map (by omega) ?_ | refine W_reg lv66BdM ?_ | refine W_drw lv66BdM (by kernel_rfl) ?_ | refine W_skip ?_ | refine W_exit ?_ | refine end_at0 ?_) | (with_reducible refine And.intro (fun h => ?_) (fun h => ?_)) | (with_reducible refine And.intro (by omega) ?_)); (try simp only [go_sem, seval, reduceCtorEq, hk', hl1, lv66BdM, Try.ntmps66, Try.results66, AllocS]))
            | fail)
          exact ⟨2, by omega, by omega, hno, fun _ => he, rfl⟩
      · have hk' : ((3 : Nat) : Int) = 3 := rfl
        by_cases he : L 3 = []
        · have hl0 : (L 3).length = 0 := by rw [he]; rfl
          have hl1 : ((L 3).length : Int) = 0 := by omega
          repeat' (first
            | (with_reducible first | refine W_seq ?_ | refine W_condT rfl ?_ | refine W_condF rfl ?_ | refine W_tf rfl (fun h => ?_) (fun h => ?_) | refine W_block ?_ | refine endQ_ret ?_ | refine endQ_normal ?_)
            | ((with_reducible first | refine hK _ ?_ | refine hK _ _ ?_); clear hK K)
            | ((first | (with_reducible first | refine ops_cons (fun K hK => ?_) | refine opsd_cons (fun K hK => ?_) | refine ops_nil ?_ | refine fit_i64 (by omega) ?_ | refine fit_u8 (by omega) ?_ | refine fit_u64 (by omega) ?_ | refine fit_u32 (by omega) ?_ | refine fit_any ?_ | refine sh_in (by simp only [IntKind.bits]; omega) ?_) | ((with_reducible refine opsd_nil ?_); refine And.intro (by kernel_rfl) ?_) | with_reducible refine callV_snap ?_ | (with_reducible first | refine idx_map (by omega) ?_ | refine W_reg lv66BdM ?_ | refine W_drw lv66BdM (by kernel_rfl) ?_ | refine W_skip ?_ | refine W_exit ?_ | refine end_at0 ?_) | (with_reducible refine And.intro (fun h => ?_) (fun h => ?_)) | (with_reducible refine And.intro (by omega) ?_)); (try simp only [go_sem, seval, reduceCtorEq, hk', hl1, lv66BdM, Try.ntmps66, Try.results66, AllocS]))
            | fail)
          refine ⟨4, [0, 1, 2, 3, 4, 5, 6, 7, 8, 9], ⟨by omega, by omega, fun j h1 h2 => ?_⟩, by omega, ?_⟩
          · rcases Nat.lt_or_ge j 3 with h | h
            · exact hno j h1 h
            · have : j = 3 := by omega
              rw [this]; exact he
          · simp [go_sem]
        · have hl0 : (L 3).length ≠ 0 := fun h => he (List.eq_nil_of_length_eq_zero h)
          have hl1 : ¬ ((L 3).length : Int) = 0 := by omega
          repeat' (first
            | (with_reducible first | refine W_seq ?_ | refine W_condT rfl ?_ | refine W_condF rfl ?_ | refine W_tf rfl (fun h => ?_) (fun h => ?_) | refine W_block ?_ | refine endQ_ret ?_ | refine endQ_normal ?_)
            | ((with_reducible first | refine hK _ ?_ | refine hK _ _ ?_); clear hK K)
            | ((first | (with_reducible first | refine ops_cons (fun K hK => ?_) | refine opsd_cons (fun K hK => ?_) | refine ops_nil ?_ | refine fit_i64 (by omega) ?_ | refine fit_u8 (by omega) ?_ | refine fit_u64 (by omega) ?_ | refine fit_u32 (by omega) ?_ | refine fit_any ?_ | refine sh_in (by simp only [IntKind.bits]; omega) ?_) | ((with_reducible refine opsd_nil ?_); refine And.intro (by kernel_rfl) ?_) | with_reducible refine callV_snap ?_ | (with_reducible first | refine idx_map (by omega) ?_ | refine W_reg lv66BdM ?_ | refine W_drw lv66BdM (by kernel_rfl) ?_ | refine W_skip ?_ | refine W_exit ?_ | refine end_at0 ?_) | (with_reducible refine And.intro (fun h => ?_) (fun h => ?_)) | (with_reducible refine And.intro (by omega) ?_)); (try simp only [go_sem, seval, reduceCtorEq, hk', hl1, lv66BdM, Try.ntmps66, Try.results66, AllocS]))
            | fail)
          exact ⟨3, by omega, by omega, hno, fun _ => he, rfl⟩
      · have hk' : ((4 : Nat) : Int) = 4 := rfl
        by_cases he : L 4 = []
        · have hl0 : (L 4).length = 0 := by rw [he]; rfl
          have hl1 : ((L 4).length : Int) = 0 := by omega
          repeat' (first
            | (with_reducible first | refine W_seq ?_ | refine W_condT rfl ?_ | refine W_condF rfl ?_ | refine W_tf rfl (fun h => ?_) (fun h => ?_) | refine W_block ?_ | refine endQ_ret ?_ | refine endQ_normal ?_)
            | ((with_reducible first | refine hK _ ?_ | refine hK _ _ ?_); clear hK K)
            | ((first | (with_reducible first | refine ops_cons (fun K hK => ?_) | refine opsd_cons (fun K hK => ?_) | refine ops_nil ?_ | refine fit_i64 (by omega) ?_ | refine fit_u8 (by omega) ?_ | refine fit_u64 (by omega) ?_ | refine fit_u32 (by omega) ?_ | refine fit_any ?_ | refine sh_in (by simp only [IntKind.bits]; omega) ?_) | ((with_reducible refine opsd_nil ?_); refine And.intro (by kernel_rfl) ?_) | with_reducible refine callV_snap ?_ | (with_reducible first | refine idx_map (by omega) ?_ | refine W_reg lv66BdM ?_ | refine W_drw lv66BdM (by kernel_rfl) ?_ | refine W_skip ?_ | refine W_exit ?_ | refine end_at0 ?_) | (with_reducible refine And.intro (fun h => ?_) (fun h => ?_)) | (with_reducible refine And.intro (by omega) ?_)); (try simp only [go_sem, seval, reduceCtorEq, hk', hl1, lv66BdM, Try.ntmps66, Try.results66, AllocS]))
            | fail)
          refine ⟨5, [0, 1, 2, 3, 4, 5, 6, 7, 8, 9], ⟨by omega, by omega, fun j h1 h2 => ?_⟩, by omega, ?_⟩
          · rcases Nat.lt_or_ge j 4 with h | h
            · exact hno j h1 h
            · have : j = 4 := by omega
              rw [this]; exact he
          · simp [go_sem]
        · have hl0 : (L 4).length ≠ 0 := fun h => he (List.eq_nil_of_length_eq_zero h)
          have hl1 : ¬ ((L 4).length : Int) = 0 := by omega
          repeat' (first
            | (with_reducible first | refine W_seq ?_ | refine W_condT rfl ?_ | refine W_condF rfl ?_ | refine W_tf rfl (fun h => ?_) (fun h => ?_) | refine W_block ?_ | refine endQ_ret ?_ | refine endQ_normal ?_)
            | ((with_reducible first | refine hK _ ?_ | refine hK _ _ ?_); clear hK K)
            | ((first | (with_reducible first | refine ops_cons (fun K hK => ?_) | refine opsd_cons (fun K hK => ?_) | refine ops_nil ?_ | refine fit_i64 (by omega) ?_ | refine fit_u8 (by omega) ?_ | refine fit_u64 (by omega) ?_ | refine fit_u32 (by omega) ?_ | refine fit_any ?_ | refine sh_in (by simp only [IntKind.bits]; omega) ?_) | ((with_reducible refine opsd_nil ?_); refine And.intro (by kernel_rfl) ?_) | with_reducible refine callV_snap ?_ | (with_reducible first | refine idx_map (by omega) ?_ | refine W_reg lv66BdM ?_ | refine W_drw lv66BdM (by kernel_rfl) ?_ | refine W_skip ?_ | refine W_exit ?_ | refine end_at0 ?_) | (with_reducible refine And.intro (fun h => ?_) (fun h => ?_)) | (with_reducible refine And.intro (by omega) ?_)); (try simp only [go_sem, seval, reduceCtorEq, hk', hl1, lv66BdM, Try.ntmps66, Try.results66, AllocS]))
            | fail)
          exact ⟨4, by omega, by omega, hno, fun _ => he, rfl⟩
      · have hk' : ((5 : Nat) : Int) = 5 := rfl
        by_cases he : L 5 = []
        · have hl0 : (L 5).length = 0 := by rw [he]; rfl
          have hl1 : ((L 5).length : Int) = 0 := by omega
          repeat' (first
            | (with_reducible first | refine W_seq ?_ | refine W_condT rfl ?_ | refine W_condF rfl ?_ | refine W_tf rfl (fun h => ?_) (fun h => ?_) | refine W_block ?_ | refine endQ_ret ?_ | refine endQ_normal ?_)
            | ((with_reducible first | refine hK _ ?_ | refine hK _ _ ?_); clear hK K)
            | ((first | (with_reducible first | refine ops_cons (fun K hK => ?_) | refine opsd_cons (fun K hK => ?_) | refine ops_nil ?_ | refine fit_i64 (by omega) ?_ | refine fit_u8 (by omega) ?_ | refine fit_u64 (by omega) ?_ | refine fit_u32 (by omega) ?_ | refine fit_any ?_ | refine sh_in (by simp only [IntKind.bits]; omega) ?_) | ((with_reducible refine opsd_nil ?_); refine And.intro (by kernel_rfl) ?_) | with_reducible refine callV_snap ?_ | (with_reducible first | refine idx_map (by omega) ?_ | refine W_reg lv66BdM ?_ | refine W_drw lv66BdM (by kernel_rfl) ?_ | refine W_skip ?_ | refine W_exit ?_ | refine end_at0 ?_) | (with_reducible refine And.intro (fun h => ?_) (fun h => ?_)) | (with_reducible refine And.intro (by omega) ?_)); (try simp only [go_sem, seval, reduceCtorEq, hk', hl1, lv66BdM, Try.ntmps66, Try.results66, AllocS]))
            | fail)
          refine ⟨6, [0, 1, 2, 3, 4, 5, 6, 7, 8, 9], ⟨by omega, by omega, fun j h1 h2 => ?_⟩, by omega, ?_⟩
          · rcases Nat.lt_or_ge j 5 with h | h
            · exact hno j h1 h
            · have : j = 5 := by omega
              rw [this]; exact he
          · simp [go_sem]
        · have hl0 : (L 5).length ≠ 0 := fun h => he (List.eq_nil_of_length_eq_zero h)
          have hl1 : ¬ ((L 5).length : Int) = 0 := by omega
          repeat' (first
            | (with_reducible first | refine W_seq ?_ | refine W_condT rfl ?_ | refine W_condF rfl ?_ | refine W_tf rfl (fun h => ?_) (fun h => ?_) | refine W_block ?_ | refine endQ_ret ?_ | refine endQ_normal ?_)
            | ((with_reducible first | refine hK _ ?_ | refine hK _ _ ?_); clear hK K)
            | ((first | (with_reducible first | refine ops_cons (fun K hK => ?_) | refine opsd_cons (fun K hK => ?_) | refine ops_nil ?_ | refine fit_i64 (by omega) ?_ | refine fit_u8 (by omega) ?_ | refine fit_u64 (by omega) ?_ | refine fit_u32 (by omega) ?_ | refine fit_any ?_ | refine sh_in (by simp only [IntKind.bits]; omega) ?_) | ((with_reducible refine opsd_nil ?_); refine And.intro (by kernel_rfl) ?_) | with_reducible refine callV_snap ?_ | (with_reducible first | refine idx_map (by omega) ?_ | refine W_reg lv66BdM ?_ | refine W_drw lv66BdM (by kernel_rfl) ?_ | refine W_skip ?_ | refine W_exit ?_ | refine end_at0 ?_) | (with_reducible refine And.intro (fun h => ?_) (fun h => ?_)) | (with_reducible refine And.intro (by omega) ?_)); (try simp only [go_sem, seval, reduceCtorEq, hk', hl1, lv66BdM, Try.ntmps66, Try.results66, AllocS]))
            | fail)
          exact ⟨5, by omega, by omega, hno, fun _ => he, rfl⟩
      · have hk' : ((6 : Nat) : Int) = 6 := rfl
        by_cases he : L 6 = []
        · have hl0 : (L 6).length = 0 := by rw [he]; rfl
          have hl1 : ((L 6).length : Int) = 0 := by omega
          repeat' (first
            | (with_reducible first | refine W_seq ?_ | refine W_condT rfl ?_ | refine W_condF rfl ?_ | refine W_tf rfl (fun h => ?_) (fun h => ?_) | refine W_block ?_ | refine endQ_ret ?_ | refine endQ_normal ?_)
            | ((with_reducible first | refine hK _ ?_ | refine hK _ _ ?_); clear hK K)
            | ((first | (with_reducible first | refine ops_cons (fun K hK => ?_) | refine opsd_cons (fun K hK => ?_) | refine ops_nil ?_ | refine fit_i64 (by omega) ?_ | refine fit_u8 (by omega) ?_ | refine fit_u64 (by omega) ?_ | refine fit_u32 (by omega) ?_ | refine fit_any ?_ | refine sh_in (by simp only [IntKind.bits]; omega) ?_) | ((with_reducible refine opsd_nil ?_); refine And.intro (by kernel_rfl) ?_) | with_reducible refine callV_snap ?_ | (with_reducible first | refine idx_map (by omega) ?_ | refine W_reg lv66BdM ?_ | refine W_drw lv66BdM (by kernel_rfl) ?_ | refine W_skip ?_ | refine W_exit ?_ | refine end_at0 ?_) | (with_reducible refine And.intro (fun h => ?_) (fun h => ?_)) | (with_reducible refine And.intro (by omega) ?_)); (try simp only [go_sem, seval, reduceCtorEq, hk', hl1, lv66BdM, Try.ntmps66, Try.results66, AllocS]))
            | fail)
          refine ⟨7, [0, 1, 2, 3, 4, 5, 6, 7, 8, 9], ⟨by omega, by omega, fun j h1 h2 => ?_⟩, by omega, ?_⟩
          · rcases Nat.lt_or_ge j 6 with h | h
            · exact hno j h1 h
            · have : j = 6 := by omega
              rw [this]; exact he
          · simp [go_sem]
        · have hl0 : (L 6).length ≠ 0 := fun h => he (List.eq_nil_of_length_eq_zero h)
          have hl1 : ¬ ((L 6).length : Int) = 0 := by omega
          repeat' (first
            | (with_reducible first | refine W_seq ?_ | refine W_condT rfl ?_ | refine W_condF rfl ?_ | refine W_tf rfl (fun h => ?_) (fun h => ?_) | refine W_block ?_ | refine endQ_ret ?_ | refine endQ_normal ?_)
            | ((with_reducible first | refine hK _ ?_ | refine hK _ _ ?_); clear hK K)
            | ((first | (with_reducible first | refine ops_cons (fun K hK => ?_) | refine opsd_cons (fun K hK => ?_) | refine ops_nil ?_ | refine fit_i64 (by omega) ?_ | refine fit_u8 (by omega) ?_ | refine fit_u64 (by omega) ?_ | refine fit_u32 (by omega) ?_ | refine fit_any ?_ | refine sh_in (by simp only [IntKind.bits]; omega) ?_) | ((with_reducible refine opsd_nil ?_); refine And.intro (by kernel_rfl) ?_) | with_reducible refine callV_snap ?_ | (with_reducible first | refine idx_map (by omega) ?_ | refine W_reg lv66BdM ?_ | refine W_drw lv66BdM (by kernel_rfl) ?_ | refine W_skip ?_ | refine W_exit ?_ | refine end_at0 ?_) | (with_reducible refine And.intro (fun h => ?_) (fun h => ?_)) | (with_reducible refine And.intro (by omega) ?_)); (try simp only [go_sem, seval, reduceCtorEq, hk', hl1, lv66BdM, Try.ntmps66, Try.results66, AllocS]))
            | fail)
          exact ⟨6, by omega, by omega, hno, fun _ => he, rfl⟩
  rintro e σ' ⟨rfl, q, hq, hkq, hno, hsome, rfl⟩
  simp only [go_sem, seval, reduceCtorEq, List.map_cons, List.map_nil, List.cons_append, List.nil_append]
  have hmem : ∀ c : Bl, c ∈ m ↔ c.1 ∈ L c.2 := fun c => by rw [← hL]; exact (shv_mem m c.1 c.2).symm
  by_cases h7 : q = 7
  · subst h7
    have hc7 : ((7 : Nat) : Int) = 7 := rfl
    have hall : ∀ c ∈ m, c.2 < k := by
      intro c hc
      rcases Nat.lt_or_ge c.2 k with h | h
      · exact h
      · have h1 := hno c.2 h (by have := (hv.v.ok c hc).1; omega)
        have h2 := (hmem c).1 hc
        rw [h1] at h2; cases h2
    rcases hout with ⟨_, rfl, rfl⟩ | ⟨b, hb, rfl, rfl⟩
    · skip
      repeat' (first
        | (with_reducible first | refine W_seq ?_ | refine W_condT rfl ?_ | refine W_condF rfl ?_ | refine W_tf rfl (fun h => ?_) (fun h => ?_) | refine W_block ?_ | refine endQ_ret ?_ | refine endQ_normal ?_)
        | ((with_reducible first | refine hK _ ?_ | refine hK _ _ ?_); clear hK K)
        | ((first | (with_reducible first | refine ops_cons (fun K hK => ?_) | refine opsd_cons (fun K hK => ?_) | refine ops_nil ?_ | refine fit_i64 (by omega) ?_ | refine fit_u8 (by omega) ?_ | refine fit_u64 (by omega) ?_ | refine fit_u32 (by omega) ?_ | refine fit_any ?_ | refine sh_in (by simp only [IntKind.bits]; omega) ?_) | ((with_reducible refine opsd_nil ?_); refine And.intro (by kernel_rfl) ?_) | with_reducible refine callV_snap ?_ | (with_reducible first | refine idx_map (by omega) ?_ | refine W_reg lv66BdM ?_ | refine W_drw lv66BdM (by kernel_rfl) ?_ | refine W_skip ?_ | refine W_exit ?_ | refine W_ret ?_ | refine end_at0 ?_) | (with_reducible refine And.intro (fun h => ?_) (fun h => ?_)) | (with_reducible refine And.intro (by omega) ?_)); (try simp only [go_sem, seval, reduceCtorEq, hc7, lv66BdM, Try.ntmps66, Try.results66, AllocS]))
        | fail)
    · have := hall b hb.mem
      have := hb.le
      omega
  obtain ⟨x, xs, hx⟩ : ∃ x xs, L q = x :: xs := by
    cases h : L q with
    | nil => exact absurd h (hsome (by omega))
    | cons x xs => exact ⟨x, xs, rfl⟩
  have hxm : (x, q) ∈ m := (hmem (x, q)).2 (by rw [hx]; simp)
  have hbest : ∀ b, Best m k b → b = (x, q) := by
    intro b hb
    have h1 := hb.ord _ hxm hkq
    have h2 := (hmem b).1 hb.mem
    have h3 : b.2 = q := by
      rcases Nat.lt_or_ge b.2 q with h | h
      · have := hno b.2 hb.le h
        rw [this] at h2; cases h2
      · exact Nat.le_antisymm h1 h
    rw [h3, hx] at h2
    have h4 := hb.fst _ hxm h3.symm
    have h5 : x ≤ b.1 := by
      rcases List.mem_cons.1 h2 with h | h
      · omega
      · have := hsh.asc q
        rw [hx] at this
        have := (List.pairwise_cons.1 this).1 _ h
        omega
    exact Prod.ext (Nat.le_antisymm h4 h5) h3
  rcases hout with ⟨hall, rfl, rfl⟩ | ⟨b, hb, rfl, rfl⟩
  · exact absurd (hall _ hxm) (by dsimp only; omega)
  obtain rfl := hbest b hb
  clear hbest
  dsimp only
  have hq6 : q ≤ 6 := by omega
  have hq7 : ¬ 6 < (q : Int) := by omega
  have hx256 : x < 256 := hsh.lt q x (by rw [hx]; simp)
  repeat' (first
    | (with_reducible first | refine W_seq ?_ | refine W_condT rfl ?_ | refine W_condF rfl ?_ | refine W_tf rfl (fun h => ?_) (fun h => ?_) | refine W_block ?_ | refine endQ_ret ?_ | refine endQ_normal ?_)
    | ((with_reducible first | refine hK _ ?_ | refine hK _ _ ?_); clear hK K)
    | (with_reducible refine halt_reg 10 ?_)
    | ((first | (with_reducible first | refine ops_cons (fun K hK => ?_) | refine opsd_cons (fun K hK => ?_) | refine ops_nil ?_ | refine fit_i64 (by omega) ?_ | refine fit_u8 (by omega) ?_ | refine fit_u64 (by omega) ?_ | refine fit_u32 (by omega) ?_ | refine fit_any ?_ | refine sh_in (by simp only [IntKind.bits]; omega) ?_) | ((with_reducible refine opsd_nil ?_); refine And.intro (by kernel_rfl) ?_) | with_reducible refine callV_snap ?_ | (with_reducible first | refine idx_map (by omega) ?_ | refine W_reg lv66BdM ?_ | refine W_drw lv66BdM (by kernel_rfl) ?_ | refine W_skip ?_ | refine W_exit ?_ | refine end_at0 ?_) | (with_reducible refine And.intro (fun h => ?_) (fun h => ?_)) | (with_reducible refine And.intro (by omega) ?_)); (try simp only [go_sem, seval, reduceCtorEq, hq7, lv66BdM, Try.ntmps66, Try.results66, AllocS]))
    | fail)
  unfold Halt
  refine W_mono (Q := fun e σ' => e = .normal ∧ σ' = ⟨[(1, iv k), (2, .ptr 0 0), (4, .ptr 1 0), (9, .ptr 2 0), (10, iv q), (11, iv x)], [some (.box 59 [iv N, dN m]), some (.box 59 [iv 0, .nil])] ++ (shBox 3 L :: [rU (L 0), rU (L 1), rU (L 2), rU (L 3), rU (L 4), rU (L 5), rU (L 6)]).map some⟩) ?_ ?_
  · have h67 : q = 0 ∨ q = 1 ∨ q = 2 ∨ q = 3 ∨ q = 4 ∨ q = 5 ∨ q = 6 := by omega
    have h0l : (0 : Int) < ((L q).length : Int) := by rw [hx]; simp
    have h0n : 0 < (L q).length := by omega
    have hg : (L q)[0]'h0n = x := by simp [hx]
    have hu : encU ((L q)[0]'h0n) = [.int .u8 (x : Int)] := by rw [hg]; rfl
    clear hx hsome
    rcases h67 with rfl | rfl | rfl | rfl | rfl | rfl | rfl
    · have hk' : ((0 : Nat) : Int) = 0 := rfl
      repeat' (first
        | (with_reducible first | refine W_seq ?_ | refine W_condT rfl ?_ | refine W_condF rfl ?_ | refine W_tf rfl (fun h => ?_) (fun h => ?_) | refine W_block ?_ | refine endQ_ret ?_ | refine endQ_normal ?_)
        | ((with_reducible first | refine hK _ ?_ | refine hK _ _ ?_); clear hK K)
        | ((first | (with_reducible first | refine ops_cons (fun K hK => ?_) | refine opsd_cons (fun K hK => ?_) | refine ops_nil ?_ | refine fit_i64 (by omega) ?_ | refine fit_u8 (by omega) ?_ | refine fit_u64 (by omega) ?_ | refine fit_u32 (by omega) ?_ | refine fit_any ?_ | refine sh_in (by simp only [IntKind.bits]; omega) ?_) | ((with_reducible refine opsd_nil ?_); refine And.intro (by kernel_rfl) ?_) | with_reducible refine callV_snap ?_ | (with_reducible first | refine idx_map (by omega) ?_ | refine W_reg lv66BdM ?_ | refine W_drw lv66BdM (by kernel_rfl) ?_ | refine W_skip ?_ | refine W_exit ?_ | refine end_at0 ?_) | (with_reducible refine And.intro (fun h => ?_) (fun h => ?_)) | (with_reducible refine And.intro (by omega) ?_)); (try simp only [go_sem, seval, reduceCtorEq, hk', h0l, hu, lv66BdM, Try.ntmps66, Try.results66, AllocS]))
        | fail)
    · have hk' : ((1 : Nat) : Int) = 1 := rfl
      repeat' (first
        | (with_reducible first | refine W_seq ?_ | refine W_condT rfl ?_ | refine W_condF rfl ?_ | refine W_tf rfl (fun h => ?_) (fun h => ?_) | refine W_block ?_ | refine endQ_ret ?_ | refine endQ_normal ?_)
        | ((with_reducible first | refine hK _ ?_ | refine hK _ _ ?_); clear hK K)
        | ((first | (with_reducible first | refine ops_cons (fun K hK => ?_) | refine opsd_cons (fun K hK => ?_) | refine ops_nil ?_ | refine fit_i64 (by omega) ?_ | refine fit_u8 (by omega) ?_ | refine fit_u64 (by omega) ?_ | refine fit_u32 (by omega) ?_ | refine fit_any ?_ | refine sh_in (by simp only [IntKind.bits]; omega) ?_) | ((with_reducible refine opsd_nil ?_); refine And.intro (by kernel_rfl) ?_) | with_reducible refine callV_snap ?_ | (with_reducible first | refine idx_map (by omega) ?_ | refine W_reg lv66BdM ?_ | refine W_drw lv66BdM (by kernel_rfl) ?_ | refine W_skip ?_ | refine W_exit ?_ | refine end_at0 ?_) | (with_reducible refine And.intro (fun h => ?_) (fun h => ?_)) | (with_reducible refine And.intro (by omega) ?_)); (try simp only [go_sem, seval, reduceCtorEq, hk', h0l, hu, lv66BdM, Try.ntmps66, Try.results66, AllocS]))
        | fail)
    · have hk' : ((2 : Nat) : Int) = 2 := rfl
      repeat' (first
        | (with_reducible first | refine W_seq ?_ | refine W_condT rfl ?_ | refine W_condF rfl ?_ | refine W_tf rfl (fun h => ?_) (fun h => ?_) | refine W_block ?_ | refine endQ_ret ?_ | refine endQ_normal ?_)
        | ((with_reducible first | refine hK _ ?_ | refine hK _ _ ?_); clear hK K)
        | ((first | (with_reducible first | refine ops_cons (fun K hK => ?_) | refine opsd_cons (fun K hK => ?_) | refine ops_nil ?_ | refine fit_i64 (by omega) ?_ | refine fit_u8 (by omega) ?_ | refine fit_u64 (by omega) ?_ | refine fit_u32 (by omega) ?_ | refine fit_any ?_ | refine sh_in (by simp only [IntKind.bits]; omega) ?_) | ((with_reducible refine opsd_nil ?_); refine And.intro (by kernel_rfl) ?_) | with_reducible refine callV_snap ?_ | (with_reducible first | refine idx_map (by omega) ?_ | refine W_reg lv66BdM ?_ | refine W_drw lv66BdM (by kernel_rfl) ?_ | refine W_skip ?_ | refine W_exit ?_ | refine end_at0 ?_) | (with_reducible refine And.intro (fun h => ?_) (fun h => ?_)) | (with_reducible refine And.intro (by omega) ?_)); (try simp only [go_sem, seval, reduceCtorEq, hk', h0l, hu, lv66BdM, Try.ntmps66, Try.results66, AllocS]))
        | fail)
    · have hk' : ((3 : Nat) : Int) = 3 := rfl
      repeat' (first
        | (with_reducible first | refine W_seq ?_ | refine W_condT rfl ?_ | refine W_condF rfl ?_ | refine W_tf rfl (fun h => ?_) (fun h => ?_) | refine W_block ?_ | refine endQ_ret ?_ | refine endQ_normal ?_)
        | ((with_reducible first | refine hK _ ?_ | refine hK _ _ ?_); clear hK K)
        | ((first | (with_reducible first | refine ops_cons (fun K hK => ?_) | refine opsd_cons (fun K hK => ?_) | refine ops_nil ?_ | refine fit_i64 (by omega) ?_ | refine fit_u8 (by omega) ?_ | refine fit_u64 (by omega) ?_ | refine fit_u32 (by omega) ?_ | refine fit_any ?_ | refine sh_in (by simp only [IntKind.bits]; omega) ?_) | ((with_reducible refine opsd_nil ?_); refine And.intro (by kernel_rfl) ?_) | with_reducible refine callV_snap ?_ | (with_reducible first | refine idx_map (by omega) ?_ | refine W_reg lv66BdM ?_ | refine W_drw lv66BdM (by kernel_rfl) ?_ | refine W_skip ?_ | refine W_exit ?_ | refine end_at0 ?_) | (with_reducible refine And.intro (fun h => ?_) (fun h => ?_)) | (with_reducible refine And.intro (by omega) ?_)); (try simp only [go_sem, seval, reduceCtorEq, hk', h0l, hu, lv66BdM, Try.ntmps66, Try.results66, AllocS]))
        | fail)
    · have hk' : ((4 : Nat) : Int) = 4 := rfl
      repeat' (first
        | (with_reducible first | refine W_seq ?_ | refine W_condT rfl ?_ | refine W_condF rfl ?_ | refine W_tf rfl (fun h => ?_) (fun h => ?_) | refine W_block ?_ | refine endQ_ret ?_ | refine endQ_normal ?_)
        | ((with_reducible first | refine hK _ ?_ | refine hK _ _ ?_); clear hK K)
        | ((first | (with_reducible first | refine ops_cons (fun K hK => ?_) | refine opsd_cons (fun K hK => ?_) | refine ops_nil ?_ | refine fit_i64 (by omega) ?_ | refine fit_u8 (by omega) ?_ | refine fit_u64 (by omega) ?_ | refine fit_u32 (by omega) ?_ | refine fit_any ?_ | refine sh_in (by simp only [IntKind.bits]; omega) ?_) | ((with_reducible refine opsd_nil ?_); refine And.intro (by kernel_rfl) ?_) | with_reducible refine callV_snap ?_ | (with_reducible first | refine idx_map (by omega) ?_ | refine W_reg lv66BdM ?_ | refine W_drw lv66BdM (by kernel_rfl) ?_ | refine W_skip ?_ | refine W_exit ?_ | refine end_at0 ?_) | (with_reducible refine And.intro (fun h => ?_) (fun h => ?_)) | (with_reducible refine And.intro (by omega) ?_)); (try simp only [go_sem, seval, reduceCtorEq, hk', h0l, hu, lv66BdM, Try.ntmps66, Try.results66, AllocS]))
        | fail)
    · have hk' : ((5 : Nat) : Int) = 5 := rfl
      repeat' (first
        | (with_reducible first | refine W_seq ?_ | refine W_condT rfl ?_ | refine W_condF rfl ?_ | refine W_tf rfl (fun h => ?_) (fun h => ?_) | refine W_block ?_ | refine endQ_ret ?_ | refine endQ_normal ?_)
        | ((with_reducible first | refine hK _ ?_ | refine hK _ _ ?_); clear hK K)
        | ((first | (with_reducible first | refine ops_cons (fun K hK => ?_) | refine opsd_cons (fun K hK => ?_) | refine ops_nil ?_ | refine fit_i64 (by omega) ?_ | refine fit_u8 (by omega) ?_ | refine fit_u64 (by omega) ?_ | refine fit_u32 (by omega) ?_ | refine fit_any ?_ | refine sh_in (by simp only [IntKind.bits]; omega) ?_) | ((with_reducible refine opsd_nil ?_); refine And.intro (by kernel_rfl) ?_) | with_reducible refine callV_snap ?_ | (with_reducible first | refine idx_map (by omega) ?_ | refine W_reg lv66BdM ?_ | refine W_drw lv66BdM (by kernel_rfl) ?_ | refine W_skip ?_ | refine W_exit ?_ | refine end_at0 ?_) | (with_reducible refine And.intro (fun h => ?_) (fun h => ?_)) | (with_reducible refine And.intro (by omega) ?_)); (try simp only [go_sem, seval, reduceCtorEq, hk', h0l, hu, lv66BdM, Try.ntmps66, Try.results66, AllocS]))
        | fail)
    · have hk' : ((6 : Nat) : Int) = 6 := rfl
      repeat' (first
        | (with_reducible first | refine W_seq ?_ | refine W_condT rfl ?_ | refine W_condF rfl ?_ | refine W_tf rfl (fun h => ?_) (fun h => ?_) | refine W_block ?_ | refine endQ_ret ?_ | refine endQ_normal ?_)
        | ((with_reducible first | refine hK _ ?_ | refine hK _ _ ?_); clear hK K)
        | ((first | (with_reducible first | refine ops_cons (fun K hK => ?_) | refine opsd_cons (fun K hK => ?_) | refine ops_nil ?_ | refine fit_i64 (by omega) ?_ | refine fit_u8 (by omega) ?_ | refine fit_u64 (by omega) ?_ | refine fit_u32 (by omega) ?_ | refine fit_any ?_ | refine sh_in (by simp only [IntKind.bits]; omega) ?_) | ((with_reducible refine opsd_nil ?_); refine And.intro (by kernel_rfl) ?_) | with_reducible refine callV_snap ?_ | (with_reducible first | refine idx_map (by omega) ?_ | refine W_reg lv66BdM ?_ | refine W_drw lv66BdM (by kernel_rfl) ?_ | refine W_skip ?_ | refine W_exit ?_ | refine end_at0 ?_) | (with_reducible refine And.intro (fun h => ?_) (fun h => ?_)) | (with_reducible refine And.intro (by omega) ?_)); (try simp only [go_sem, seval, reduceCtorEq, hk', h0l, hu, lv66BdM, Try.ntmps66, Try.results66, AllocS]))
        | fail)
  rintro e σ' ⟨rfl, rfl⟩
  simp only [go_sem, seval, reduceCtorEq, List.map_cons, List.map_nil, List.cons_append, List.nil_append]
  have hin : x ∈ L q := by rw [hx]; simp
  have hsh1 := hsh.del q x
  have hR : Rest N (upd L q ((L q).erase x)) x q := by
    have hbag : Bag N (SL L) := by rw [← hL]; exact hv.v.bag.sub (fun b hb => (hv.v.SL b).1 hb)
    have hdel := SL_del hsh (b := (x, q))
    dsimp only at hdel
    refine ⟨hsh1, hbag.sub (fun c hc => ((hdel c).1 hc).1), hv.v.ok _ hxm, hv.v.n, fun c hc => ?_⟩
    obtain ⟨c1, c2⟩ := (hdel c).1 hc
    have c3 : c ∈ m := (hmem c).2 c1.2
    exact asc_dj hv.v.asc c3 hxm c2
  have hal : x % 2 ^ k = 0 := al_down (hv.v.ok _ hxm).2.2 hkq
  have hres := take_law hv.v hal hxm (Nat.le_refl _) (by have := Nat.pow_le_pow_right (n := 2) (by decide) hkq; dsimp only; omega) hkq
  dsimp only at hres
  rw [hL] at hres
  repeat' (first
    | (with_reducible first | refine W_seq ?_ | refine W_condT rfl ?_ | refine W_condF rfl ?_ | refine W_tf rfl (fun h => ?_) (fun h => ?_) | refine W_block ?_ | refine endQ_ret ?_ | refine endQ_normal ?_)
    | ((with_reducible first | refine hK _ ?_ | refine hK _ _ ?_); clear hK K)
    | ((first | (with_reducible first | refine ops_cons (fun K hK => ?_) | refine opsd_cons (fun K hK => ?_) | refine ops_nil ?_ | refine fit_i64 (by omega) ?_ | refine fit_u8 (by omega) ?_ | refine fit_u64 (by omega) ?_ | refine fit_u32 (by omega) ?_ | refine fit_any ?_ | refine sh_in (by simp only [IntKind.bits]; omega) ?_) | ((with_reducible refine opsd_nil ?_); refine And.intro (by kernel_rfl) ?_) | ((with_reducible refine callV_lend removeTS [2,3,4,5,6,7,8,9] removeT_ok rfl ?_); simp only [go_sem, seval, reduceCtorEq, removeS, decide_true, Bool.and_self, lv66BdM]; refine ⟨(by first | exact alOk_nil _ | exact alOk_f rfl), rfl, _, _, removeT_at L q x hq6 hx256 hsh hin, ?_⟩) | with_reducible refine callV_snap ?_ | (with_reducible first | refine idx_map (by omega) ?_ | refine W_reg lv66BdM ?_ | refine W_drw lv66BdM (by kernel_rfl) ?_ | refine W_skip ?_ | refine W_exit ?_ | refine end_at0 ?_) | (with_reducible refine And.intro (fun h => ?_) (fun h => ?_)) | (with_reducible refine And.intro (by omega) ?_)); (try simp only [go_sem, seval, reduceCtorEq, removeS, decide_true, Bool.and_self, lv66BdM, removeTS, Try.ntmps66, Try.results66, AllocS]))
    | fail)
  generalize upd L q ((L q).erase x) = L1 at *
  refine W_loop (fun y : Shf × Nat => ⟨[(1, iv k), (2, .ptr 0 0), (4, .ptr 1 0), (9, .ptr 2 0), (10, iv y.2), (11, iv x)], [some (.box 59 [iv N, dN m]), some (.box 59 [iv 0, .nil])] ++ (shBox 3 y.1 :: [rU (y.1 0), rU (y.1 1), rU (y.1 2), rU (y.1 3), rU (y.1 4), rU (y.1 5), rU (y.1 6)]).map some⟩)
    (fun y => y.2 ≤ q ∧ k ≤ y.2 ∧ Rest N y.1 x y.2 ∧ splitT x k y.2 y.1 x = splitT x k q L1 x) (fun y => y.2) (L1, q) ⟨Nat.le_refl _, hkq, hR, rfl⟩ [0, 1, 2, 3, 4, 5, 6, 7, 8, 9] ?_ ?_
  · simp [go_sem]
  rintro ⟨M, j⟩ ⟨hj, hkj, hRM, hgo⟩
  dsimp only at hj hkj hRM hgo
  simp only [List.map_cons, List.map_nil, List.cons_append, List.nil_append]
  have hpj := p64 j (by omega)
  by_cases hlt : k < j
  · have hki : (k : Int) < (j : Int) := by omega
    obtain ⟨i, rfl⟩ : ∃ i, j = i + 1 := ⟨j - 1, by omega⟩
    have hsub : (((i + 1 : Nat) : Int) - 1) = (i : Int) := by omega
    have hpi := p64 i (by omega)
    have h2i := two_succ i
    have hpw : (1 : Int) * 2 ^ i = ((2 ^ i : Nat) : Int) := by rw [Int.one_mul, pow_nat]
    have hpw2 : (2 : Int) ^ i = ((2 ^ i : Nat) : Int) := pow_nat i
    have hadd : (x : Int) + ((2 ^ i : Nat) : Int) = ((x + 2 ^ i : Nat) : Int) := by omega
    have hbd := hRM.ok.2.1
    have hn := hRM.n
    dsimp only at hbd
    have hx2 : x + 2 ^ i < 256 := by omega
    have hMs := hRM.sh
    rw [split_self (by omega)] at hgo
    repeat' (first
      | (with_reducible first | refine W_seq ?_ | refine W_condT rfl ?_ | refine W_condF rfl ?_ | refine W_tf rfl (fun h => ?_) (fun h => ?_) | refine W_block ?_ | refine endQ_ret ?_ | refine endQ_normal ?_)
      | ((with_reducible first | refine hK _ ?_ | refine hK _ _ ?_); clear hK K)
      | ((first | (with_reducible first | refine ops_cons (fun K hK => ?_) | refine opsd_cons (fun K hK => ?_) | refine ops_nil ?_ | refine fit_i64 (by omega) ?_ | refine fit_u8 (by omega) ?_ | refine fit_u64 (by omega) ?_ | refine fit_u32 (by omega) ?_ | refine fit_any ?_ | refine sh_in (by simp only [IntKind.bits]; omega) ?_) | ((with_reducible refine opsd_nil ?_); refine And.intro (by kernel_rfl) ?_) | ((with_reducible refine callV_lend addS [2,3,4,5,6,7,8,9] add_ok rfl ?_); simp only [go_sem, seval, reduceCtorEq, hki, hsub, hpw, hpw2, hadd, Int.one_mul, addS, decide_true, Bool.and_self, lv66BdM]; refine ⟨(by first | exact alOk_nil _ | exact alOk_f rfl), rfl, _, _, add_at M i (x + 2 ^ i) (by omega) hx2 hMs, ?_⟩) | with_reducible refine callV_snap ?_ | (with_reducible first | refine idx_map (by omega) ?_ | refine W_reg lv66BdM ?_ | refine W_drw lv66BdM (by kernel_rfl) ?_ | refine W_skip ?_ | refine W_exit ?_ | refine end_at0 ?_) | (with_reducible refine And.intro (fun h => ?_) (fun h => ?_)) | (with_reducible refine And.intro (by omega) ?_)); (try simp only [go_sem, seval, reduceCtorEq, hki, hsub, hpw, hpw2, hadd, Int.one_mul, addS, decide_true, Bool.and_self, lv66BdM, addS, Try.ntmps66, Try.results66, AllocS]))
      | fail)
    refine ⟨(put M (x + 2 ^ i, i), i), [0, 1, 2, 10, 11, 12, 13, 14, 15, 16], ⟨by dsimp only; omega, by dsimp only; omega, (hRM.half).2.1, hgo⟩, by dsimp only; omega, ?_⟩
    simp [go_sem, put]
  · have hki : ¬ (k : Int) < (j : Int) := by omega
    obtain rfl : j = k := by omega
    rw [split_stop] at hgo
    rw [← hgo] at hres
    have hr : Res N (frA m x j) M := hres
    have r1 := hr.sh
    have r2 := hr.perm
    have r3 := hr.srt
    clear hres
    generalize bld N (frA m x j) = Z at *
    have hzl : Z.length = (bagTo M 7).length := r2.length_eq
    repeat' (first
      | (with_reducible first | refine W_seq ?_ | refine W_condT rfl ?_ | refine W_condF rfl ?_ | refine W_tf rfl (fun h => ?_) (fun h => ?_) | refine W_block ?_ | refine endQ_ret ?_ | refine endQ_normal ?_)
      | ((with_reducible first | refine hK _ ?_ | refine hK _ _ ?_); clear hK K)
      | (with_reducible refine halt_call 83 ?_)
      | ((first | (with_reducible first | refine ops_cons (fun K hK => ?_) | refine opsd_cons (fun K hK => ?_) | refine ops_nil ?_ | refine fit_i64 (by omega) ?_ | refine fit_u8 (by omega) ?_ | refine fit_u64 (by omega) ?_ | refine fit_u32 (by omega) ?_ | refine fit_any ?_ | refine sh_in (by simp only [IntKind.bits]; omega) ?_) | ((with_reducible refine opsd_nil ?_); refine And.intro (by kernel_rfl) ?_) | with_reducible refine callV_snap ?_ | (with_reducible first | refine idx_map (by omega) ?_ | refine W_reg lv66BdM ?_ | refine W_drw lv66BdM (by kernel_rfl) ?_ | refine W_skip ?_ | refine W_exit ?_ | refine end_at0 ?_) | (with_reducible refine And.intro (fun h => ?_) (fun h => ?_)) | (with_reducible refine And.intro (by omega) ?_)); (try simp only [go_sem, seval, reduceCtorEq, hki, listS, decide_true, Bool.and_self, lv66BdM, Try.ntmps66, Try.results66, AllocS]))
      | fail)
    unfold Halt
    refine callV_lend listS [2, 3, 4, 5, 6, 7, 8, 9] list_ok rfl ?_
    simp only [go_sem, seval, reduceCtorEq]
    refine ⟨(by first | exact alOk_nil _ | exact alOk_f rfl), rfl, _, _, list_at M Z r1 r2 r3, ?_⟩
    simp only [go_sem, seval, reduceCtorEq, listS, shI, List.cons_append, List.nil_append, decide_true, Bool.and_self]
    repeat' (first
      | (with_reducible first | refine W_seq ?_ | refine W_condT rfl ?_ | refine W_condF rfl ?_ | refine W_tf rfl (fun h => ?_) (fun h => ?_) | refine W_block ?_ | refine endQ_ret ?_ | refine endQ_normal ?_)
      | ((with_reducible first | refine hK _ ?_ | refine hK _ _ ?_); clear hK K)
      | ((first | (with_reducible first | refine ops_cons (fun K hK => ?_) | refine opsd_cons (fun K hK => ?_) | refine ops_nil ?_ | refine fit_i64 (by omega) ?_ | refine fit_u8 (by omega) ?_ | refine fit_u64 (by omega) ?_ | refine fit_u32 (by omega) ?_ | refine fit_any ?_ | refine sh_in (by simp only [IntKind.bits]; omega) ?_) | ((with_reducible refine opsd_nil ?_); refine And.intro (by kernel_rfl) ?_) | with_reducible refine callV_snap ?_ | (with_reducible first | refine idx_map (by omega) ?_ | refine W_reg lv66BdM ?_ | refine W_drw lv66BdM (by kernel_rfl) ?_ | refine W_skip ?_ | refine W_exit ?_ | refine end_at0 ?_) | (with_reducible refine And.intro (fun h => ?_) (fun h => ?_)) | (with_reducible refine And.intro (by omega) ?_)); (try simp only [go_sem, seval, reduceCtorEq, decide_true, Bool.and_self, lv66BdM, Try.ntmps66, Try.results66, AllocS]))
      | fail)
    refine W_ret (endQ_ret (end_at [10] ?_))
    simp [go_sem, Try.results66, AllocS]
    simpa [flatD, encN] using encNe.flat Z
end Go.Proofs.Ytacfipmigkbncaa
