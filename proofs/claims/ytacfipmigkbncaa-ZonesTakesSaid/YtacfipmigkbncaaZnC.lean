/- Two zones: copies, with, alloc, Alloc; by the engine. -/
import Derived.Test.YtacfipmigkbncaaZnB
namespace Go.Proofs.Ytacfipmigkbncaa
open Go.RowKit
set_option maxRecDepth 100000
set_option linter.unusedSimpArgs false
set_option linter.unusedVariables false

abbrev lv41ZnC : List (Nat × List Nat) := [(0, [1, 2, 3, 6]), (1, [1, 2, 3, 6, 9]), (2, [1, 3, 6, 9, 20, 21]), (3, [1, 3, 6, 9, 20, 21, 22]), (4, [1, 3, 6, 9, 11, 20, 21]), (5, [1, 3, 6, 9, 11, 12, 13, 14, 20, 21]), (6, [1, 3, 6, 9, 11, 12, 13, 14, 20, 21, 36]), (7, [6, 9, 11, 12, 13, 14, 38]), (8, [6, 7, 8]), (9, [6, 7, 8]), (10, [1, 3, 6, 9, 20, 21]), (11, [6, 7, 8])]
abbrev lv45ZnC : List (Nat × List Nat) := [(0, [1, 2]), (1, [2, 3]), (2, [2, 3, 15, 16]), (3, [2, 3, 15, 16, 17]), (4, [2, 3, 4, 15, 16]), (5, [2, 3, 15, 16]), (6, [2, 3, 15, 16]), (7, [2])]
abbrev lv63ZnC : List (Nat × List Nat) := [(0, [1, 3, 5, 6]), (1, [1, 5, 6, 7]), (2, [6, 7]), (3, [6])]
/-- a number out of an array value -/
theorem ext_index1 {P : Program} {n : Nat} {o : Oper} {σ : St} {K : Eff → Prop} {t e : TypeId} {m : Nat} {y z : Operand} {cs : List AV} {kk : IntKind} {i : Int} (x : AV) (ho : o.op = .index t y z) (hd : dstOk n o.dst) (hok : (TL P t).ok = true) (hae : (TL P t).aelem = some (m, e)) (heok : (TL P e).ok = true) (hag : (TL P e).agg = false) (hsz1 : (TL P e).size = 1)
    (hy : getT σ.T y = some (.agg cs)) (hz : getT σ.T z = some (.d (.int kk i))) (h0 : 0 ≤ i) (h1 : i < m) (hx : cs[i.toNat]? = some x)
    (h : K ⟨x, [], [], []⟩) : extV P n o σ K := by
  refine ⟨_, fun cx hP hcn => ?_, h⟩
  subst hP hcn
  have hu := TL_aelem hok hae
  obtain ⟨ie, de, hi1, hi2, hsz, hagd, _⟩ := TL_ok heok
  have hagg : ∀ w : World, (isAgg e).run cx.P w = .ok false w := by
    intro w
    unfold isAgg
    rw [Sem.run_bind, run_underlying hi2 w]
    rw [hagd] at hag
    cases de <;> simp_all [aggD]
  refine loc_val hd fun H T μ a w hr he _ => ?_
  have h5 := he y _ (by simp [Op.operands, ho]) hy
  have h6 := he z _ (by simp [Op.operands, ho]) hz
  generalize hv : a.eval y = v at h5
  generalize hv2 : a.eval z = v2 at h6
  cases h6 with
  | d h6 =>
  cases h6
  cases h5 with
  | agg r1 r2 r3 =>
    rename_i vs
    have hlt : i.toNat < vs.size := by rw [r1]; exact (List.getElem?_eq_some_iff.1 hx).1
    have hgv : vs[i.toNat]? = some vs[i.toNat] := Array.getElem?_eq_getElem hlt
    refine ⟨vs[i.toNat], ?_, r2 _ x _ hx hgv⟩
    simp only [execOp, ho, hv, hv2]
    refine run_v ?_
    have hs : ie.size = 1 := by omega
    simp [Instr.index, run_underlying hu, asIntOf, asAgg, part, hagg, sizeOf, typeInfo, hi1, hs, h0, h1, hgv]

def ClnBS : Spec := { rel := fun args ins res outs => ∃ m : List Bl, m.length ≤ 1000000 ∧ args = [dN m] ∧ ins = [] ∧ res = .row 0 2 0 m.length ∧ outs = [.rows 87 2 (m.map encN)] }
theorem ClnB_ok : Ok Try.prog 70 ClnBS := by
  refine fn_ok ClnBS Try.func70 rfl rfl ?_
  rintro args ins res outs ⟨m, hm, rfl, rfl, rfl, rfl⟩
  refine ⟨by simp [Try.ntmps70], fun w0 V Bo mu0 => ?_⟩
  repeat' (first
    | (with_reducible first | refine W_seq ?_ | refine W_condT rfl ?_ | refine W_condF rfl ?_ | refine W_tf rfl (fun h => ?_) (fun h => ?_) | refine endQ_ret ?_ | refine endQ_normal ?_)
    | ((with_reducible first | refine hK _ ?_ | refine hK _ _ ?_); clear hK K)
    | ((with_reducible refine And.intro (encNe.rows _) ?_))
    | ((first | (with_reducible first | refine ops_cons (fun K hK => ?_) | refine ops_nil ?_) | with_reducible refine callV_snap ?_ | (with_reducible first | refine slice_old ?_ | refine app_grow ?_ | refine W_reg [(0, [0]), (1, [0, 4]), (2, [2]), (3, [2])] ?_ | refine W_skip ?_ | refine end_at0 ?_) | (with_reducible refine And.intro (fun h => ?_) (fun h => ?_)) | (with_reducible refine And.intro (by omega) ?_)); (try simp only [go_sem, seval, reduceCtorEq, Try.ntmps70, Try.results70, ClnBS]))
    | fail)
  · obtain rfl : m = [] := List.eq_nil_of_length_eq_zero h
    refine W_adopt 2 87 2 (by decide) (by simp [go_sem]) ?_
    refine W_ret (endQ_ret (end_at [0] ?_))
    simp [go_sem, Try.results70, ClnBS]
  · refine W_ret (endQ_ret (end_at [1] ?_))
    have := encNe.flat m
    simp [go_sem, Try.results70, ClnBS]
    simpa [flatD, encN] using this
abbrev ClnBFS : Spec := frzS ClnBS
theorem ClnBF_ok : Ok Try.prog 70 ClnBFS := frzS_ok ClnB_ok
theorem ClnBF_at (m : List Bl) (h : m.length ≤ 1000000) : ClnBFS.rel [dN m] [] (dN m) [] := ⟨rfl, rfl, _, _, ⟨m, h, rfl, rfl, rfl, rfl⟩, by simp [frz, frzA, frz1, List.take_of_length_le]⟩
def ClnZS : Spec := { al := true, rel := fun args ins res outs => ∃ a b : Zn, args = [.d (.sl [[.int .i64 (a.1 : Int), .sl (a.2.map encN)], [.int .i64 (b.1 : Int), .sl (b.2.map encN)]])] ∧ ins = [] ∧ res = .row 0 2 0 2 ∧ outs = [.rows 59 2 [[.int .i64 (a.1 : Int), .sl (a.2.map encN)], [.int .i64 (b.1 : Int), .sl (b.2.map encN)]]] }
theorem ClnZ_at (a b : Zn) : ClnZS.rel [.d (.sl [[.int .i64 (a.1 : Int), .sl (a.2.map encN)], [.int .i64 (b.1 : Int), .sl (b.2.map encN)]])] [] (.row 0 2 0 2) [.rows 59 2 [[.int .i64 (a.1 : Int), .sl (a.2.map encN)], [.int .i64 (b.1 : Int), .sl (b.2.map encN)]]] := ⟨a, b, rfl, rfl, rfl, rfl⟩
theorem ClnZ_ok : Ok Try.prog 69 ClnZS := by
  refine fn_ok ClnZS Try.func69 rfl rfl ?_
  rintro args ins res outs ⟨a, b, rfl, rfl, rfl, rfl⟩
  refine ⟨by simp [Try.ntmps69], fun w0 V Bo mu0 => ?_⟩
  repeat' (first
    | (with_reducible first | refine W_seq ?_ | refine W_condT rfl ?_ | refine W_condF rfl ?_ | refine W_tf rfl (fun h => ?_) (fun h => ?_) | refine endQ_ret ?_ | refine endQ_normal ?_)
    | ((with_reducible first | refine hK _ ?_ | refine hK _ _ ?_); clear hK K)
    | ((with_reducible refine And.intro (by simp) ?_))
    | ((first | (with_reducible first | refine ops_cons (fun K hK => ?_) | refine ops_nil ?_) | with_reducible refine callV_snap ?_ | (with_reducible first | refine slice_old ?_ | refine app_grow ?_ | refine W_reg [(0, [0]), (1, [0, 4]), (2, [2]), (3, [2])] ?_ | refine W_skip ?_ | refine end_at0 ?_) | (with_reducible refine And.intro (fun h => ?_) (fun h => ?_)) | (with_reducible refine And.intro (by omega) ?_)); (try simp only [go_sem, seval, reduceCtorEq, Try.ntmps69, Try.results69, ClnZS]))
    | fail)
  all_goals (first | (exfalso; simp at h; done) | skip)
  refine W_ret (endQ_ret (end_at [1] ?_))
  simp [go_sem, Try.results69, ClnZS]
def copiedS : Spec := { al := true, rel := fun args ins res outs => ∃ (low : Int) (a b : Zn), a.2.length ≤ 1000000 ∧ b.2.length ≤ 1000000 ∧ args = [zzn low a b] ∧ ins = [] ∧ res = .agg [iv low, .row 0 2 0 2] ∧ outs = [.rows 59 2 [[.int .i64 (a.1 : Int), .sl (a.2.map encN)], [.int .i64 (b.1 : Int), .sl (b.2.map encN)]]] }
theorem copied_at (low : Int) (a b : Zn) (ha : a.2.length ≤ 1000000) (hb : b.2.length ≤ 1000000) : copiedS.rel [zzn low a b] [] (.agg [iv low, .row 0 2 0 2]) [.rows 59 2 [[.int .i64 (a.1 : Int), .sl (a.2.map encN)], [.int .i64 (b.1 : Int), .sl (b.2.map encN)]]] := ⟨low, a, b, ha, hb, rfl, rfl, rfl, rfl⟩
set_option maxHeartbeats 2000000 in
theorem copied_ok : Ok Try.prog 45 copiedS := by
  refine fn_ok copiedS Try.func45 rfl rfl ?_
  rintro args ins res outs ⟨low, a, b, ha, hb, rfl, rfl, rfl, rfl⟩
  refine ⟨by simp [Try.ntmps45], fun w0 V Bo mu0 => ?_⟩
  repeat' (first
    | (with_reducible first | refine W_seq ?_ | refine W_condT rfl ?_ | refine W_condF rfl ?_ | refine W_tf rfl (fun h => ?_) (fun h => ?_) | refine W_block ?_ | refine endQ_ret ?_ | refine endQ_normal ?_)
    | ((with_reducible first | refine hK _ ?_ | refine hK _ _ ?_); clear hK K)
    | ((first | (with_reducible first | refine ops_cons (fun K hK => ?_) | refine opsd_cons (fun K hK => ?_) | refine ops_nil ?_ | refine fit_i64 (by omega) ?_ | refine fit_any ?_) | ((with_reducible refine opsd_nil ?_); refine And.intro (by kernel_rfl) ?_) | with_reducible refine callV_snap ?_ | ((with_reducible refine call_go ClnZS ClnZ_ok ?_); refine ⟨(by first | exact alOk_nil _ | exact alOk_f rfl), _, _, ClnZ_at a b, ?_⟩) | (with_reducible first | refine idx_map (by omega) ?_ | refine W_reg lv45ZnC ?_ | refine W_drw lv45ZnC (by kernel_rfl) ?_ | refine W_skip ?_ | refine W_exit ?_ | refine W_ret ?_ | refine end_at0 ?_) | (with_reducible refine And.intro (fun h => ?_) (fun h => ?_)) | (with_reducible refine And.intro (by omega) ?_)); (try simp only [go_sem, seval, reduceCtorEq, lv45ZnC, Try.ntmps45, Try.results45, copiedS]))
    | fail)
  refine W_rounds 3 ?_
  repeat' (first
    | (with_reducible first | refine W_seq ?_ | refine W_condT rfl ?_ | refine W_condF rfl ?_ | refine W_tf rfl (fun h => ?_) (fun h => ?_) | refine W_block ?_ | refine endQ_ret ?_ | refine endQ_normal ?_)
    | ((with_reducible first | refine hK _ ?_ | refine hK _ _ ?_); clear hK K)
    | (with_reducible refine Wn_succ ?_)
    | ((first | (with_reducible first | refine ops_cons (fun K hK => ?_) | refine opsd_cons (fun K hK => ?_) | refine ops_nil ?_ | refine fit_i64 (by omega) ?_ | refine fit_any ?_) | ((with_reducible refine opsd_nil ?_); refine And.intro (by kernel_rfl) ?_) | with_reducible refine callV_snap ?_ | ((with_reducible refine call_go ClnBFS ClnBF_ok ?_); refine ⟨(by first | exact alOk_nil _ | exact alOk_f rfl), _, _, ClnBF_at a.2 ha, ?_⟩) | ((with_reducible refine call_go ClnBFS ClnBF_ok ?_); refine ⟨(by first | exact alOk_nil _ | exact alOk_f rfl), _, _, ClnBF_at b.2 hb, ?_⟩) | (with_reducible first | refine idx_map (by omega) ?_ | refine W_reg lv45ZnC ?_ | refine W_drw lv45ZnC (by kernel_rfl) ?_ | refine W_skip ?_ | refine W_exit ?_ | refine end_at0 ?_) | (with_reducible refine And.intro (fun h => ?_) (fun h => ?_)) | (with_reducible refine And.intro (by omega) ?_)); (try simp only [go_sem, seval, reduceCtorEq, exists_and_left, exists_eq_left', lv45ZnC, Try.ntmps45, Try.results45, copiedS]))
    | fail)
  refine W_ret (endQ_ret (end_at [2] ?_))
  simp [go_sem, Try.results45, copiedS]
abbrev copiedFS : Spec := frzS copiedS
theorem copiedF_ok : Ok Try.prog 45 copiedFS := frzS_ok copied_ok
theorem copiedF_at (low : Int) (a b : Zn) (ha : a.2.length ≤ 1000000) (hb : b.2.length ≤ 1000000) : copiedFS.rel [zzn low a b] [] (zzn low a b) [] := ⟨rfl, rfl, _, _, ⟨low, a, b, ha, hb, rfl, rfl, rfl, rfl⟩, by simp [frz, frzA, frzL, frz1]⟩
def withS : Spec := { al := true, rel := fun args ins res outs => ∃ (low : Int) (a b c : Zn) (k : Int), a.2.length ≤ 1000000 ∧ b.2.length ≤ 1000000 ∧ args = [zzn low a b, iv k, .agg [iv c.1, dN c.2]] ∧ ins = [] ∧ res = .agg [iv low, .row 0 2 0 2] ∧
  (k = 0 ∧ outs = [.rows 59 2 [[.int .i64 (c.1 : Int), .sl (c.2.map encN)], [.int .i64 (b.1 : Int), .sl (b.2.map encN)]]] ∨ k = 1 ∧ outs = [.rows 59 2 [[.int .i64 (a.1 : Int), .sl (a.2.map encN)], [.int .i64 (c.1 : Int), .sl (c.2.map encN)]]]) }
theorem with_ok : Ok Try.prog 63 withS := by
  refine fn_ok withS Try.func63 rfl rfl ?_
  rintro args ins res outs ⟨low, a, b, c, k, ha, hb, rfl, rfl, rfl, h⟩
  refine ⟨by simp [Try.ntmps63], fun w0 V Bo mu0 => ?_⟩
  rcases h with ⟨rfl, rfl⟩ | ⟨rfl, rfl⟩
  · skip
    repeat' (first
      | (with_reducible first | refine W_seq ?_ | refine endQ_ret ?_ | refine endQ_normal ?_)
      | ((with_reducible first | refine hK _ ?_ | refine hK _ _ ?_); clear hK K)
      | ((first | (with_reducible first | refine ops_cons (fun K hK => ?_) | refine ops_nil ?_) | with_reducible refine callV_snap ?_ | ((with_reducible refine call_go copiedS copied_ok ?_); refine ⟨(by first | exact alOk_nil _ | exact alOk_f rfl), _, _, copied_at low a b ha hb, ?_⟩) | (with_reducible first | refine idx_map (by omega) ?_ | refine W_reg lv63ZnC ?_ | refine end_at0 ?_) | (with_reducible refine And.intro (fun h => ?_) (fun h => ?_)) | (with_reducible refine And.intro (by omega) ?_)); (try simp only [go_sem, seval, reduceCtorEq, exists_and_left, exists_eq_left', lv63ZnC, Try.ntmps63, Try.results63, withS]))
      | fail)
    refine W_ret (endQ_ret (end_at [3] ?_))
    simp [go_sem, Try.results63, withS]
  · skip
    repeat' (first
      | (with_reducible first | refine W_seq ?_ | refine endQ_ret ?_ | refine endQ_normal ?_)
      | ((with_reducible first | refine hK _ ?_ | refine hK _ _ ?_); clear hK K)
      | ((first | (with_reducible first | refine ops_cons (fun K hK => ?_) | refine ops_nil ?_) | with_reducible refine callV_snap ?_ | ((with_reducible refine call_go copiedS copied_ok ?_); refine ⟨(by first | exact alOk_nil _ | exact alOk_f rfl), _, _, copied_at low a b ha hb, ?_⟩) | (with_reducible first | refine idx_map (by omega) ?_ | refine W_reg lv63ZnC ?_ | refine end_at0 ?_) | (with_reducible refine And.intro (fun h => ?_) (fun h => ?_)) | (with_reducible refine And.intro (by omega) ?_)); (try simp only [go_sem, seval, reduceCtorEq, exists_and_left, exists_eq_left', lv63ZnC, Try.ntmps63, Try.results63, withS]))
      | fail)
    refine W_ret (endQ_ret (end_at [3] ?_))
    simp [go_sem, Try.results63, withS]
abbrev withAFS : Spec := frzS withS
abbrev withBFS : Spec := frzS withS
theorem withAF_ok : Ok Try.prog 63 withAFS := frzS_ok with_ok
theorem withBF_ok : Ok Try.prog 63 withBFS := frzS_ok with_ok
theorem withAF_at (low : Int) (a b c : Zn) (ha : a.2.length ≤ 1000000) (hb : b.2.length ≤ 1000000) : withAFS.rel [zzn low a b, iv 0, .agg [iv c.1, dN c.2]] [] (zzn low c b) [] := ⟨rfl, rfl, _, _, ⟨low, a, b, c, 0, ha, hb, rfl, rfl, rfl, .inl ⟨rfl, rfl⟩⟩, by simp [frz, frzA, frzL, frz1]⟩
theorem withBF_at (low : Int) (a b c : Zn) (ha : a.2.length ≤ 1000000) (hb : b.2.length ≤ 1000000) : withBFS.rel [zzn low a b, iv 1, .agg [iv c.1, dN c.2]] [] (zzn low a c) [] := ⟨rfl, rfl, _, _, ⟨low, a, b, c, 1, ha, hb, rfl, rfl, rfl, .inr ⟨rfl, rfl⟩⟩, by simp [frz, frzA, frzL, frz1]⟩

/-- which block is given out -/
def al1 (a b : Zn) (q : Nat) : Option (Zn × Zn × Nat) := (bestOf a.2 q).map fun c => ((a.1, bld a.1 (frA a.2 c.1 q)), b, c.1)
def al2 (a b : Zn) (q : Nat) : Option (Zn × Zn × Nat) := (bestOf b.2 q).map fun c => (a, (b.1, bld b.1 (frA b.2 c.1 q)), a.1 + c.1)
def alcZ (a b : Zn) (q : Nat) (p : Int) : Option (Zn × Zn × Nat) := if p = 0 then (al1 a b q).or (al2 a b q) else (al2 a b q).or (al1 a b q)
/-- what Alloc answers at valid zones -/
def alcR (low : Int) : Option (Zn × Zn × Nat) → AV
  | none => .tup [.agg [iv 0, .nil], iv 0, iv 5]
  | some r => .tup [zzn low r.1 r.2.1, iv r.2.2, iv 0]
def agvR (z : Zn) (q : Nat) : Option Bl → AV
  | none => .tup [.agg [iv 0, dN []], iv 0, iv 5]
  | some c => .tup [.agg [iv z.1, dN (bld z.1 (frA z.2 c.1 q))], iv c.1, iv 0]
theorem allZ_at {z : Zn} {q : Nat} (hv : Vz z.1 z.2) (hq : q ≤ 6) : AllocFS.rel [.agg [iv z.1, dN z.2], iv q] [] (agvR z q (bestOf z.2 q)) [] := by
  cases h : bestOf z.2 q with
  | none => exact ⟨rfl, rfl, _, _, .inr (.inl ⟨z.1, z.2, q, hv, hq, bestOf_none h, rfl, rfl, rfl, rfl⟩), frz_e [] _ [.int .i64 0, .int .i64 5] rfl⟩
  | some c => exact alloc_at' hv hq (bestOf_some h) rfl
abbrev AllocBFS : Spec := AllocFS
theorem AllocBF_ok : Ok Try.prog 66 AllocBFS := AllocF_ok
def alocS : Spec := { al := true, rel := fun args ins res outs => ∃ (a b : Zn) (q : Nat) (p : Int), Vzz a b ∧ q ≤ 6 ∧ (p = 0 ∨ p = 1) ∧ args = [zzn a.1 a b, iv q, iv p] ∧ ins = [] ∧ res = alcR a.1 (alcZ a b q p) ∧ outs = [] }
theorem aloc_at {a b : Zn} {q : Nat} {p : Int} (hv : Vzz a b) (hq : q ≤ 6) (hp : p = 0 ∨ p = 1) {r : AV} (h : alcR a.1 (alcZ a b q p) = r) : alocS.rel [zzn a.1 a b, iv q, iv p] [] r [] := ⟨a, b, q, p, hv, hq, hp, rfl, rfl, h.symm, rfl⟩
set_option maxHeartbeats 4000000 in
theorem aloc_ok : Ok Try.prog 41 alocS := by
  refine fn_ok alocS Try.func41 rfl rfl ?_
  rintro args ins res outs ⟨a, b, q, p, hv, hq, hp, rfl, rfl, rfl, rfl⟩
  refine ⟨by simp [Try.ntmps41], fun w0 V Bo mu0 => ?_⟩
  have ha : a.2.length ≤ 1000000 := by have := hv.fa.v.len; omega
  have hb : b.2.length ≤ 1000000 := by have := hv.fb.v.len; omega
  have hpos := hv.pos
  have hle := hv.le
  have A0 := allZ_at hv.fa hq
  have B0 := allZ_at hv.fb hq
  have m0 : (0 : Int) * (a.1 : Int) = 0 := Int.zero_mul _
  have m1 : (1 : Int) * (a.1 : Int) = a.1 := Int.one_mul _
  cases h1 : bestOf a.2 q with
  | none =>
    rw [h1] at A0
    have AllocF_at : AllocFS.rel [.agg [iv a.1, dN a.2], iv q] [] (.tup [.agg [iv 0, dN []], iv 0, iv 5]) [] := A0
    cases h2 : bestOf b.2 q with
    | none =>
      rw [h2] at B0
      have AllocBF_at : AllocFS.rel [.agg [iv b.1, dN b.2], iv q] [] (.tup [.agg [iv 0, dN []], iv 0, iv 5]) [] := B0
      rcases hp with rfl | rfl
      · rw [show alcR a.1 (alcZ a b q 0) = .tup [.agg [iv 0, .nil], iv 0, iv 5] by simp [alcR, alcZ, al1, al2, h1, h2]]
        repeat' (first
          | (with_reducible first | refine W_seq ?_ | refine W_condT rfl ?_ | refine W_condF rfl ?_ | refine W_tf rfl (fun h => ?_) (fun h => ?_) | refine W_block ?_ | refine W_scope ?_ | refine endQ_ret ?_ | refine endQ_normal ?_)
          | ((with_reducible first | refine hK _ ?_ | refine hK _ _ ?_); clear hK K)
          | (with_reducible refine W_rounds 3 ?_)
          | (with_reducible refine Wn_succ ?_)
          | ((refine ext_index1 (m := 2) (e := 3) _ rfl ?_ ?_ ?_ ?_ ?_ ?_ rfl rfl ?_ ?_ rfl ?_) <;> simp only [go_sem, seval, reduceCtorEq])
          | ((first | (with_reducible first | refine ops_cons (fun K hK => ?_) | refine opsd_cons (fun K hK => ?_) | refine ops_nil ?_ | refine fit_i64 (by omega) ?_ | refine fit_any ?_) | ((with_reducible refine opsd_nil ?_); refine And.intro (by kernel_rfl) ?_) | with_reducible refine callV_snap ?_ | ((with_reducible refine call_go AllocFS AllocF_ok ?_); refine ⟨(by first | exact alOk_nil _ | exact alOk_f rfl), _, _, AllocF_at , ?_⟩) | ((with_reducible refine call_go AllocBFS AllocBF_ok ?_); refine ⟨(by first | exact alOk_nil _ | exact alOk_f rfl), _, _, AllocBF_at , ?_⟩) | (with_reducible first | refine idx_map (by omega) ?_ | refine W_reg lv41ZnC ?_ | refine W_drw lv41ZnC (by kernel_rfl) ?_ | refine W_label ?_ | refine W_skip ?_ | refine W_exit ?_ | refine W_ret ?_ | refine end_at0 ?_) | (with_reducible refine And.intro (fun h => ?_) (fun h => ?_)) | (with_reducible refine And.intro (by omega) ?_)); (try simp only [go_sem, seval, reduceCtorEq, lv41ZnC, Try.ntmps41, Try.results41, alocS]))
          | fail)
      · rw [show alcR a.1 (alcZ a b q 1) = .tup [.agg [iv 0, .nil], iv 0, iv 5] by simp [alcR, alcZ, al1, al2, h1, h2]]
        repeat' (first
          | (with_reducible first | refine W_seq ?_ | refine W_condT rfl ?_ | refine W_condF rfl ?_ | refine W_tf rfl (fun h => ?_) (fun h => ?_) | refine W_block ?_ | refine W_scope ?_ | refine endQ_ret ?_ | refine endQ_normal ?_)
          | ((with_reducible first | refine hK _ ?_ | refine hK _ _ ?_); clear hK K)
          | (with_reducible refine W_rounds 3 ?_)
          | (with_reducible refine Wn_succ ?_)
          | ((refine ext_index1 (m := 2) (e := 3) _ rfl ?_ ?_ ?_ ?_ ?_ ?_ rfl rfl ?_ ?_ rfl ?_) <;> simp only [go_sem, seval, reduceCtorEq])
          | ((first | (with_reducible first | refine ops_cons (fun K hK => ?_) | refine opsd_cons (fun K hK => ?_) | refine ops_nil ?_ | refine fit_i64 (by omega) ?_ | refine fit_any ?_) | ((with_reducible refine opsd_nil ?_); refine And.intro (by kernel_rfl) ?_) | with_reducible refine callV_snap ?_ | ((with_reducible refine call_go AllocFS AllocF_ok ?_); refine ⟨(by first | exact alOk_nil _ | exact alOk_f rfl), _, _, AllocF_at , ?_⟩) | ((with_reducible refine call_go AllocBFS AllocBF_ok ?_); refine ⟨(by first | exact alOk_nil _ | exact alOk_f rfl), _, _, AllocBF_at , ?_⟩) | (with_reducible first | refine idx_map (by omega) ?_ | refine W_reg lv41ZnC ?_ | refine W_drw lv41ZnC (by kernel_rfl) ?_ | refine W_label ?_ | refine W_skip ?_ | refine W_exit ?_ | refine W_ret ?_ | refine end_at0 ?_) | (with_reducible refine And.intro (fun h => ?_) (fun h => ?_)) | (with_reducible refine And.intro (by omega) ?_)); (try simp only [go_sem, seval, reduceCtorEq, lv41ZnC, Try.ntmps41, Try.results41, alocS]))
          | fail)
    | some d =>
      rw [h2] at B0
      have AllocBF_at : AllocFS.rel [.agg [iv b.1, dN b.2], iv q] [] (.tup [.agg [iv b.1, dN (bld b.1 (frA b.2 d.1 q))], iv d.1, iv 0]) [] := B0
      have hd2 : a.1 + d.1 ≤ 256 := by
        have hd := (hv.fb.v.ok d (bestOf_some h2).mem).2.1
        have := two_pos d.2
        omega
      have hs : (a.1 : Int) + (d.1 : Int) = ((a.1 + d.1 : Nat) : Int) := by omega
      rcases hp with rfl | rfl
      · rw [show alcR a.1 (alcZ a b q 0) = .tup [zzn a.1 a (b.1, bld b.1 (frA b.2 d.1 q)), iv ((a.1 + d.1 : Nat) : Int), iv 0] by simp [alcR, alcZ, al1, al2, h1, h2]]
        repeat' (first
          | (with_reducible first | refine W_seq ?_ | refine W_condT rfl ?_ | refine W_condF rfl ?_ | refine W_tf rfl (fun h => ?_) (fun h => ?_) | refine W_block ?_ | refine W_scope ?_ | refine endQ_ret ?_ | refine endQ_normal ?_)
          | ((with_reducible first | refine hK _ ?_ | refine hK _ _ ?_); clear hK K)
          | (with_reducible refine W_rounds 3 ?_)
          | (with_reducible refine Wn_succ ?_)
          | ((refine ext_index1 (m := 2) (e := 3) _ rfl ?_ ?_ ?_ ?_ ?_ ?_ rfl rfl ?_ ?_ rfl ?_) <;> simp only [go_sem, seval, reduceCtorEq])
          | ((first | (with_reducible first | refine ops_cons (fun K hK => ?_) | refine opsd_cons (fun K hK => ?_) | refine ops_nil ?_ | refine fit_i64 (by omega) ?_ | refine fit_any ?_) | ((with_reducible refine opsd_nil ?_); refine And.intro (by kernel_rfl) ?_) | with_reducible refine callV_snap ?_ | ((with_reducible refine call_go AllocFS AllocF_ok ?_); refine ⟨(by first | exact alOk_nil _ | exact alOk_f rfl), _, _, AllocF_at , ?_⟩) | ((with_reducible refine call_go AllocBFS AllocBF_ok ?_); refine ⟨(by first | exact alOk_nil _ | exact alOk_f rfl), _, _, AllocBF_at , ?_⟩) | ((with_reducible refine call_go basevS basev_ok ?_); refine ⟨(by first | exact alOk_nil _ | exact alOk_f rfl), _, _, basev_at hv 1 (.inr rfl), ?_⟩) | ((with_reducible refine call_go withBFS withBF_ok ?_); refine ⟨(by first | exact alOk_nil _ | exact alOk_f rfl), _, _, withBF_at a.1 a b (b.1, bld b.1 (frA b.2 d.1 q)) ha hb, ?_⟩) | (with_reducible first | refine idx_map (by omega) ?_ | refine W_reg lv41ZnC ?_ | refine W_drw lv41ZnC (by kernel_rfl) ?_ | refine W_label ?_ | refine W_skip ?_ | refine W_exit ?_ | refine W_ret ?_ | refine end_at0 ?_) | (with_reducible refine And.intro (fun h => ?_) (fun h => ?_)) | (with_reducible refine And.intro (by omega) ?_)); (try simp only [go_sem, seval, reduceCtorEq, m1, hs, lv41ZnC, Try.ntmps41, Try.results41, alocS]))
          | fail)
      · rw [show alcR a.1 (alcZ a b q 1) = .tup [zzn a.1 a (b.1, bld b.1 (frA b.2 d.1 q)), iv ((a.1 + d.1 : Nat) : Int), iv 0] by simp [alcR, alcZ, al1, al2, h1, h2]]
        repeat' (first
          | (with_reducible first | refine W_seq ?_ | refine W_condT rfl ?_ | refine W_condF rfl ?_ | refine W_tf rfl (fun h => ?_) (fun h => ?_) | refine W_block ?_ | refine W_scope ?_ | refine endQ_ret ?_ | refine endQ_normal ?_)
          | ((with_reducible first | refine hK _ ?_ | refine hK _ _ ?_); clear hK K)
          | (with_reducible refine W_rounds 3 ?_)
          | (with_reducible refine Wn_succ ?_)
          | ((refine ext_index1 (m := 2) (e := 3) _ rfl ?_ ?_ ?_ ?_ ?_ ?_ rfl rfl ?_ ?_ rfl ?_) <;> simp only [go_sem, seval, reduceCtorEq])
          | ((first | (with_reducible first | refine ops_cons (fun K hK => ?_) | refine opsd_cons (fun K hK => ?_) | refine ops_nil ?_ | refine fit_i64 (by omega) ?_ | refine fit_any ?_) | ((with_reducible refine opsd_nil ?_); refine And.intro (by kernel_rfl) ?_) | with_reducible refine callV_snap ?_ | ((with_reducible refine call_go AllocFS AllocF_ok ?_); refine ⟨(by first | exact alOk_nil _ | exact alOk_f rfl), _, _, AllocF_at , ?_⟩) | ((with_reducible refine call_go AllocBFS AllocBF_ok ?_); refine ⟨(by first | exact alOk_nil _ | exact alOk_f rfl), _, _, AllocBF_at , ?_⟩) | ((with_reducible refine call_go basevS basev_ok ?_); refine ⟨(by first | exact alOk_nil _ | exact alOk_f rfl), _, _, basev_at hv 1 (.inr rfl), ?_⟩) | ((with_reducible refine call_go withBFS withBF_ok ?_); refine ⟨(by first | exact alOk_nil _ | exact alOk_f rfl), _, _, withBF_at a.1 a b (b.1, bld b.1 (frA b.2 d.1 q)) ha hb, ?_⟩) | (with_reducible first | refine idx_map (by omega) ?_ | refine W_reg lv41ZnC ?_ | refine W_drw lv41ZnC (by kernel_rfl) ?_ | refine W_label ?_ | refine W_skip ?_ | refine W_exit ?_ | refine W_ret ?_ | refine end_at0 ?_) | (with_reducible refine And.intro (fun h => ?_) (fun h => ?_)) | (with_reducible refine And.intro (by omega) ?_)); (try simp only [go_sem, seval, reduceCtorEq, m1, hs, lv41ZnC, Try.ntmps41, Try.results41, alocS]))
          | fail)
  | some c =>
    rw [h1] at A0
    have AllocF_at : AllocFS.rel [.agg [iv a.1, dN a.2], iv q] [] (.tup [.agg [iv a.1, dN (bld a.1 (frA a.2 c.1 q))], iv c.1, iv 0]) [] := A0
    have hc2 : c.1 ≤ 256 := by
      have hc := (hv.fa.v.ok c (bestOf_some h1).mem).2.1
      have := two_pos c.2
      omega
    rcases hp with rfl | rfl
    · rw [show alcR a.1 (alcZ a b q 0) = .tup [zzn a.1 (a.1, bld a.1 (frA a.2 c.1 q)) b, iv (c.1 : Int), iv 0] by simp [alcR, alcZ, al1, al2, h1]]
      repeat' (first
        | (with_reducible first | refine W_seq ?_ | refine W_condT rfl ?_ | refine W_condF rfl ?_ | refine W_tf rfl (fun h => ?_) (fun h => ?_) | refine W_block ?_ | refine W_scope ?_ | refine endQ_ret ?_ | refine endQ_normal ?_)
        | ((with_reducible first | refine hK _ ?_ | refine hK _ _ ?_); clear hK K)
        | (with_reducible refine W_rounds 3 ?_)
        | (with_reducible refine Wn_succ ?_)
        | ((refine ext_index1 (m := 2) (e := 3) _ rfl ?_ ?_ ?_ ?_ ?_ ?_ rfl rfl ?_ ?_ rfl ?_) <;> simp only [go_sem, seval, reduceCtorEq])
        | ((first | (with_reducible first | refine ops_cons (fun K hK => ?_) | refine opsd_cons (fun K hK => ?_) | refine ops_nil ?_ | refine fit_i64 (by omega) ?_ | refine fit_any ?_) | ((with_reducible refine opsd_nil ?_); refine And.intro (by kernel_rfl) ?_) | with_reducible refine callV_snap ?_ | ((with_reducible refine call_go AllocFS AllocF_ok ?_); refine ⟨(by first | exact alOk_nil _ | exact alOk_f rfl), _, _, AllocF_at , ?_⟩) | ((with_reducible refine call_go basevS basev_ok ?_); refine ⟨(by first | exact alOk_nil _ | exact alOk_f rfl), _, _, basev_at hv 0 (.inl rfl), ?_⟩) | ((with_reducible refine call_go withAFS withAF_ok ?_); refine ⟨(by first | exact alOk_nil _ | exact alOk_f rfl), _, _, withAF_at a.1 a b (a.1, bld a.1 (frA a.2 c.1 q)) ha hb, ?_⟩) | (with_reducible first | refine idx_map (by omega) ?_ | refine W_reg lv41ZnC ?_ | refine W_drw lv41ZnC (by kernel_rfl) ?_ | refine W_label ?_ | refine W_skip ?_ | refine W_exit ?_ | refine W_ret ?_ | refine end_at0 ?_) | (with_reducible refine And.intro (fun h => ?_) (fun h => ?_)) | (with_reducible refine And.intro (by omega) ?_)); (try simp only [go_sem, seval, reduceCtorEq, m0, Int.zero_add, lv41ZnC, Try.ntmps41, Try.results41, alocS]))
        | fail)
    · cases h2 : bestOf b.2 q with
      | none =>
        rw [h2] at B0
        have AllocBF_at : AllocFS.rel [.agg [iv b.1, dN b.2], iv q] [] (.tup [.agg [iv 0, dN []], iv 0, iv 5]) [] := B0
        rw [show alcR a.1 (alcZ a b q 1) = .tup [zzn a.1 (a.1, bld a.1 (frA a.2 c.1 q)) b, iv (c.1 : Int), iv 0] by simp [alcR, alcZ, al1, al2, h1, h2]]
        repeat' (first
          | (with_reducible first | refine W_seq ?_ | refine W_condT rfl ?_ | refine W_condF rfl ?_ | refine W_tf rfl (fun h => ?_) (fun h => ?_) | refine W_block ?_ | refine W_scope ?_ | refine endQ_ret ?_ | refine endQ_normal ?_)
          | ((with_reducible first | refine hK _ ?_ | refine hK _ _ ?_); clear hK K)
          | (with_reducible refine W_rounds 3 ?_)
          | (with_reducible refine Wn_succ ?_)
          | ((refine ext_index1 (m := 2) (e := 3) _ rfl ?_ ?_ ?_ ?_ ?_ ?_ rfl rfl ?_ ?_ rfl ?_) <;> simp only [go_sem, seval, reduceCtorEq])
          | ((first | (with_reducible first | refine ops_cons (fun K hK => ?_) | refine opsd_cons (fun K hK => ?_) | refine ops_nil ?_ | refine fit_i64 (by omega) ?_ | refine fit_any ?_) | ((with_reducible refine opsd_nil ?_); refine And.intro (by kernel_rfl) ?_) | with_reducible refine callV_snap ?_ | ((with_reducible refine call_go AllocFS AllocF_ok ?_); refine ⟨(by first | exact alOk_nil _ | exact alOk_f rfl), _, _, AllocF_at , ?_⟩) | ((with_reducible refine call_go AllocBFS AllocBF_ok ?_); refine ⟨(by first | exact alOk_nil _ | exact alOk_f rfl), _, _, AllocBF_at , ?_⟩) | ((with_reducible refine call_go basevS basev_ok ?_); refine ⟨(by first | exact alOk_nil _ | exact alOk_f rfl), _, _, basev_at hv 0 (.inl rfl), ?_⟩) | ((with_reducible refine call_go withAFS withAF_ok ?_); refine ⟨(by first | exact alOk_nil _ | exact alOk_f rfl), _, _, withAF_at a.1 a b (a.1, bld a.1 (frA a.2 c.1 q)) ha hb, ?_⟩) | (with_reducible first | refine idx_map (by omega) ?_ | refine W_reg lv41ZnC ?_ | refine W_drw lv41ZnC (by kernel_rfl) ?_ | refine W_label ?_ | refine W_skip ?_ | refine W_exit ?_ | refine W_ret ?_ | refine end_at0 ?_) | (with_reducible refine And.intro (fun h => ?_) (fun h => ?_)) | (with_reducible refine And.intro (by omega) ?_)); (try simp only [go_sem, seval, reduceCtorEq, m0, Int.zero_add, lv41ZnC, Try.ntmps41, Try.results41, alocS]))
          | fail)
      | some d =>
        rw [h2] at B0
        have AllocBF_at : AllocFS.rel [.agg [iv b.1, dN b.2], iv q] [] (.tup [.agg [iv b.1, dN (bld b.1 (frA b.2 d.1 q))], iv d.1, iv 0]) [] := B0
        have hd2 : a.1 + d.1 ≤ 256 := by
          have hd := (hv.fb.v.ok d (bestOf_some h2).mem).2.1
          have := two_pos d.2
          omega
        have hs : (a.1 : Int) + (d.1 : Int) = ((a.1 + d.1 : Nat) : Int) := by omega
        rw [show alcR a.1 (alcZ a b q 1) = .tup [zzn a.1 a (b.1, bld b.1 (frA b.2 d.1 q)), iv ((a.1 + d.1 : Nat) : Int), iv 0] by simp [alcR, alcZ, al1, al2, h1, h2]]
        repeat' (first
          | (with_reducible first | refine W_seq ?_ | refine W_condT rfl ?_ | refine W_condF rfl ?_ | refine W_tf rfl (fun h => ?_) (fun h => ?_) | refine W_block ?_ | refine W_scope ?_ | refine endQ_ret ?_ | refine endQ_normal ?_)
          | ((with_reducible first | refine hK _ ?_ | refine hK _ _ ?_); clear hK K)
          | (with_reducible refine W_rounds 3 ?_)
          | (with_reducible refine Wn_succ ?_)
          | ((refine ext_index1 (m := 2) (e := 3) _ rfl ?_ ?_ ?_ ?_ ?_ ?_ rfl rfl ?_ ?_ rfl ?_) <;> simp only [go_sem, seval, reduceCtorEq])
          | ((first | (with_reducible first | refine ops_cons (fun K hK => ?_) | refine opsd_cons (fun K hK => ?_) | refine ops_nil ?_ | refine fit_i64 (by omega) ?_ | refine fit_any ?_) | ((with_reducible refine opsd_nil ?_); refine And.intro (by kernel_rfl) ?_) | with_reducible refine callV_snap ?_ | ((with_reducible refine call_go AllocBFS AllocBF_ok ?_); refine ⟨(by first | exact alOk_nil _ | exact alOk_f rfl), _, _, AllocBF_at , ?_⟩) | ((with_reducible refine call_go basevS basev_ok ?_); refine ⟨(by first | exact alOk_nil _ | exact alOk_f rfl), _, _, basev_at hv 1 (.inr rfl), ?_⟩) | ((with_reducible refine call_go withBFS withBF_ok ?_); refine ⟨(by first | exact alOk_nil _ | exact alOk_f rfl), _, _, withBF_at a.1 a b (b.1, bld b.1 (frA b.2 d.1 q)) ha hb, ?_⟩) | (with_reducible first | refine idx_map (by omega) ?_ | refine W_reg lv41ZnC ?_ | refine W_drw lv41ZnC (by kernel_rfl) ?_ | refine W_label ?_ | refine W_skip ?_ | refine W_exit ?_ | refine W_ret ?_ | refine end_at0 ?_) | (with_reducible refine And.intro (fun h => ?_) (fun h => ?_)) | (with_reducible refine And.intro (by omega) ?_)); (try simp only [go_sem, seval, reduceCtorEq, m1, hs, lv41ZnC, Try.ntmps41, Try.results41, alocS]))
          | fail)
end Go.Proofs.Ytacfipmigkbncaa
