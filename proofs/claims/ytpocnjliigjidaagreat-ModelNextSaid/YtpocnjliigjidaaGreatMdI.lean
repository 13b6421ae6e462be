import Derived.Test.YtpocnjliigjidaaGreatMdH
/- The story after an outcome, and after a trace: Next, tell. -/
namespace Go.Proofs.YtpocnjliigjidaaGreat
open Go.RowKit
set_option maxRecDepth 100000
set_option linter.unusedSimpArgs false
set_option linter.unusedVariables false
abbrev lv12MdI : List (Nat × List Nat) := [(0, [0, 2]), (1, [0, 2, 4, 5, 6]), (2, [2, 4, 6, 20]), (3, [2, 4, 6]), (4, [2, 4, 6, 22]), (5, [2, 3]), (6, [2, 3])]
abbrev lv22MdI : List (Nat × List Nat) := [(0, [2, 3, 4]), (1, [2, 3, 4, 6]), (2, [2, 3, 4, 6, 13]), (3, [4, 5]), (4, [2, 3, 4, 7]), (5, [2, 3, 4, 7, 23]), (6, [4, 5]), (7, [3, 4, 9]), (8, [4, 9, 37]), (9, [4, 5]), (10, [4, 5])]
abbrev lv32MdI : List (Nat × List Nat) := [(0, [0, 2]), (1, [0, 2, 5]), (2, [0, 2, 5, 17]), (3, [2, 3, 4]), (4, [0, 2, 7]), (5, [0, 2, 7, 8]), (6, [0, 2, 7, 8, 24, 25, 26]), (7, [0, 2, 7, 8, 24, 25, 26, 27]), (8, [0, 2, 7, 8, 9, 10, 24, 25, 26]), (9, [0, 2, 7, 8, 9, 24, 25, 26, 38]), (10, [2, 3, 4]), (11, [0, 2, 7, 8, 24, 25, 26]), (12, [2, 3, 4])]
def syZ : Sy := ⟨nilF, [], 0⟩
def nxtF (s : Sy) (x : Oc) : Sy × Int := if sye s ≠ 0 then (syZ, sye s) else if ocE x ≠ 0 then (syZ, ocE x) else match nx s x with
  | none => (syZ, 9)
  | some t => (t, 0)
abbrev zrS : AV := .agg [.nil, .nil, .nil, .nil, wv 0]
def nxtR (s : Sy) (x : Oc) : AV × List Ob := if (nxtF s x).2 = 0 then (.tup [syR 0 (nxtF s x).1, iv 0], [.rows 24 1 ((nxtF s x).1.W.map encU)]) else (.tup [zrS, iv (nxtF s x).2], [])
theorem zr_rule : ∃ z : Value, ∀ w, (zeroValue 78).run Tryz.prog w = .ok z w := ⟨_, fun _ => rfl⟩
theorem rep_ru {n : Nat} (h1 : 1 ≤ n) (h2 : n ≤ 11) (z : Value) (w : World) (S : Nat → Prop) (μ : Mu) : Rep w S μ (.fn (rfn n) []) ((iget ruE (n : Int)).getD z) := by
  rw [iget_ru h1 h2]
  exact .fn rfl (fun j x v hx _ => by simp at hx)
theorem trE_one {x : Oc} : trE [x] = (ocE x, 0) := by
  unfold trE
  rw [if_neg (by simp)]
  unfold trF
  by_cases h : ocE x = 0
  · rw [if_pos h, h]; rfl
  · rw [if_neg h]
theorem nxt_no {s : Sy} {x : Oc} (h1 : sye s = 0) (h2 : ocE x = 0) (h3 : nx s x = none) : nxtF s x = (syZ, 9) := by
  unfold nxtF; rw [if_neg (fun h => h h1), if_neg (fun h => h h2), h3]
theorem nxt_so {s t : Sy} {x : Oc} (h1 : sye s = 0) (h2 : ocE x = 0) (h3 : nx s x = some t) : nxtF s x = (t, 0) := by
  unfold nxtF; rw [if_neg (fun h => h h1), if_neg (fun h => h h2), h3]
theorem nxt_oc {s : Sy} {x : Oc} (h1 : sye s = 0) (h2 : ocE x ≠ 0) : nxtF s x = (syZ, ocE x) := by
  unfold nxtF; rw [if_neg (fun h => h h1), if_pos h2]
theorem nxt_ck {s : Sy} {x : Oc} (h1 : sye s ≠ 0) : nxtF s x = (syZ, sye s) := by
  unfold nxtF; rw [if_pos h1]
def NxtS : Spec := { al := true, rel := fun args ins res outs => ∃ (s : Sy) (x : Oc), U64 s.m.2.1 ∧ s.m.1.length ≤ 1000000 ∧ s.m.2.1.length ≤ 1000000 ∧ s.m.2.2.length ≤ 1000000 ∧ s.W.length ≤ 1000000 ∧ args = [syA s, ocA x] ∧ ins = [] ∧ res = (nxtR s x).1 ∧ outs = (nxtR s x).2 }
set_option maxHeartbeats 4000000 in
theorem Nxt_ok : Ok Tryz.prog 22 NxtS := by
  refine fn_ok NxtS Tryz.func22 rfl rfl ?_
  rintro args ins res outs ⟨s, x, hu, h2, h3, h4, h5, rfl, rfl, rfl, rfl⟩
  refine ⟨by simp [Tryz.ntmps22], fun w0 V Bo mu0 => ?_⟩
  have C0 := Cky_at s hu h2 h3 h4 h5 rfl
  by_cases hs : sye s = 0
  case neg =>
    have hr : nxtR s x = (.tup [zrS, iv (sye s)], []) := by unfold nxtR; rw [nxt_ck hs]; exact if_neg hs
    rw [hr]
    generalize sye s = E at *
    have Cky_at : CkyS.rel [syA s] [] (iv E) [] := C0
    repeat' (first | refine sA ?_ | with_reducible refine W_tf rfl (fun h => ?_) (fun h => ?_) | ((with_reducible first | refine hK _ ?_ | refine hK _ _ ?_); clear hK K) | ((first | refine sB ?_ | (with_reducible first | refine ops_cons (fun K hK => ?_) | refine opsd_cons (fun K hK => ?_) | refine W_reg lv22MdI ?_ | refine W_drw lv22MdI (by kernel_rfl) ?_) | ((with_reducible refine opsd_nil ?_); refine And.intro (by kernel_rfl) ?_) | with_reducible refine callV_snap ?_ | ((with_reducible refine call_go CkyS Cky_ok ?_); refine ⟨alk, _, _, Cky_at , ?_⟩) | with_reducible refine And.intro (fun h => ?_) (fun h => ?_) | with_reducible refine And.intro (by omega) ?_); (try simp only [go_sem, seval, reduceCtorEq, hs, lv22MdI, Tryz.ntmps22, Tryz.results22, NxtS])) | fail)
  rw [hs] at C0
  have Cky_at : CkyS.rel [syA s] [] (iv 0) [] := C0
  have T0 := Trk_at [x] (by simp) trE_one
  by_cases hx : ocE x = 0
  case neg =>
    have hr : nxtR s x = (.tup [zrS, iv (ocE x)], []) := by unfold nxtR; rw [nxt_oc hs hx]; exact if_neg hx
    rw [hr]
    generalize ocE x = E at *
    have Trk_at : TrkS.rel [ocL [x]] [] (.tup [iv E, iv ((0 : Nat) : Int)]) [] := T0
    repeat' (first | refine sA ?_ | with_reducible refine W_tf rfl (fun h => ?_) (fun h => ?_) | ((with_reducible first | refine hK _ ?_ | refine hK _ _ ?_); clear hK K) | ((first | refine sB ?_ | (with_reducible first | refine ops_cons (fun K hK => ?_) | refine opsd_cons (fun K hK => ?_) | refine W_reg lv22MdI ?_ | refine W_drw lv22MdI (by kernel_rfl) ?_) | ((with_reducible refine opsd_nil ?_); refine And.intro (by kernel_rfl) ?_) | with_reducible refine callV_snap ?_ | ((with_reducible refine call_go CkyS Cky_ok ?_); refine ⟨alk, _, _, Cky_at , ?_⟩) | ((with_reducible refine call_go TrkS Trk_ok ?_); refine ⟨alk, _, _, Trk_at , ?_⟩) | with_reducible refine And.intro (fun h => ?_) (fun h => ?_) | with_reducible refine And.intro (by omega) ?_); (try simp only [go_sem, seval, reduceCtorEq, hx, lv22MdI, Tryz.ntmps22, Tryz.results22, NxtS])) | fail)
  rw [hx] at T0
  have Trk_at : TrkS.rel [ocL [x]] [] (.tup [iv 0, iv ((0 : Nat) : Int)]) [] := T0
  have hv := sye_vs hu hs
  obtain ⟨k1, k2, _⟩ := oc_kind hx
  obtain ⟨n, hn⟩ : ∃ n : Nat, x.k = (n : Int) := ⟨x.k.toNat, by omega⟩
  have rux_ok := rux_all (n := n) (by omega) (by omega)
  obtain ⟨z, hz⟩ := zr_rule
  have hy := rep_ru (n := n) (by omega) (by omega) z
  rw [← hn] at hy
  have Cpy_at := Cpy_at s h2 h3 h4 h5
  have R0 : ruxS.rel [.ptr 0 0, ocA x] (tlO s) (bv (nx s x).isSome) (tlO ((nx s x).getD s)) := (⟨s, x, hv, hx, hn, rfl, rfl, rfl, rfl⟩ : RuR n _ _ _ _)
  cases hnx : nx s x with
  | none =>
    have hr : nxtR s x = (.tup [zrS, iv 9], []) := by unfold nxtR; rw [nxt_no hs hx hnx]; rfl
    rw [hr]
    rw [hnx] at R0
    have rux_at : (ruxS (n := n)).rel [.ptr 0 0, ocA x] (tlO s) (bv false) (tlO s) := R0
    repeat' (first | refine sA ?_ | with_reducible refine W_tf rfl (fun h => ?_) (fun h => ?_) | ((with_reducible first | refine hK _ ?_ | refine hK _ _ ?_); clear hK K) | ((refine ext_ilook (.fn (rfn n) []) rfl ?_ rfl hz rfl rfl rfl hy ?_) <;> simp only [go_sem, seval, reduceCtorEq]) | ((first | refine sB ?_ | (with_reducible first | refine ops_cons (fun K hK => ?_) | refine opsd_cons (fun K hK => ?_) | refine W_reg lv22MdI ?_ | refine W_drw lv22MdI (by kernel_rfl) ?_) | ((with_reducible refine opsd_nil ?_); refine And.intro (by kernel_rfl) ?_) | ((with_reducible refine callV_lend ruxS [5,4] rux_ok rfl ?_); simp only [go_sem, seval, reduceCtorEq, decide_true, Bool.and_self, lv22MdI]; refine ⟨alk, rfl, _, _, rux_at , ?_⟩) | with_reducible refine callV_snap ?_ | ((with_reducible refine call_go CkyS Cky_ok ?_); refine ⟨alk, _, _, Cky_at , ?_⟩) | ((with_reducible refine call_go TrkS Trk_ok ?_); refine ⟨alk, _, _, Trk_at , ?_⟩) | ((with_reducible refine call_go CpyS Cpy_ok ?_); refine ⟨alk, _, _, Cpy_at , ?_⟩) | ((with_reducible refine call_go ruleS rule_ok ?_); refine ⟨alk, _, _, rule_at , ?_⟩) | with_reducible refine And.intro (fun h => ?_) (fun h => ?_) | with_reducible refine And.intro (by omega) ?_); (try simp only [go_sem, seval, reduceCtorEq, decide_true, Bool.and_self, lv22MdI, ruxS, Tryz.ntmps22, Tryz.results22, NxtS])) | fail)
  | some t =>
    have hr : nxtR s x = (.tup [syR 0 t, iv 0], [.rows 24 1 (t.W.map encU)]) := by unfold nxtR; rw [nxt_so hs hx hnx]; rfl
    rw [hr]
    rw [hnx] at R0
    have rux_at : (ruxS (n := n)).rel [.ptr 0 0, ocA x] (tlO s) (bv true) (tlO t) := R0
    repeat' (first | refine sA ?_ | with_reducible refine W_tf rfl (fun h => ?_) (fun h => ?_) | ((with_reducible first | refine hK _ ?_ | refine hK _ _ ?_); clear hK K) | ((refine ext_ilook (.fn (rfn n) []) rfl ?_ rfl hz rfl rfl rfl hy ?_) <;> simp only [go_sem, seval, reduceCtorEq]) | ((first | refine sC ?_ | (with_reducible first | refine ops_cons (fun K hK => ?_) | refine opsd_cons (fun K hK => ?_) | refine W_reg lv22MdI ?_ | refine W_drw lv22MdI (by kernel_rfl) ?_) | ((with_reducible refine opsd_nil ?_); refine And.intro (by kernel_rfl) ?_) | ((with_reducible refine callV_lend ruxS [5,4] rux_ok rfl ?_); simp only [go_sem, seval, reduceCtorEq, decide_true, Bool.and_self, lv22MdI]; refine ⟨alk, rfl, _, _, rux_at , ?_⟩) | with_reducible refine callV_snap ?_ | ((with_reducible refine call_go CkyS Cky_ok ?_); refine ⟨alk, _, _, Cky_at , ?_⟩) | ((with_reducible refine call_go TrkS Trk_ok ?_); refine ⟨alk, _, _, Trk_at , ?_⟩) | ((with_reducible refine call_go CpyS Cpy_ok ?_); refine ⟨alk, _, _, Cpy_at , ?_⟩) | ((with_reducible refine call_go ruleS rule_ok ?_); refine ⟨alk, _, _, rule_at , ?_⟩) | with_reducible refine And.intro (fun h => ?_) (fun h => ?_) | with_reducible refine And.intro (by omega) ?_); (try simp only [go_sem, seval, reduceCtorEq, decide_true, Bool.and_self, lv22MdI, ruxS, Tryz.ntmps22, Tryz.results22, NxtS])) | fail)
    refine W_ret (endQ_ret (end_at [4] ?_))
    simp [go_sem, Tryz.results22, NxtS]
theorem frz_sy (s : Sy) (e : Int) : frz [.rows 24 1 (s.W.map encU)] (.tup [syR 0 s, iv e]) = some (.tup [syA s, iv e]) := by
  simp [frz, frzA, frzAL, frzL, frz1, List.take_of_length_le]
theorem frz_zr (e : Int) : frz [] (.tup [zrS, iv e]) = some (.tup [syA syZ, iv e]) := rfl
def NxtFS : Spec := { al := true, rel := fun args ins res outs => ∃ (s : Sy) (x : Oc), U64 s.m.2.1 ∧ s.m.1.length ≤ 1000000 ∧ s.m.2.1.length ≤ 1000000 ∧ s.m.2.2.length ≤ 1000000 ∧ s.W.length ≤ 1000000 ∧ args = [syA s, ocA x] ∧ ins = [] ∧ res = .tup [syA (nxtF s x).1, iv (nxtF s x).2] ∧ outs = [] }
theorem NxtF_at (s : Sy) (x : Oc) (h1 : U64 s.m.2.1) (h2 : s.m.1.length ≤ 1000000) (h3 : s.m.2.1.length ≤ 1000000) (h4 : s.m.2.2.length ≤ 1000000) (h5 : s.W.length ≤ 1000000) : NxtFS.rel [syA s, ocA x] [] (.tup [syA (nxtF s x).1, iv (nxtF s x).2]) [] := ⟨s, x, h1, h2, h3, h4, h5, rfl, rfl, rfl, rfl⟩
theorem nxt_z {s : Sy} {x : Oc} (h : (nxtF s x).2 ≠ 0) : (nxtF s x).1 = syZ := by
  unfold nxtF at h ⊢
  by_cases h1 : sye s ≠ 0
  · rw [if_pos h1]
  · rw [if_neg h1] at h ⊢
    by_cases h2 : ocE x ≠ 0
    · rw [if_pos h2]
    · rw [if_neg h2] at h ⊢
      cases h3 : nx s x with
      | none => rfl
      | some t => rw [h3] at h; exact absurd rfl h
theorem NxtF_ok : Ok Tryz.prog 22 NxtFS := by
  refine ok_frz Nxt_ok NxtFS rfl ?_
  rintro args ins res outs ⟨s, x, h1, h2, h3, h4, h5, rfl, rfl, rfl, rfl⟩
  refine ⟨rfl, rfl, (nxtR s x).1, (nxtR s x).2, ⟨s, x, h1, h2, h3, h4, h5, rfl, rfl, rfl, rfl⟩, ?_⟩
  unfold nxtR
  by_cases h : (nxtF s x).2 = 0
  · rw [if_pos h, h]; exact frz_sy _ 0
  · rw [if_neg h, nxt_z h]; exact frz_zr _
def tlG (l : List Oc) (i : Nat) : Sy := (run sy0 (l.take i)).getD sy0
def tlS (l : List Oc) : Sy := if (trE l).1 = 0 then (wk sy0 l).2 else syZ
def tlN (l : List Oc) : Nat := if (trE l).1 = 0 then (wk sy0 l).1 else 0
def telR (l : List Oc) : AV × List Ob := if (trE l).1 = 0 then (.tup [syR 0 (tlS l), iv (tlN l : Int), iv 0], [.rows 24 1 ((tlS l).W.map encU)]) else (.tup [zrS, iv 0, iv (trE l).1], [])
def telS : Spec := { al := true, rel := fun args ins res outs => ∃ l : List Oc, l.length ≤ 1000000 ∧ args = [ocL l] ∧ ins = [] ∧ res = (telR l).1 ∧ outs = (telR l).2 }
theorem tlG_of {l : List Oc} {i : Nat} {s : Sy} (h : run sy0 (l.take i) = some s) : tlG l i = s := by unfold tlG; rw [h]; rfl
set_option maxHeartbeats 4000000 in
theorem tel_ok : Ok Tryz.prog 32 telS := by
  refine fn_ok telS Tryz.func32 rfl rfl ?_
  rintro args ins res outs ⟨l, hl, rfl, rfl, rfl, rfl⟩
  refine ⟨by simp [Tryz.ntmps32], fun w0 V Bo mu0 => ?_⟩
  have T0 := Trk_at l hl (e := (trE l).1) (i := (trE l).2) rfl
  by_cases he : (trE l).1 = 0
  case neg =>
    have hr : telR l = (.tup [zrS, iv 0, iv (trE l).1], []) := by unfold telR; exact if_neg he
    rw [hr]
    generalize (trE l).1 = E at *
    generalize (trE l).2 = I at *
    have Trk_at : TrkS.rel [ocL l] [] (.tup [iv E, iv (I : Int)]) [] := T0
    repeat' (first | refine sA ?_ | with_reducible refine W_tf rfl (fun h => ?_) (fun h => ?_) | ((with_reducible first | refine hK _ ?_ | refine hK _ _ ?_); clear hK K) | ((first | refine sB ?_ | (with_reducible first | refine ops_cons (fun K hK => ?_) | refine W_reg lv32MdI ?_) | with_reducible refine callV_snap ?_ | ((with_reducible refine call_go TrkS Trk_ok ?_); refine ⟨alk, _, _, Trk_at , ?_⟩) | with_reducible refine And.intro (fun h => ?_) (fun h => ?_) | with_reducible refine And.intro (by omega) ?_); (try simp only [go_sem, seval, reduceCtorEq, he, lv32MdI, Tryz.ntmps32, Tryz.results32, telS])) | fail)
  have hval := (trE_ok he).2
  have hr : telR l = (.tup [syR 0 (wk sy0 l).2, iv ((wk sy0 l).1 : Int), iv 0], [.rows 24 1 ((wk sy0 l).2.W.map encU)]) := by unfold telR tlS tlN; rw [if_pos he, if_pos he, if_pos he]
  rw [hr]
  rw [he] at T0
  generalize (trE l).2 = I at *
  have Trk_at : TrkS.rel [ocL l] [] (.tup [iv 0, iv (I : Int)]) [] := T0
  repeat' (first | refine sA ?_ | with_reducible refine W_tf rfl (fun h => ?_) (fun h => ?_) | ((with_reducible first | refine hK _ ?_ | refine hK _ _ ?_); clear hK K) | ((first | refine sB ?_ | (with_reducible first | refine ops_cons (fun K hK => ?_) | refine W_reg lv32MdI ?_) | with_reducible refine callV_snap ?_ | ((with_reducible refine call_go TrkS Trk_ok ?_); refine ⟨alk, _, _, Trk_at , ?_⟩) | ((with_reducible refine call_go MNewS MNew_ok ?_); refine ⟨alk, _, _, MNew_at , ?_⟩) | ((with_reducible refine call_go ruleS rule_ok ?_); refine ⟨alk, _, _, rule_at , ?_⟩) | with_reducible refine And.intro (fun h => ?_) (fun h => ?_) | with_reducible refine And.intro (by omega) ?_); (try simp only [go_sem, seval, reduceCtorEq, lv32MdI, Tryz.ntmps32, Tryz.results32, telS])) | fail)
  refine W_loop (fun i : Nat => ⟨[(0, ocL l), (2, .ptr 0 0), (7, .ptr 2 0), (8, .mp 3), (24, ocL l), (25, iv (l.length : Int)), (26, iv (i : Int))], [some (.box 40 [.nil, .nil, .nil, .nil, wv 0]), some (.rows 24 1 ((tlG l i).W.map encU)), some (.box 76 [.d (.sl ((tlG l i).m.1.map encDB)), .d (.sl ((tlG l i).m.2.1.map encU)), .d (.sl ((tlG l i).m.2.2.map encCl)), .row 1 1 0 (tlG l i).W.length, wv ((tlG l i).L : Int)]), some (imO ruE 11)]⟩) (fun i => i ≤ l.length ∧ run sy0 (l.take i) = some (tlG l i)) (fun i => l.length - i) 0 ⟨Nat.zero_le _, rfl⟩ [0, 1, 2, 3] ?_ ?_
  · simp [go_sem, tlG, run, sy0]
  rintro i ⟨hi, hT⟩
  by_cases hlt : i < l.length
  · have hki : (i : Int) < l.length := by omega
    have hx := hval _ (List.getElem_mem hlt)
    have hnext := fun u => run_step (u := u) hlt hT
    have hstop := wk_stop hlt hT
    have hv : Vs (tlG l i) := run_vs sy0_vs (fun y hy => hval y (List.mem_of_mem_take hy)) hT
    have hgo := fun u h => tlG_of (i := i + 1) (hnext u h)
    obtain ⟨x, hxe⟩ : ∃ x, l[i] = x := ⟨_, rfl⟩
    have e0 : encOc l[i] = [.int .i64 x.k, .int .i64 x.p, .int .i64 x.o, .int .i64 x.g, .int .i64 x.w, .int .u64 (x.t : Int), .int .u64 (x.v : Int)] := by rw [hxe]; rfl
    rw [hxe] at hx hnext hstop hgo
    obtain ⟨k1, k2, _⟩ := oc_kind hx
    obtain ⟨n, hn⟩ : ∃ n : Nat, x.k = (n : Int) := ⟨x.k.toNat, by omega⟩
    have rux_ok := rux_all (n := n) (by omega) (by omega)
    obtain ⟨z, hz⟩ := zr_rule
    have hy := rep_ru (n := n) (by omega) (by omega) z
    rw [← hn] at hy
    have R0 : ruxS.rel [.ptr 0 0, ocA x] (tlO (tlG l i)) (bv (nx (tlG l i) x).isSome) (tlO ((nx (tlG l i) x).getD (tlG l i))) := (⟨tlG l i, x, hv, hx, hn, rfl, rfl, rfl, rfl⟩ : RuR n _ _ _ _)
    cases hnx : nx (tlG l i) x with
    | none =>
      rw [hstop hnx]
      rw [hnx] at R0
      generalize tlG l i = s at *
      have rux_at : (ruxS (n := n)).rel [.ptr 0 0, ocA x] (tlO s) (bv false) (tlO s) := R0
      repeat' (first | refine sA ?_ | with_reducible refine W_tf rfl (fun h => ?_) (fun h => ?_) | ((with_reducible first | refine hK _ ?_ | refine hK _ _ ?_); clear hK K) | ((refine ext_ilook (.fn (rfn n) []) rfl ?_ rfl hz rfl rfl rfl hy ?_) <;> simp only [go_sem, seval, reduceCtorEq]) | ((first | refine sC ?_ | (with_reducible first | refine ops_cons (fun K hK => ?_) | refine W_reg lv32MdI ?_) | ((with_reducible refine callV_lend ruxS [2,1] rux_ok rfl ?_); simp only [go_sem, seval, reduceCtorEq, hki, e0, decide_true, Bool.and_self, lv32MdI]; refine ⟨alk, rfl, _, _, rux_at , ?_⟩) | with_reducible refine callV_snap ?_ | with_reducible refine And.intro (fun h => ?_) (fun h => ?_) | with_reducible refine And.intro (by omega) ?_); (try simp only [go_sem, seval, reduceCtorEq, hki, e0, decide_true, Bool.and_self, lv32MdI, ruxS, Tryz.ntmps32, Tryz.results32, telS])) | fail)
      refine W_ret (endQ_ret (end_at [1] ?_))
      simp [go_sem, Tryz.results32, telS]
    | some t =>
      have hg := hgo t hnx
      have hnx' := hnext t hnx
      rw [hnx] at R0
      generalize tlG l i = s at *
      have rux_at : (ruxS (n := n)).rel [.ptr 0 0, ocA x] (tlO s) (bv true) (tlO t) := R0
      repeat' (first | refine sA ?_ | with_reducible refine W_tf rfl (fun h => ?_) (fun h => ?_) | ((with_reducible first | refine hK _ ?_ | refine hK _ _ ?_); clear hK K) | ((refine ext_ilook (.fn (rfn n) []) rfl ?_ rfl hz rfl rfl rfl hy ?_) <;> simp only [go_sem, seval, reduceCtorEq]) | ((first | refine sC ?_ | (with_reducible first | refine ops_cons (fun K hK => ?_) | refine W_reg lv32MdI ?_) | ((with_reducible refine callV_lend ruxS [2,1] rux_ok rfl ?_); simp only [go_sem, seval, reduceCtorEq, hki, e0, decide_true, Bool.and_self, lv32MdI]; refine ⟨alk, rfl, _, _, rux_at , ?_⟩) | with_reducible refine callV_snap ?_ | with_reducible refine And.intro (fun h => ?_) (fun h => ?_) | with_reducible refine And.intro (by omega) ?_); (try simp only [go_sem, seval, reduceCtorEq, hki, e0, decide_true, Bool.and_self, lv32MdI, ruxS, Tryz.ntmps32, Tryz.results32, telS])) | fail)
      refine ⟨i + 1, [0, 1, 2, 3], ⟨by omega, by rw [hg]; exact hnx'⟩, by omega, ?_⟩
      simp [go_sem, hg]
  · have hki : ¬ (i : Int) < l.length := by omega
    obtain rfl : i = l.length := by omega
    rw [List.take_length] at hT
    rw [wk_run hT]
    generalize tlG l l.length = s at *
    repeat' (first | refine sA ?_ | with_reducible refine W_tf rfl (fun h => ?_) (fun h => ?_) | ((with_reducible first | refine hK _ ?_ | refine hK _ _ ?_); clear hK K) | ((first | refine sC ?_ | (with_reducible first | refine ops_cons (fun K hK => ?_) | refine W_reg lv32MdI ?_) | with_reducible refine callV_snap ?_ | with_reducible refine And.intro (fun h => ?_) (fun h => ?_) | with_reducible refine And.intro (by omega) ?_); (try simp only [go_sem, seval, reduceCtorEq, hki, lv32MdI, Tryz.ntmps32, Tryz.results32, telS])) | fail)
    refine W_ret (endQ_ret (end_at [1] ?_))
    simp [go_sem, Tryz.results32, telS]
theorem frz_sy3 (s : Sy) (n e : Int) : frz [.rows 24 1 (s.W.map encU)] (.tup [syR 0 s, iv n, iv e]) = some (.tup [syA s, iv n, iv e]) := by
  simp [frz, frzA, frzAL, frzL, frz1, List.take_of_length_le]
theorem frz_zr3 (n e : Int) : frz [] (.tup [zrS, iv n, iv e]) = some (.tup [syA syZ, iv n, iv e]) := rfl
def telFS : Spec := { al := true, rel := fun args ins res outs => ∃ l : List Oc, l.length ≤ 1000000 ∧ args = [ocL l] ∧ ins = [] ∧ res = .tup [syA (tlS l), iv (tlN l : Int), iv (trE l).1] ∧ outs = [] }
theorem telF_at (l : List Oc) (h : l.length ≤ 1000000) : telFS.rel [ocL l] [] (.tup [syA (tlS l), iv (tlN l : Int), iv (trE l).1]) [] := ⟨l, h, rfl, rfl, rfl, rfl⟩
theorem telF_ok : Ok Tryz.prog 32 telFS := by
  refine ok_frz tel_ok telFS rfl ?_
  rintro args ins res outs ⟨l, h, rfl, rfl, rfl, rfl⟩
  refine ⟨rfl, rfl, (telR l).1, (telR l).2, ⟨l, h, rfl, rfl, rfl, rfl⟩, ?_⟩
  unfold telR
  by_cases h : (trE l).1 = 0
  · rw [if_pos h, h]; exact frz_sy3 _ _ 0
  · rw [if_neg h]
    have e1 : tlS l = syZ := if_neg h
    have e2 : tlN l = 0 := if_neg h
    rw [e1, e2]; exact frz_zr3 _ _
def alwS : Spec := { rel := fun args ins res outs => ∃ l : List Oc, l.length ≤ 1000000 ∧ args = [ocL l] ∧ ins = [] ∧ res = .tup [iv (tlN l : Int), iv (trE l).1] ∧ outs = [] }
theorem alw_at (l : List Oc) (h : l.length ≤ 1000000) {n : Nat} {e : Int} (h1 : tlN l = n) (h2 : (trE l).1 = e) : alwS.rel [ocL l] [] (.tup [iv (n : Int), iv e]) [] := ⟨l, h, rfl, rfl, by rw [h1, h2], rfl⟩
theorem alw_ok : Ok Tryz.prog 10 alwS := by
  refine fn_ok alwS Tryz.func10 rfl rfl ?_
  rintro args ins res outs ⟨l, hl, rfl, rfl, rfl, rfl⟩
  refine ⟨by simp [Tryz.ntmps10], fun w0 V Bo mu0 => ?_⟩
  have T0 := telF_at l hl
  generalize tlS l = S at *
  generalize tlN l = N at *
  generalize (trE l).1 = E at *
  have telF_at : telFS.rel [ocL l] [] (.tup [syA S, iv (N : Int), iv E]) [] := T0
  repeat' (first | refine sA ?_ | ((with_reducible first | refine hK _ ?_ | refine hK _ _ ?_); clear hK K) | ((first | refine sB ?_ | (with_reducible first | refine ops_cons (fun K hK => ?_) | refine W_reg [(0, [0]), (1, [5, 6]), (2, [2, 3])] ?_) | with_reducible refine callV_snap ?_ | ((with_reducible refine call_go telFS telF_ok ?_); refine ⟨alk, _, _, telF_at , ?_⟩) | with_reducible refine And.intro (fun h => ?_) (fun h => ?_) | with_reducible refine And.intro (by omega) ?_); (try simp only [go_sem, seval, reduceCtorEq, Tryz.ntmps10, Tryz.results10, alwS])) | fail)
def afE (l : List Oc) : Int := if (trE l).1 = 0 ∧ tlN l < l.length then 9 else (trE l).1
def afT (l : List Oc) : Sy := if afE l = 0 then tlS l else syZ
def aftS : Spec := { al := true, rel := fun args ins res outs => ∃ l : List Oc, l.length ≤ 1000000 ∧ args = [ocL l] ∧ ins = [] ∧ res = .tup [if afE l = 0 then syA (afT l) else zrS, iv (afE l)] ∧ outs = [] }
theorem aft_ok' : Ok Tryz.prog 12 aftS := by
  refine fn_ok aftS Tryz.func12 rfl rfl ?_
  rintro args ins res outs ⟨l, hl, rfl, rfl, rfl, rfl⟩
  refine ⟨by simp [Tryz.ntmps12], fun w0 V Bo mu0 => ?_⟩
  have T0 := telF_at l hl
  unfold afT
  have hE : afE l = if (trE l).1 = 0 ∧ tlN l < l.length then 9 else (trE l).1 := rfl
  generalize afE l = F at *
  generalize tlS l = S at *
  generalize tlN l = N at *
  generalize (trE l).1 = E at *
  have telF_at : telFS.rel [ocL l] [] (.tup [syA S, iv (N : Int), iv E]) [] := T0
  by_cases h0 : E = 0
  · subst h0
    by_cases hN : N < l.length
    · have hN' : (N : Int) < (l.length : Int) := by omega
      rw [if_pos ⟨rfl, hN⟩] at hE
      subst hE
      rw [if_neg (show ¬ (9 : Int) = 0 by decide)]
      repeat' (first | refine sA ?_ | with_reducible refine W_tf rfl (fun h => ?_) (fun h => ?_) | ((with_reducible first | refine hK _ ?_ | refine hK _ _ ?_); clear hK K) | ((first | refine sB ?_ | (with_reducible first | refine ops_cons (fun K hK => ?_) | refine W_reg lv12MdI ?_) | with_reducible refine callV_snap ?_ | ((with_reducible refine call_go telFS telF_ok ?_); refine ⟨alk, _, _, telF_at , ?_⟩) | with_reducible refine And.intro (fun h => ?_) (fun h => ?_) | with_reducible refine And.intro (by omega) ?_); (try simp only [go_sem, seval, reduceCtorEq, hN', lv12MdI, Tryz.ntmps12, Tryz.results12, aftS])) | fail)
    · have hN' : ¬ (N : Int) < (l.length : Int) := by omega
      rw [if_neg (fun h => hN h.2)] at hE
      subst hE
      rw [if_pos rfl, if_pos rfl]
      repeat' (first | refine sA ?_ | with_reducible refine W_tf rfl (fun h => ?_) (fun h => ?_) | ((with_reducible first | refine hK _ ?_ | refine hK _ _ ?_); clear hK K) | ((first | refine sB ?_ | (with_reducible first | refine ops_cons (fun K hK => ?_) | refine W_reg lv12MdI ?_) | with_reducible refine callV_snap ?_ | ((with_reducible refine call_go telFS telF_ok ?_); refine ⟨alk, _, _, telF_at , ?_⟩) | with_reducible refine And.intro (fun h => ?_) (fun h => ?_) | with_reducible refine And.intro (by omega) ?_); (try simp only [go_sem, seval, reduceCtorEq, hN', lv12MdI, Tryz.ntmps12, Tryz.results12, aftS])) | fail)
  · rw [if_neg (fun h => h0 h.1)] at hE
    subst hE
    rw [if_neg h0]
    repeat' (first | refine sA ?_ | with_reducible refine W_tf rfl (fun h => ?_) (fun h => ?_) | ((with_reducible first | refine hK _ ?_ | refine hK _ _ ?_); clear hK K) | ((first | refine sB ?_ | (with_reducible first | refine ops_cons (fun K hK => ?_) | refine W_reg lv12MdI ?_) | with_reducible refine callV_snap ?_ | ((with_reducible refine call_go telFS telF_ok ?_); refine ⟨alk, _, _, telF_at , ?_⟩) | with_reducible refine And.intro (fun h => ?_) (fun h => ?_) | with_reducible refine And.intro (by omega) ?_); (try simp only [go_sem, seval, reduceCtorEq, h0, lv12MdI, Tryz.ntmps12, Tryz.results12, aftS])) | fail)
def aftrS : Spec := { al := true, rel := fun args ins res outs => ∃ l : List Oc, l.length ≤ 1000000 ∧ args = [ocL l] ∧ ins = [] ∧ res = .tup [syA (afT l), iv (afE l)] ∧ outs = [] }
theorem aftr_at (l : List Oc) (h : l.length ≤ 1000000) : aftrS.rel [ocL l] [] (.tup [syA (afT l), iv (afE l)]) [] := ⟨l, h, rfl, rfl, rfl, rfl⟩
theorem aftr_ok : Ok Tryz.prog 12 aftrS := by
  refine ok_frz aft_ok' aftrS rfl ?_
  rintro args ins res outs ⟨l, h, rfl, rfl, rfl, rfl⟩
  refine ⟨rfl, rfl, _, _, ⟨l, h, rfl, rfl, rfl, rfl⟩, ?_⟩
  by_cases h : afE l = 0
  · rw [if_pos h]; rfl
  · have e : afT l = syZ := if_neg h
    rw [if_neg h, e]; rfl
end Go.Proofs.YtpocnjliigjidaaGreat
