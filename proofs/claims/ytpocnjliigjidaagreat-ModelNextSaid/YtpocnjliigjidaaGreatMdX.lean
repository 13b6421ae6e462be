import Derived.Test.YtpocnjliigjidaaGreatMdI
/- The reference's stories: rows of which all but one become data; own, New, Check. -/
namespace Go.Proofs.YtpocnjliigjidaaGreat
open Go.RowKit
set_option maxRecDepth 100000
set_option linter.unusedSimpArgs false
set_option linter.unusedVariables false
abbrev lv27MdX : List (Nat × List Nat) := [(0, [1]), (1, [1, 3]), (2, [1, 3, 11]), (3, [2]), (4, [1, 16]), (5, [2]), (6, [1, 19]), (7, [2]), (8, [1, 4]), (9, [1, 4, 24]), (10, [1, 4]), (11, [1, 4, 34]), (12, [2]), (13, [1, 5]), (14, [1, 5, 39]), (15, [1, 5]), (16, [1, 5, 6]), (17, [1, 5, 6, 44]), (18, [1, 5, 6]), (19, [1, 5, 6, 65]), (20, [2]), (21, [2])]
def fk1 (k : Nat) (outs : List Ob) : AV → Option AV
  | .row i sz o len => if i = k then some (.row 0 sz o len) else frz1 outs (.row i sz o len)
  | .d x => some (.d x)
  | .nil => some (.d (.sl []))
  | _ => none
def fkL (k : Nat) (outs : List Ob) : List AV → Option (List AV)
  | [] => some []
  | x :: l => (fk1 k outs x).bind fun y => (fkL k outs l).map (y :: ·)
theorem fkL_get {k : Nat} {outs : List Ob} : ∀ {l m : List AV}, fkL k outs l = some m → m.length = l.length ∧ ∀ (j : Nat) (x y : AV), l[j]? = some x → m[j]? = some y → fk1 k outs x = some y
  | [], m, h => by simp [fkL] at h; subst h; simp
  | z :: l, m, h => by
    simp only [fkL, Option.bind_eq_some_iff, Option.map_eq_some_iff] at h
    obtain ⟨y, hy, m', hm, rfl⟩ := h
    obtain ⟨h1, h2⟩ := fkL_get hm
    refine ⟨by simp [h1], fun j x y' hx hy' => ?_⟩
    cases j with
    | zero => simp at hx hy'; subst hx hy'; exact hy
    | succ j => simp at hx hy'; exact h2 j x y' hx hy'
theorem fk1_rep {w : World} {S V' : Nat → Prop} {μ μ2 : Mu} {outs : List Ob} {k : Nat} (hob : ∀ i o, outs[i]? = some o → ObRep w S μ i o) (hV : ∀ b, S b → V' b) (hnew : ∀ i b, i ≠ k → μ i = some (some b) → V' b) (h2 : μ2 0 = μ k) {x y : AV} {v : Value} (h : fk1 k outs x = some y) (hr : Rep w S μ x v) : Rep w V' μ2 y v := by
  cases hr with
  | d hd => simp [fk1] at h; subst h; exact .d (hd.evolve (Ev.refl w (fun _ => False)) (fun _ h => h.elim) hV)
  | nil => simp [fk1] at h; subst h; exact .d .nil
  | @rowNil i sz h1 =>
    simp only [fk1] at h
    by_cases hi : i = k
    · rw [if_pos hi] at h; injection h with h; subst h; subst hi; exact .rowNil (h2.trans h1)
    · rw [if_neg hi] at h
      simp only [frz1] at h
      split at h
      · split at h
        · injection h with h; subst h; simpa using Rep.d (.nil)
        · cases h
      · cases h
  | @row i sz o len b c arr t g1 g2 g3 g4 g5 =>
    simp only [fk1] at h
    by_cases hi : i = k
    · rw [if_pos hi] at h; injection h with h; subst h; subst hi; exact .row (h2.trans g1) g2 g3 g4 g5
    · rw [if_neg hi] at h
      simp only [frz1] at h
      split at h
      · rename_i t' sz' rs hi'
        split at h
        · rename_i hc
          obtain ⟨rfl, hl⟩ := hc
          injection h with h; subst h
          exact .d (frz_rows (hob i _ hi') g1 hV (hnew i b hi g1) (by simp; omega) g3)
        · cases h
      · cases h
  | _ => simp [fk1] at h
theorem ok_frzk {P : Program} {f : FuncId} {s : Spec} (hok : Ok P f s) (s' : Spec) (hal : s'.al = true)
    (h : ∀ args ins res' outs', s'.rel args ins res' outs' → ins = [] ∧ ∃ cs outs k t sz rs cs', s.rel args [] (.agg cs) outs ∧ outs[k]? = some (.rows t sz rs) ∧ outs' = [.rows t sz rs] ∧ fkL k outs cs = some cs' ∧ res' = .agg cs') : Ok P f s' := by
  refine ⟨hok.1, ?_⟩
  intro args ins res' outs' hrel w V Bo μ vals hin
  obtain ⟨rfl, cs, outs, k, t, sz, rs, cs', hr, hk, rfl, hf, rfl⟩ := h _ _ _ _ hrel
  refine (hok.2 args [] (.agg cs) outs hr w V Bo μ vals hin).mono ?_
  rintro e w' ⟨v, μ', rfl, ho⟩
  have hkl : k < outs.length := (List.getElem?_eq_some_iff.1 hk).1
  have hnd : ∀ i, (([] : List Ob).length ≤ i ∨ i ∉ s.dead) := fun i => .inl (Nat.zero_le _)
  have hV : ∀ b, outS s.al V w w' μ' outs.length b → outS s'.al V w w' (fun j => if j = 0 then μ' k else none) [Ob.rows t sz rs].length b := by
    intro b hb
    rcases hb with ⟨_, hv⟩ | ⟨h1, h2, h3⟩
    · exact .inl ⟨hal, hv⟩
    · refine .inr ⟨h1, h2, fun i hi => ?_⟩
      have : i = 0 := by simpa using hi
      subst this
      exact h3 k hkl
  have hnew : ∀ i b, i ≠ k → μ' i = some (some b) → outS s'.al V w w' (fun j => if j = 0 then μ' k else none) [Ob.rows t sz rs].length b := by
    intro i b hik hb
    have hil : i < outs.length := by
      rcases Nat.lt_or_ge i outs.length with h | h
      · exact h
      · rw [ho.lt i h] at hb; cases hb
    have := ho.new i b (Nat.zero_le _) hb
    refine .inr ⟨?_, this.2, fun j hj => ?_⟩
    · rcases this.1 with h1 | ⟨j, hj, _⟩
      · exact h1
      · exact absurd hj (by simp)
    · have : j = 0 := by simpa using hj
      subst this
      intro e
      exact hik (ho.inj i k b hil hkl (hnd _) (hnd _) hb e)
  refine ⟨v, fun j => if j = 0 then μ' k else none, rfl, ho.ev, fun i x hx => ?_, ?_, fun i o hi _ => ?_, fun i b _ hb => ?_, fun i j b hi hj _ _ _ _ => ?_, fun i hi => ?_, Nat.zero_le _⟩
  · rw [hin.lt i (by simp)] at hx; cases hx
  · obtain ⟨hl, hg⟩ := fkL_get hf
    have hres := ho.res
    cases hres with
    | agg h1 h2 h3 =>
      refine .agg (by omega) (fun j y u hy hu => ?_) h3
      have hj : j < cs.length := by rw [← hl]; exact (List.getElem?_eq_some_iff.1 hy).1
      exact fk1_rep (fun i o hi => ho.ob i o hi (hnd _)) hV hnew rfl (hg j _ y (List.getElem?_eq_getElem hj) hy) (h2 j _ u (List.getElem?_eq_getElem hj) hu)
  · have : i = 0 := by have := (List.getElem?_eq_some_iff.1 hi).1; simpa using this
    subst this
    simp at hi
    subst hi
    cases ho.ob k _ hk (hnd _) with
    | rowsNil b1 b2 => exact .rowsNil b1 b2
    | rows b1 b2 b3 b4 b5 b6 => exact .rows b1 b2 b3 b4 b5 (fun p j r x u hr hx hu => (b6 p j r x u hr hx hu).evolve (Ev.refl w' (fun _ => False)) (fun _ h => h.elim) hV)
  · by_cases h0 : i = 0
    · rw [if_pos h0] at hb
      have := ho.new k b (Nat.zero_le _) hb
      exact ⟨.inl (by rcases this.1 with h1 | ⟨j, hj, _⟩; exact h1; exact absurd hj (by simp)), this.2⟩
    · rw [if_neg h0] at hb; cases hb
  · simp at hi hj; omega
  · have : i ≠ 0 := by simp at hi; omega
    exact if_neg this
def rOwS : Spec := { al := true, rel := fun args ins res outs => ∃ s : Sy, s.m.1.length ≤ 1000000 ∧ s.m.2.1.length ≤ 1000000 ∧ s.m.2.2.length ≤ 1000000 ∧ s.W.length ≤ 1000000 ∧ args = [syA s] ∧ ins = [] ∧ res = .agg [.row 0 1 0 s.m.1.length, .row 1 1 0 s.m.2.1.length, .row 2 4 0 s.m.2.2.length, .row 3 1 0 s.W.length, wv (s.L : Int)] ∧ outs = [.rows 4 1 (s.m.1.map encDB), .rows 24 1 (s.m.2.1.map encU), .rows 90 4 (s.m.2.2.map encCl), .rows 24 1 (s.W.map encU)] }
theorem rOw_ok : Ok Tryz.prog 76 rOwS := by
  refine fn_ok rOwS Tryz.func76 rfl rfl ?_
  rintro args ins res outs ⟨s, h2, h3, h4, h5, rfl, rfl, rfl, rfl⟩
  refine ⟨by simp [Tryz.ntmps76], fun w0 V Bo mu0 => ?_⟩
  repeat' (first | refine sA ?_ | ((with_reducible first | refine hK _ ?_ | refine hK _ _ ?_); clear hK K) | ((with_reducible refine And.intro (encB.rows _) ?_)) | ((with_reducible refine And.intro (encUe.rows _) ?_)) | ((with_reducible refine And.intro (encCle.rows _) ?_)) | ((first | refine sC ?_ | (with_reducible first | refine ops_cons (fun K hK => ?_) | refine opsd_cons (fun K hK => ?_) | refine W_reg [(0, [1, 2]), (1, [1, 2, 3]), (2, [2])] ?_ | refine W_drw [(0, [1, 2]), (1, [1, 2, 3]), (2, [2])] (by kernel_rfl) ?_) | ((with_reducible refine opsd_nil ?_); refine And.intro (by kernel_rfl) ?_) | with_reducible refine callV_snap ?_ | with_reducible refine And.intro (fun h => ?_) (fun h => ?_) | with_reducible refine And.intro (by omega) ?_); (try simp only [go_sem, seval, reduceCtorEq, Tryz.ntmps76, Tryz.results76, rOwS])) | fail)
  refine W_ret (endQ_ret (end_at [4, 6, 8, 10] ?_))
  simp [go_sem, Tryz.results76, rOwS]
def rOwKS : Spec := { al := true, rel := fun args ins res outs => ∃ s : Sy, s.m.1.length ≤ 1000000 ∧ s.m.2.1.length ≤ 1000000 ∧ s.m.2.2.length ≤ 1000000 ∧ s.W.length ≤ 1000000 ∧ args = [syA s] ∧ ins = [] ∧ res = syR 0 s ∧ outs = [.rows 24 1 (s.W.map encU)] }
theorem rOwK_at (s : Sy) (h2 : s.m.1.length ≤ 1000000) (h3 : s.m.2.1.length ≤ 1000000) (h4 : s.m.2.2.length ≤ 1000000) (h5 : s.W.length ≤ 1000000) : rOwKS.rel [syA s] [] (syR 0 s) [.rows 24 1 (s.W.map encU)] := ⟨s, h2, h3, h4, h5, rfl, rfl, rfl, rfl⟩
theorem rOwK_ok : Ok Tryz.prog 76 rOwKS := by
  refine ok_frzk rOw_ok rOwKS rfl ?_
  rintro args ins res outs ⟨s, h2, h3, h4, h5, rfl, rfl, rfl, rfl⟩
  refine ⟨rfl, _, _, 3, _, _, _, _, ⟨s, h2, h3, h4, h5, rfl, rfl, rfl, rfl⟩, rfl, rfl, ?_, rfl⟩
  simp [fkL, fk1, frz1, List.take_of_length_le]
theorem rMNew_ok : Ok Tryz.prog 25 MNewS := by
  refine fn_ok MNewS Tryz.func25 rfl rfl ?_
  rintro args ins res outs ⟨rfl, rfl, rfl, rfl⟩
  refine ⟨by simp [Tryz.ntmps25], fun w0 V Bo mu0 => ?_⟩
  repeat' (first | refine sA ?_ | ((with_reducible first | refine hK _ ?_ | refine hK _ _ ?_); clear hK K) | ((first | refine sC ?_ | (with_reducible first | refine ops_cons (fun K hK => ?_) | refine opsd_cons (fun K hK => ?_) | refine W_reg [(0, [0]), (1, [0])] ?_ | refine W_drw [(0, [0]), (1, [0])] (by kernel_rfl) ?_) | ((with_reducible refine opsd_nil ?_); refine And.intro (by kernel_rfl) ?_) | with_reducible refine callV_snap ?_ | ((with_reducible refine call_go rNewFS rNewF_ok ?_); refine ⟨alk, _, _, rNewF_at , ?_⟩) | with_reducible refine And.intro (fun h => ?_) (fun h => ?_) | with_reducible refine And.intro (by omega) ?_); (try simp only [go_sem, seval, reduceCtorEq, Tryz.ntmps25, Tryz.results25, MNewS])) | fail)
  refine W_ret (endQ_ret (end_at [1] ?_))
  simp [go_sem, Tryz.results25, MNewS, encU, sy0]
abbrev rMNewFS : Spec := MNewFS
theorem rMNewF_at : rMNewFS.rel [] [] (syA sy0) [] := ⟨rfl, rfl, rfl, rfl⟩
theorem rMNewF_ok : Ok Tryz.prog 25 rMNewFS := by
  refine ok_frz rMNew_ok MNewFS rfl ?_
  rintro args ins res outs ⟨rfl, rfl, rfl, rfl⟩
  exact ⟨rfl, rfl, _, _, ⟨rfl, rfl, rfl, rfl⟩, rfl⟩
theorem twc_hit {W : List Nat} {i k : Nat} (hi : i < W.length) (hk : k < i) (h0 : W[i] ≠ 0) (he : W[i] = W[k]) : twc W = true := by
  unfold twc
  refine List.any_eq_true.2 ⟨i, by simpa using hi, ?_⟩
  rw [List.getElem?_eq_getElem hi, Option.getD_some, decide_eq_true h0, Bool.true_and, List.contains_iff_mem, List.mem_take_iff_getElem]
  exact ⟨k, by omega, he.symm⟩
theorem twc_no {W : List Nat} (h : ∀ i (hi : i < W.length), ∀ k (hk : k < i), W[i] ≠ 0 → W[i] ≠ W[k]) : twc W = false := by
  cases ht : twc W with
  | false => rfl
  | true =>
    exfalso
    unfold twc at ht
    obtain ⟨i, hi, hb⟩ := List.any_eq_true.1 ht
    have hi' : i < W.length := by simpa using hi
    rw [List.getElem?_eq_getElem hi', Option.getD_some, Bool.and_eq_true, decide_eq_true_eq, List.contains_iff_mem, List.mem_take_iff_getElem] at hb
    obtain ⟨h0, k, hk, e⟩ := hb
    exact h i hi' k (by omega) h0 e.symm
abbrev rCkyS : Spec := CkyS
theorem rCky_at (s : Sy) (h1 : U64 s.m.2.1) (h2 : s.m.1.length ≤ 1000000) (h3 : s.m.2.1.length ≤ 1000000) (h4 : s.m.2.2.length ≤ 1000000) (h5 : s.W.length ≤ 1000000) {e : Int} (he : sye s = e) : rCkyS.rel [syA s] [] (iv e) [] := ⟨s, h1, h2, h3, h4, h5, rfl, rfl, by rw [he], rfl⟩
set_option maxHeartbeats 2000000 in
theorem rCky_ok : Ok Tryz.prog 27 rCkyS := by
  refine fn_ok CkyS Tryz.func27 rfl rfl ?_
  rintro args ins res outs ⟨⟨⟨al, mp, cs⟩, W, L⟩, hu, h2, h3, h4, h5, rfl, rfl, rfl, rfl⟩
  refine ⟨by simp [Tryz.ntmps27], fun w0 V Bo mu0 => ?_⟩
  dsimp only at *
  unfold sye
  dsimp only
  have C0 := rCk_at al mp cs hu h2 h3 h4
  generalize flchk al mp cs = E at *
  have rCk_at : rCkS.rel [fm al mp cs] [] (iv E) [] := C0
  by_cases hE : E = 0
  case neg =>
    rw [if_pos hE]
    repeat' (first | refine sA ?_ | with_reducible refine W_tf rfl (fun h => ?_) (fun h => ?_) | ((with_reducible first | refine hK _ ?_ | refine hK _ _ ?_); clear hK K) | ((first | refine sB ?_ | (with_reducible first | refine ops_cons (fun K hK => ?_) | refine opsd_cons (fun K hK => ?_) | refine W_reg lv27MdX ?_ | refine W_drw lv27MdX (by kernel_rfl) ?_) | ((with_reducible refine opsd_nil ?_); refine And.intro (by kernel_rfl) ?_) | with_reducible refine callV_snap ?_ | ((with_reducible refine call_go rCkS rCk_ok ?_); refine ⟨alk, _, _, rCk_at , ?_⟩) | with_reducible refine And.intro (fun h => ?_) (fun h => ?_) | with_reducible refine And.intro (by omega) ?_); (try simp only [go_sem, seval, reduceCtorEq, hE, lv27MdX, Tryz.ntmps27, Tryz.results27, CkyS])) | fail)
  rw [if_neg (fun h => h hE)]
  subst hE
  by_cases h8 : W.length = 8
  case neg =>
    rw [if_pos h8]
    have h8' : ¬ (W.length : Int) = 8 := by omega
    repeat' (first | refine sA ?_ | with_reducible refine W_tf rfl (fun h => ?_) (fun h => ?_) | ((with_reducible first | refine hK _ ?_ | refine hK _ _ ?_); clear hK K) | ((first | refine sB ?_ | (with_reducible first | refine ops_cons (fun K hK => ?_) | refine opsd_cons (fun K hK => ?_) | refine W_reg lv27MdX ?_ | refine W_drw lv27MdX (by kernel_rfl) ?_) | ((with_reducible refine opsd_nil ?_); refine And.intro (by kernel_rfl) ?_) | with_reducible refine callV_snap ?_ | ((with_reducible refine call_go rCkS rCk_ok ?_); refine ⟨alk, _, _, rCk_at , ?_⟩) | with_reducible refine And.intro (fun h => ?_) (fun h => ?_) | with_reducible refine And.intro (by omega) ?_); (try simp only [go_sem, seval, reduceCtorEq, h8', lv27MdX, Tryz.ntmps27, Tryz.results27, CkyS])) | fail)
  rw [if_neg (fun h => h h8)]
  have h8' : (W.length : Int) = 8 := by omega
  by_cases hL : mxT < L
  · rw [if_pos hL]
    have hL' : 1099511627776 < (L : Int) := by unfold mxT at hL; omega
    repeat' (first | refine sA ?_ | with_reducible refine W_tf rfl (fun h => ?_) (fun h => ?_) | ((with_reducible first | refine hK _ ?_ | refine hK _ _ ?_); clear hK K) | ((first | refine sB ?_ | (with_reducible first | refine ops_cons (fun K hK => ?_) | refine opsd_cons (fun K hK => ?_) | refine W_reg lv27MdX ?_ | refine W_drw lv27MdX (by kernel_rfl) ?_) | ((with_reducible refine opsd_nil ?_); refine And.intro (by kernel_rfl) ?_) | with_reducible refine callV_snap ?_ | ((with_reducible refine call_go rCkS rCk_ok ?_); refine ⟨alk, _, _, rCk_at , ?_⟩) | with_reducible refine And.intro (fun h => ?_) (fun h => ?_) | with_reducible refine And.intro (by omega) ?_); (try simp only [go_sem, seval, reduceCtorEq, h8', hL', lv27MdX, Tryz.ntmps27, Tryz.results27, CkyS])) | fail)
  rw [if_neg hL]
  have hL' : ¬ 1099511627776 < (L : Int) := by unfold mxT at hL; omega
  repeat' (first | refine sA ?_ | with_reducible refine W_tf rfl (fun h => ?_) (fun h => ?_) | ((with_reducible first | refine hK _ ?_ | refine hK _ _ ?_); clear hK K) | ((first | refine sB ?_ | (with_reducible first | refine ops_cons (fun K hK => ?_) | refine opsd_cons (fun K hK => ?_) | refine W_reg lv27MdX ?_ | refine W_drw lv27MdX (by kernel_rfl) ?_) | ((with_reducible refine opsd_nil ?_); refine And.intro (by kernel_rfl) ?_) | with_reducible refine callV_snap ?_ | ((with_reducible refine call_go rCkS rCk_ok ?_); refine ⟨alk, _, _, rCk_at , ?_⟩) | with_reducible refine And.intro (fun h => ?_) (fun h => ?_) | with_reducible refine And.intro (by omega) ?_); (try simp only [go_sem, seval, reduceCtorEq, h8', hL', lv27MdX, Tryz.ntmps27, Tryz.results27, CkyS])) | fail)
  refine W_loop (fun i : Nat => ⟨[(1, .ptr 0 0), (4, iv (i : Int))], [some (.box 40 [.d (.sl (al.map encDB)), .d (.sl (mp.map encU)), .d (.sl (cs.map encCl)), .d (.sl (W.map encU)), wv (L : Int)])]⟩) (fun i => i ≤ W.length ∧ ∀ j (h : j < W.length), j < i → W[j] ≤ L) (fun i => W.length - i) 0 ⟨Nat.zero_le _, fun _ _ h => by omega⟩ [0] ?_ ?_
  · simp [go_sem]
  rintro i ⟨hi, hT⟩
  by_cases hlt : i < W.length
  · have hki : (i : Int) < W.length := by omega
    have e0 : encU W[i] = [.int .u64 (W[i] : Int)] := rfl
    by_cases hw : L < W[i]
    · have hw' : (L : Int) < (W[i] : Int) := by omega
      rw [if_pos (List.any_eq_true.2 ⟨W[i], List.getElem_mem hlt, by simpa using hw⟩)]
      repeat' (first | refine sA ?_ | with_reducible refine W_tf rfl (fun h => ?_) (fun h => ?_) | ((with_reducible first | refine hK _ ?_ | refine hK _ _ ?_); clear hK K) | ((first | refine sB ?_ | (with_reducible first | refine ops_cons (fun K hK => ?_) | refine opsd_cons (fun K hK => ?_) | refine W_reg lv27MdX ?_ | refine W_drw lv27MdX (by kernel_rfl) ?_) | ((with_reducible refine opsd_nil ?_); refine And.intro (by kernel_rfl) ?_) | with_reducible refine callV_snap ?_ | with_reducible refine And.intro (fun h => ?_) (fun h => ?_) | with_reducible refine And.intro (by omega) ?_); (try simp only [go_sem, seval, reduceCtorEq, hki, e0, hw', lv27MdX, Tryz.ntmps27, Tryz.results27, CkyS])) | fail)
    · have hw' : ¬ (L : Int) < (W[i] : Int) := by omega
      repeat' (first | refine sA ?_ | with_reducible refine W_tf rfl (fun h => ?_) (fun h => ?_) | ((with_reducible first | refine hK _ ?_ | refine hK _ _ ?_); clear hK K) | ((first | refine sB ?_ | (with_reducible first | refine ops_cons (fun K hK => ?_) | refine opsd_cons (fun K hK => ?_) | refine W_reg lv27MdX ?_ | refine W_drw lv27MdX (by kernel_rfl) ?_) | ((with_reducible refine opsd_nil ?_); refine And.intro (by kernel_rfl) ?_) | with_reducible refine callV_snap ?_ | with_reducible refine And.intro (fun h => ?_) (fun h => ?_) | with_reducible refine And.intro (by omega) ?_); (try simp only [go_sem, seval, reduceCtorEq, hki, e0, hw', lv27MdX, Tryz.ntmps27, Tryz.results27, CkyS])) | fail)
      refine ⟨i + 1, [0], ⟨by omega, fun j h hj => ?_⟩, by omega, ?_⟩
      · by_cases hji : j = i
        · subst hji; omega
        · exact hT j h (by omega)
      · simp [go_sem]
  have hki : ¬ (i : Int) < W.length := by omega
  have hn : ¬ W.any (fun w => decide (L < w)) = true := fun h => by
    obtain ⟨w, hw, hb⟩ := List.any_eq_true.1 h
    obtain ⟨j, hj, rfl⟩ := List.mem_iff_getElem.1 hw
    have := hT j hj (by omega)
    simp only [decide_eq_true_eq] at hb
    omega
  rw [if_neg hn]
  clear hT hn
  repeat' (first | refine sA ?_ | with_reducible refine W_tf rfl (fun h => ?_) (fun h => ?_) | ((with_reducible first | refine hK _ ?_ | refine hK _ _ ?_); clear hK K) | ((first | refine sB ?_ | (with_reducible first | refine ops_cons (fun K hK => ?_) | refine opsd_cons (fun K hK => ?_) | refine W_reg lv27MdX ?_ | refine W_drw lv27MdX (by kernel_rfl) ?_) | ((with_reducible refine opsd_nil ?_); refine And.intro (by kernel_rfl) ?_) | with_reducible refine callV_snap ?_ | with_reducible refine And.intro (fun h => ?_) (fun h => ?_) | with_reducible refine And.intro (by omega) ?_); (try simp only [go_sem, seval, reduceCtorEq, hki, lv27MdX, Tryz.ntmps27, Tryz.results27, CkyS])) | fail)
  refine W_loop (fun i : Nat => ⟨[(1, .ptr 0 0), (5, iv (i : Int))], [some (.box 40 [.d (.sl (al.map encDB)), .d (.sl (mp.map encU)), .d (.sl (cs.map encCl)), .d (.sl (W.map encU)), wv (L : Int)])]⟩) (fun i => i ≤ W.length ∧ ∀ j (h : j < W.length), j < i → ∀ k (hk : k < j), W[j] ≠ 0 → W[j] ≠ W[k]) (fun i => W.length - i) 0 ⟨Nat.zero_le _, fun _ _ h => by omega⟩ [0] ?_ ?_
  · simp [go_sem]
  rintro i ⟨hi, hT⟩
  by_cases hlt : i < W.length
  case neg =>
    have hki : ¬ (i : Int) < W.length := by omega
    rw [twc_no (fun i hi k hk => hT i hi (by omega) k hk), if_neg (by decide)]
    repeat' (first | refine sA ?_ | with_reducible refine W_tf rfl (fun h => ?_) (fun h => ?_) | ((with_reducible first | refine hK _ ?_ | refine hK _ _ ?_); clear hK K) | ((first | refine sB ?_ | (with_reducible first | refine ops_cons (fun K hK => ?_) | refine opsd_cons (fun K hK => ?_) | refine W_reg lv27MdX ?_ | refine W_drw lv27MdX (by kernel_rfl) ?_) | ((with_reducible refine opsd_nil ?_); refine And.intro (by kernel_rfl) ?_) | with_reducible refine callV_snap ?_ | with_reducible refine And.intro (fun h => ?_) (fun h => ?_) | with_reducible refine And.intro (by omega) ?_); (try simp only [go_sem, seval, reduceCtorEq, hki, lv27MdX, Tryz.ntmps27, Tryz.results27, CkyS])) | fail)
  have hki : (i : Int) < W.length := by omega
  have e0 : encU W[i] = [.int .u64 (W[i] : Int)] := rfl
  repeat' (first | refine sA ?_ | with_reducible refine W_tf rfl (fun h => ?_) (fun h => ?_) | ((with_reducible first | refine hK _ ?_ | refine hK _ _ ?_); clear hK K) | ((first | refine sB ?_ | (with_reducible first | refine ops_cons (fun K hK => ?_) | refine opsd_cons (fun K hK => ?_) | refine W_reg lv27MdX ?_ | refine W_drw lv27MdX (by kernel_rfl) ?_) | ((with_reducible refine opsd_nil ?_); refine And.intro (by kernel_rfl) ?_) | with_reducible refine callV_snap ?_ | with_reducible refine And.intro (fun h => ?_) (fun h => ?_) | with_reducible refine And.intro (by omega) ?_); (try simp only [go_sem, seval, reduceCtorEq, hki, lv27MdX, Tryz.ntmps27, Tryz.results27, CkyS])) | fail)
  refine W_loop (fun k : Nat => ⟨[(1, .ptr 0 0), (5, iv (i : Int)), (6, iv (k : Int))], [some (.box 40 [.d (.sl (al.map encDB)), .d (.sl (mp.map encU)), .d (.sl (cs.map encCl)), .d (.sl (W.map encU)), wv (L : Int)])]⟩) (fun k => k ≤ i ∧ ∀ q (hq : q < k) (hqi : q < W.length), W[i] ≠ 0 → W[i] ≠ W[q]) (fun k => i - k) 0 ⟨Nat.zero_le _, fun _ h => by omega⟩ [0] ?_ ?_
  · simp [go_sem]
  rintro k ⟨hk, hQ⟩
  by_cases hlk : k < i
  case neg =>
    have hkk : ¬ (k : Int) < (i : Int) := by omega
    obtain rfl : k = i := by omega
    repeat' (first | refine sA ?_ | with_reducible refine W_tf rfl (fun h => ?_) (fun h => ?_) | ((with_reducible first | refine hK _ ?_ | refine hK _ _ ?_); clear hK K) | ((first | refine sB ?_ | (with_reducible first | refine ops_cons (fun K hK => ?_) | refine opsd_cons (fun K hK => ?_) | refine W_reg lv27MdX ?_ | refine W_drw lv27MdX (by kernel_rfl) ?_) | ((with_reducible refine opsd_nil ?_); refine And.intro (by kernel_rfl) ?_) | with_reducible refine callV_snap ?_ | with_reducible refine And.intro (fun h => ?_) (fun h => ?_) | with_reducible refine And.intro (by omega) ?_); (try simp only [go_sem, seval, reduceCtorEq, hkk, lv27MdX, Tryz.ntmps27, Tryz.results27, CkyS])) | fail)
    refine ⟨k + 1, [0], ⟨by omega, fun j h hj q hq => ?_⟩, by omega, ?_⟩
    · by_cases hji : j = k
      · subst hji; exact hQ q hq (by omega)
      · exact hT j h (by omega) q hq
    · simp [go_sem]
  have hkk : (k : Int) < (i : Int) := by omega
  have hkW : (k : Int) < W.length := by omega
  have hlkW : k < W.length := by omega
  have e1 : encU W[k] = [.int .u64 (W[k] : Int)] := rfl
  by_cases h0 : W[i] = 0
  · have h0' : (W[i] : Int) = 0 := by omega
    repeat' (first | refine sA ?_ | with_reducible refine W_tf rfl (fun h => ?_) (fun h => ?_) | ((with_reducible first | refine hK _ ?_ | refine hK _ _ ?_); clear hK K) | ((first | refine sB ?_ | (with_reducible first | refine ops_cons (fun K hK => ?_) | refine opsd_cons (fun K hK => ?_) | refine W_reg lv27MdX ?_ | refine W_drw lv27MdX (by kernel_rfl) ?_) | ((with_reducible refine opsd_nil ?_); refine And.intro (by kernel_rfl) ?_) | with_reducible refine callV_snap ?_ | with_reducible refine And.intro (fun h => ?_) (fun h => ?_) | with_reducible refine And.intro (by omega) ?_); (try simp only [go_sem, seval, reduceCtorEq, hki, hkk, hkW, e0, e1, h0', lv27MdX, Tryz.ntmps27, Tryz.results27, CkyS])) | fail)
    refine ⟨k + 1, [0], ⟨by omega, fun q hq hqi h => absurd h0 h⟩, by omega, ?_⟩
    simp [go_sem]
  · have h0' : ¬ (W[i] : Int) = 0 := by omega
    by_cases he : W[i] = W[k]
    · have he' : (W[i] : Int) = (W[k] : Int) := by omega
      have h0k : ¬ (W[k] : Int) = 0 := by omega
      rw [twc_hit hlt hlk h0 he, if_pos rfl]
      repeat' (first | refine sA ?_ | with_reducible refine W_tf rfl (fun h => ?_) (fun h => ?_) | ((with_reducible first | refine hK _ ?_ | refine hK _ _ ?_); clear hK K) | ((first | refine sB ?_ | (with_reducible first | refine ops_cons (fun K hK => ?_) | refine opsd_cons (fun K hK => ?_) | refine W_reg lv27MdX ?_ | refine W_drw lv27MdX (by kernel_rfl) ?_) | ((with_reducible refine opsd_nil ?_); refine And.intro (by kernel_rfl) ?_) | with_reducible refine callV_snap ?_ | with_reducible refine And.intro (fun h => ?_) (fun h => ?_) | with_reducible refine And.intro (by omega) ?_); (try simp only [go_sem, seval, reduceCtorEq, hki, hkk, hkW, e0, e1, h0', h0k, he', lv27MdX, Tryz.ntmps27, Tryz.results27, CkyS])) | fail)
    · have he' : ¬ (W[i] : Int) = (W[k] : Int) := by omega
      repeat' (first | refine sA ?_ | with_reducible refine W_tf rfl (fun h => ?_) (fun h => ?_) | ((with_reducible first | refine hK _ ?_ | refine hK _ _ ?_); clear hK K) | ((first | refine sB ?_ | (with_reducible first | refine ops_cons (fun K hK => ?_) | refine opsd_cons (fun K hK => ?_) | refine W_reg lv27MdX ?_ | refine W_drw lv27MdX (by kernel_rfl) ?_) | ((with_reducible refine opsd_nil ?_); refine And.intro (by kernel_rfl) ?_) | with_reducible refine callV_snap ?_ | with_reducible refine And.intro (fun h => ?_) (fun h => ?_) | with_reducible refine And.intro (by omega) ?_); (try simp only [go_sem, seval, reduceCtorEq, hki, hkk, hkW, e0, e1, h0', he', lv27MdX, Tryz.ntmps27, Tryz.results27, CkyS])) | fail)
      refine ⟨k + 1, [0], ⟨by omega, fun q hq hqi h => ?_⟩, by omega, ?_⟩
      · by_cases hqk : q = k
        · subst hqk; exact he
        · exact hQ q (by omega) hqi h
      · simp [go_sem]
end Go.Proofs.YtpocnjliigjidaaGreat
