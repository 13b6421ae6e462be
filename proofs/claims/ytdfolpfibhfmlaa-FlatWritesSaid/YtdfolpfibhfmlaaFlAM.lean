/- A flat memory: what the laws need of the operations' answers. -/
import Derived.Test.YtdfolpfibhfmlaaFlAL
namespace Go.Proofs.Ytdfolpfibhfmlaa
open Go.RowKit
set_option maxRecDepth 100000
set_option linter.unusedSimpArgs false
set_option linter.unusedVariables false

abbrev lv3FlAM : List (Nat × List Nat) := [(0, [1, 2, 3, 4, 5]), (1, [1, 2, 3, 4, 5, 18]), (2, [10]), (3, [1, 2, 3, 4, 5, 11]), (4, [1, 2, 3, 4, 5, 11, 12, 13]), (5, [5, 11, 12, 13, 14, 15]), (6, [10])]
abbrev lv4FlAM : List (Nat × List Nat) := [(0, [1, 2, 3, 4]), (1, [1, 2, 3, 4, 22]), (2, [8]), (3, [1, 2, 3, 4, 9]), (4, [1, 2, 3, 4, 9, 10, 11]), (5, [1, 2, 3, 4, 9, 10, 11, 12, 13]), (6, [1, 2, 3, 4, 9, 56]), (7, [8]), (8, [1, 2, 3, 4, 9, 11, 14]), (9, [1, 3, 4, 9, 11, 13, 14, 15]), (10, [1, 3, 4, 9, 11, 13, 14, 15, 16, 17]), (11, [4, 9, 11, 13, 14, 15, 16, 17, 18, 19]), (12, [8])]
abbrev SmfRS : Spec := SmfS
theorem SmfR_ok : Ok Try.prog 15 SmfRS := Smf_ok
theorem SmfR_at (al : List Bool) (mp : List Nat) (cs : List Cl) (h1 : al.length ≤ 1000000) (h2 : mp.length ≤ 1000000) (h3 : cs.length ≤ 1000000) : SmfRS.rel [fm al mp cs, fm al mp cs] [] (bv true) [] := by
  have := Smf_at al al mp mp cs cs h1 h1 h2 h2 h3 h3
  rw [decide_eq_true (⟨rfl, rfl, rfl⟩ : al = al ∧ mp = mp ∧ cs = cs)] at this
  exact this
/-- an answer is no larger than it may be -/
def Fits (al : List Bool) (mp : List Nat) (cs : List Cl) (r : FSt × Int) : Prop := r.1.1.length ≤ al.length ∧ r.1.2.1.length ≤ mp.length ∧ r.1.2.2.length ≤ 2 * cs.length + 1
theorem fits_nil (al : List Bool) (mp : List Nat) (cs : List Cl) (e : Int) : Fits al mp cs (nilF, e) := ⟨by simp, by simp, by simp⟩
theorem spn_fits (al : List Bool) (mp : List Nat) (cs : List Cl) (p : Int) : Fits al mp cs (spnF al mp cs p) := by
  unfold spnF
  split
  · exact fits_nil _ _ _ _
  · split
    · exact fits_nil _ _ _ _
    · exact ⟨by simp, by simp, by dsimp only; omega⟩
theorem ext_fits (al : List Bool) (mp : List Nat) (cs : List Cl) (p : Int) : Fits al mp cs (extF al mp cs p) := by
  have := woC_len cs p 0 63
  unfold extF
  split
  · exact fits_nil _ _ _ _
  · exact ⟨by simp, by simp, by dsimp only; omega⟩
theorem map_fits (al : List Bool) (mp : List Nat) (cs : List Cl) (p f t : Int) : Fits al mp cs (mapF al mp cs p f t) := by
  unfold mapF
  split
  · exact fits_nil _ _ _ _
  · split
    · exact fits_nil _ _ _ _
    · exact ⟨by simp, by simp, by dsimp only; omega⟩
theorem unm_fits (al : List Bool) (mp : List Nat) (cs : List Cl) (p f t : Int) : Fits al mp cs (unmF al mp cs p f t) := by
  have := woC_len cs p f t
  unfold unmF
  split
  · exact fits_nil _ _ _ _
  · split
    · exact fits_nil _ _ _ _
    · exact ⟨by simp, by simp, by dsimp only; omega⟩
theorem wrC_len (cs : List Cl) (c : Cl) : (wrC cs c).length ≤ cs.length + 1 := by
  have : (rmK cs (ck3 c)).length ≤ cs.length := List.length_filter_le _ _
  unfold wrC
  split
  · omega
  · rw [putC_len]; omega
theorem wrt_fits (al : List Bool) (mp : List Nat) (cs : List Cl) (p g w : Int) (v : Nat) : Fits al mp cs (wrtF al mp cs p g w v) := by
  have := wrC_len cs (p, g, w, v)
  unfold wrtF
  split
  · exact fits_nil _ _ _ _
  · exact ⟨by simp, by simp, by dsimp only; omega⟩
theorem frk_fits (al : List Bool) (mp : List Nat) (cs : List Cl) (p q : Int) : Fits al mp cs (frkF al mp cs p q) := by
  have := frkT_len cs p q cs.length
  rw [frkT_all] at this
  unfold frkF
  split
  · exact fits_nil _ _ _ _
  · exact ⟨by simp, by simp, by dsimp only; omega⟩
theorem pcO_len8 (al : List Bool) (mp : List Nat) (cs : List Cl) (p g : Int) : (pcO al mp cs p g).length = 8 := by
  by_cases h : mapE al mp cs p g 0 = 0
  · exact pcO_len (flchk_wrd (lvs_zero (mapE_zero h).1).1) p g
  · unfold pcO; rw [if_neg h]; rfl
abbrev Pg8S : Spec := PgS
theorem Pg8_ok : Ok Try.prog 20 Pg8S := Pg_ok
theorem Pg8_at (al : List Bool) (mp : List Nat) (cs : List Cl) (p g : Int) (a b c d e f x y : Nat) (M : Int) (h : U64 mp) (h1 : al.length ≤ 1000000) (h2 : mp.length ≤ 1000000) (h3 : cs.length ≤ 1000000) (hC : pcO al mp cs p g = [a, b, c, d, e, f, x, y]) (hM : mapE al mp cs p g 0 = M) :
    Pg8S.rel [fm al mp cs, iv p, iv g] [] (.tup [.agg [wv (a : Int), wv (b : Int), wv (c : Int), wv (d : Int), wv (e : Int), wv (f : Int), wv (x : Int), wv (y : Int)], iv M]) [] := rPg8_at al mp cs p g a b c d e f x y M h h1 h2 h3 hC hM
abbrev rSmeS : Spec := SmeS
theorem rSme_at (al : List Bool) (mp : List Nat) (cs : List Cl) (p q : Int) (hu : U64 mp) (h1 : al.length ≤ 1000000) (h2 : mp.length ≤ 1000000) (h3 : cs.length ≤ 900000) : rSmeS.rel [fm al mp cs, iv p, iv q] [] (.tup [bv (if lvsE al mp cs [p, q] = 0 then smB mp cs p q else false), iv (lvsE al mp cs [p, q])]) [] := Sme_at al mp cs p q hu h1 h2 h3
def wsS : Spec := { al := true, rel := fun args ins res outs => ∃ (al : List Bool) (mp : List Nat) (cs : List Cl) (p g w : Int) (v : Nat), U64 mp ∧ args = [fm al mp cs, iv p, iv g, iv w, wv (v : Int)] ∧ ins = [] ∧ res = bv true ∧ outs = [] }
set_option maxHeartbeats 4000000 in
theorem ws_ok : Ok Try.prog 3 wsS := by
  refine fn_ok wsS Try.func3 rfl rfl ?_
  rintro args ins res outs ⟨al, mp, cs, p, g, w, v, hu, rfl, rfl, rfl, rfl⟩
  refine ⟨by simp [Try.ntmps3], fun w0 V Bo mu0 => ?_⟩
  cases hl : lit al mp cs with
  | false =>
    repeat' (first
      | (with_reducible first | refine W_seq ?_ | refine W_condT rfl ?_ | refine W_condF rfl ?_ | refine W_tf rfl (fun h => ?_) (fun h => ?_) | refine endQ_ret ?_ | refine endQ_normal ?_)
      | ((with_reducible first | refine hK _ ?_ | refine hK _ _ ?_); clear hK K)
      | ((first | (with_reducible first | refine ops_cons (fun K hK => ?_) | refine ops_nil ?_) | with_reducible refine callV_snap ?_ | ((with_reducible refine call_go litS lit_ok ?_); refine ⟨(by first | exact alOk_nil _ | exact alOk_f rfl), _, _, lit_at al mp cs, ?_⟩) | ((with_reducible refine call_go awkS awk_ok ?_); refine ⟨(by first | exact alOk_nil _ | exact alOk_f rfl), _, _, awk_at , ?_⟩) | (with_reducible first | refine W_reg lv3FlAM ?_ | refine W_skip ?_ | refine W_ret ?_ | refine end_at0 ?_) | (with_reducible refine And.intro (fun h => ?_) (fun h => ?_)) | (with_reducible refine And.intro (by omega) ?_)); (try simp only [go_sem, seval, reduceCtorEq, hl, lv3FlAM, Try.ntmps3, Try.results3, wsS]))
      | fail)
  | true =>
    obtain ⟨h1, h2, h3⟩ := of_decide_eq_true hl
    have hf := wrt_fits al mp cs p g w v
    have W0 := WrtF_at al mp cs p g w v hu (by omega) (by omega) (by omega)
    generalize wrtF al mp cs p g w v = R at *
    obtain ⟨⟨A, M, C⟩, e⟩ := R
    obtain ⟨f1, f2, f3⟩ := hf
    dsimp only at f1 f2 f3
    have WrtF_at : WrtFS.rel [fm al mp cs, iv p, iv g, iv w, wv (v : Int)] [] (.tup [fm A M C, iv e]) [] := W0
    have rWrtF_at : rWrtFS.rel [fm al mp cs, iv p, iv g, iv w, wv (v : Int)] [] (.tup [fm A M C, iv e]) [] := W0
    repeat' (first
      | (with_reducible first | refine W_seq ?_ | refine W_condT rfl ?_ | refine W_condF rfl ?_ | refine W_tf rfl (fun h => ?_) (fun h => ?_) | refine endQ_ret ?_ | refine endQ_normal ?_)
      | ((with_reducible first | refine hK _ ?_ | refine hK _ _ ?_); clear hK K)
      | ((first | (with_reducible first | refine ops_cons (fun K hK => ?_) | refine ops_nil ?_) | with_reducible refine callV_snap ?_ | ((with_reducible refine call_go litS lit_ok ?_); refine ⟨(by first | exact alOk_nil _ | exact alOk_f rfl), _, _, lit_at al mp cs, ?_⟩) | ((with_reducible refine call_go awkS awk_ok ?_); refine ⟨(by first | exact alOk_nil _ | exact alOk_f rfl), _, _, awk_at , ?_⟩) | ((with_reducible refine call_go OwfFS OwfF_ok ?_); refine ⟨(by first | exact alOk_nil _ | exact alOk_f rfl), _, _, OwfF_at al mp cs (by omega) (by omega) (by omega), ?_⟩) | ((with_reducible refine call_go WrtFS WrtF_ok ?_); refine ⟨(by first | exact alOk_nil _ | exact alOk_f rfl), _, _, WrtF_at , ?_⟩) | ((with_reducible refine call_go rWrtFS rWrtF_ok ?_); refine ⟨(by first | exact alOk_nil _ | exact alOk_f rfl), _, _, rWrtF_at , ?_⟩) | ((with_reducible refine call_go SmfRS SmfR_ok ?_); refine ⟨(by first | exact alOk_nil _ | exact alOk_f rfl), _, _, SmfR_at A M C (by omega) (by omega) (by omega), ?_⟩) | ((with_reducible refine call_go SmfRS SmfR_ok ?_); refine ⟨(by first | exact alOk_nil _ | exact alOk_f rfl), _, _, SmfR_at al mp cs (by omega) (by omega) (by omega), ?_⟩) | (with_reducible first | refine W_reg lv3FlAM ?_ | refine W_skip ?_ | refine W_ret ?_ | refine end_at0 ?_) | (with_reducible refine And.intro (fun h => ?_) (fun h => ?_)) | (with_reducible refine And.intro (by omega) ?_)); (try simp only [go_sem, seval, reduceCtorEq, hl, lv3FlAM, Try.ntmps3, Try.results3, wsS]))
      | fail)
def rsS : Spec := { al := true, rel := fun args ins res outs => ∃ (al : List Bool) (mp : List Nat) (cs : List Cl) (p g w : Int), U64 mp ∧ args = [fm al mp cs, iv p, iv g, iv w] ∧ ins = [] ∧ res = bv true ∧ outs = [] }
set_option maxHeartbeats 4000000 in
theorem rs_ok : Ok Try.prog 4 rsS := by
  refine fn_ok rsS Try.func4 rfl rfl ?_
  rintro args ins res outs ⟨al, mp, cs, p, g, w, hu, rfl, rfl, rfl, rfl⟩
  refine ⟨by simp [Try.ntmps4], fun w0 V Bo mu0 => ?_⟩
  cases hl : lit al mp cs with
  | false =>
    repeat' (first
      | (with_reducible first | refine W_seq ?_ | refine W_condT rfl ?_ | refine W_condF rfl ?_ | refine W_tf rfl (fun h => ?_) (fun h => ?_) | refine endQ_ret ?_ | refine endQ_normal ?_)
      | ((with_reducible first | refine hK _ ?_ | refine hK _ _ ?_); clear hK K)
      | ((first | (with_reducible first | refine ops_cons (fun K hK => ?_) | refine opsd_cons (fun K hK => ?_) | refine ops_nil ?_) | ((with_reducible refine opsd_nil ?_); refine And.intro (by kernel_rfl) ?_) | with_reducible refine callV_snap ?_ | ((with_reducible refine call_go litS lit_ok ?_); refine ⟨(by first | exact alOk_nil _ | exact alOk_f rfl), _, _, lit_at al mp cs, ?_⟩) | ((with_reducible refine call_go awkS awk_ok ?_); refine ⟨(by first | exact alOk_nil _ | exact alOk_f rfl), _, _, awk_at , ?_⟩) | (with_reducible first | refine W_reg lv4FlAM ?_ | refine W_drw lv4FlAM (by kernel_rfl) ?_ | refine W_skip ?_ | refine W_ret ?_ | refine end_at0 ?_) | (with_reducible refine And.intro (fun h => ?_) (fun h => ?_)) | (with_reducible refine And.intro (by omega) ?_)); (try simp only [go_sem, seval, reduceCtorEq, hl, lv4FlAM, Try.ntmps4, Try.results4, rsS]))
      | fail)
  | true =>
    obtain ⟨h1, h2, h3⟩ := of_decide_eq_true hl
    have b4 := Try.underlying4
    have R0 := Rd_at al mp cs p g w hu (by omega) (by omega) (by omega)
    generalize (if mapE al mp cs p g w = 0 then rdV cs p g w.toNat else 0) = rv at *
    generalize mapE al mp cs p g w = re at *
    have Rd_at : RdS.rel [fm al mp cs, iv p, iv g, iv w] [] (.tup [wv (rv : Int), iv re]) [] := R0
    have rRd_at : rRdS.rel [fm al mp cs, iv p, iv g, iv w] [] (.tup [wv (rv : Int), iv re]) [] := R0
    obtain ⟨c0, c1, c2, c3, c4, c5, c6, c7, hC⟩ := len8 (pcO_len8 al mp cs p g)
    obtain ⟨M1, hM1⟩ : ∃ M, mapE al mp cs p g 0 = M := ⟨_, rfl⟩
    have S0 := Sme_at al mp cs p w hu (by omega) (by omega) (by omega)
    obtain ⟨sb, hsb⟩ : ∃ b, (if lvsE al mp cs [p, w] = 0 then smB mp cs p w else false) = b := ⟨_, rfl⟩
    rw [hsb] at S0
    generalize lvsE al mp cs [p, w] = se at *
    have Sme_at : SmeS.rel [fm al mp cs, iv p, iv w] [] (.tup [bv sb, iv se]) [] := S0
    have rSme_at : rSmeS.rel [fm al mp cs, iv p, iv w] [] (.tup [bv sb, iv se]) [] := S0
    have hbb : (sb == sb) = true := by simp
    have C0 := Ck_at al mp cs hu (by omega) (by omega) (by omega)
    generalize flchk al mp cs = ce at *
    have Ck_at : CkS.rel [fm al mp cs] [] (iv ce) [] := C0
    have rCk_at : rCkS.rel [fm al mp cs] [] (iv ce) [] := C0
    repeat' (first
      | (with_reducible first | refine W_seq ?_ | refine W_condT rfl ?_ | refine W_condF rfl ?_ | refine W_tf rfl (fun h => ?_) (fun h => ?_) | refine endQ_ret ?_ | refine endQ_normal ?_)
      | ((with_reducible first | refine hK _ ?_ | refine hK _ _ ?_); clear hK K)
      | ((with_reducible refine And.intro eqt_ct ?_); (try simp only [go_sem, seval, reduceCtorEq]))
      | ((first | (with_reducible first | refine ops_cons (fun K hK => ?_) | refine opsd_cons (fun K hK => ?_) | refine ops_nil ?_) | ((with_reducible refine opsd_nil ?_); refine And.intro (by kernel_rfl) ?_) | with_reducible refine callV_snap ?_ | ((with_reducible refine call_go litS lit_ok ?_); refine ⟨(by first | exact alOk_nil _ | exact alOk_f rfl), _, _, lit_at al mp cs, ?_⟩) | ((with_reducible refine call_go awkS awk_ok ?_); refine ⟨(by first | exact alOk_nil _ | exact alOk_f rfl), _, _, awk_at , ?_⟩) | ((with_reducible refine call_go OwfFS OwfF_ok ?_); refine ⟨(by first | exact alOk_nil _ | exact alOk_f rfl), _, _, OwfF_at al mp cs (by omega) (by omega) (by omega), ?_⟩) | ((with_reducible refine call_go RdS Rd_ok ?_); refine ⟨(by first | exact alOk_nil _ | exact alOk_f rfl), _, _, Rd_at , ?_⟩) | ((with_reducible refine call_go rRdS rRd_ok ?_); refine ⟨(by first | exact alOk_nil _ | exact alOk_f rfl), _, _, rRd_at , ?_⟩) | ((with_reducible refine call_go CkS Ck_ok ?_); refine ⟨(by first | exact alOk_nil _ | exact alOk_f rfl), _, _, Ck_at , ?_⟩) | ((with_reducible refine call_go rCkS rCk_ok ?_); refine ⟨(by first | exact alOk_nil _ | exact alOk_f rfl), _, _, rCk_at , ?_⟩) | ((with_reducible refine call_go Pg8S Pg8_ok ?_); refine ⟨(by first | exact alOk_nil _ | exact alOk_f rfl), _, _, Pg8_at al mp cs p g _ _ _ _ _ _ _ _ M1 hu (by omega) (by omega) (by omega) hC hM1, ?_⟩) | ((with_reducible refine call_go rPg8S rPg8_ok ?_); refine ⟨(by first | exact alOk_nil _ | exact alOk_f rfl), _, _, rPg8_at al mp cs p g _ _ _ _ _ _ _ _ M1 hu (by omega) (by omega) (by omega) hC hM1, ?_⟩) | ((with_reducible refine call_go SmeS Sme_ok ?_); refine ⟨(by first | exact alOk_nil _ | exact alOk_f rfl), _, _, Sme_at , ?_⟩) | ((with_reducible refine call_go rSmeS rSme_ok ?_); refine ⟨(by first | exact alOk_nil _ | exact alOk_f rfl), _, _, rSme_at , ?_⟩) | ((with_reducible refine call_go SmfRS SmfR_ok ?_); refine ⟨(by first | exact alOk_nil _ | exact alOk_f rfl), _, _, SmfR_at al mp cs (by omega) (by omega) (by omega), ?_⟩) | (with_reducible first | refine W_reg lv4FlAM ?_ | refine W_drw lv4FlAM (by kernel_rfl) ?_ | refine W_skip ?_ | refine W_ret ?_ | refine end_at0 ?_) | (with_reducible refine And.intro (fun h => ?_) (fun h => ?_)) | (with_reducible refine And.intro (by omega) ?_)); (try simp only [go_sem, seval, reduceCtorEq, hl, b4, hbb, lv4FlAM, Try.ntmps4, Try.results4, rsS]))
      | fail)
end Go.Proofs.Ytdfolpfibhfmlaa
