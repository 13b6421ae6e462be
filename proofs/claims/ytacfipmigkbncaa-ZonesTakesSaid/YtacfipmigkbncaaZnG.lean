/- ZonesLooks, by the engine. -/
import Derived.Test.YtacfipmigkbncaaZnF
namespace Go.Proofs.Ytacfipmigkbncaa
open Go.RowKit
set_option maxRecDepth 100000
set_option linter.unusedSimpArgs false
set_option linter.unusedVariables false

abbrev lv5ZnG : List (Nat × List Nat) := [(0, [1, 2, 3, 4]), (1, [1, 2, 3, 4, 24]), (2, [8]), (3, [1, 2, 3, 4, 9]), (4, [1, 2, 3, 4, 9, 10, 11]), (5, [1, 4, 9, 10, 11, 12, 13]), (6, [1, 4, 9, 55]), (7, [8]), (8, [1, 4, 9, 11, 14]), (9, [1, 4, 9, 11, 13, 14, 15]), (10, [1, 4, 9, 75]), (11, [8]), (12, [1, 4, 9, 11, 16]), (13, [4, 9, 11, 13, 16, 17]), (14, [4, 9, 95]), (15, [8]), (16, [4, 9, 11, 14]), (17, [4, 9, 11, 13, 14, 15]), (18, [4, 9, 11, 13, 14, 15, 18, 19]), (19, [4, 9, 11, 13, 14, 15, 18, 19, 20, 21]), (20, [8])]
theorem zzn_le {a b : Zn} (ha : a.2.length ≤ 1000000) (hb : b.2.length ≤ 1000000) : ∀ z ∈ [toZ a, toZ b], z.2.length ≤ 1000000 := by
  intro z hz
  simp only [List.mem_cons, List.not_mem_nil, or_false] at hz
  rcases hz with rfl | rfl <;> simpa [toZ]
theorem newz_ex (n low : Int) : ∃ (l : Int) (zs : List Zo) (e : Int), zs.length ≤ 1000000 ∧ (∀ z ∈ zs, z.2.length ≤ 1000000) ∧ (frzS NewZS).rel [iv n, iv low] [] (.tup [zzv l zs, iv e]) [] := by
  by_cases h : nzBad n low
  · exact ⟨0, [], 2, by simp, by simp, rfl, rfl, _, _, .inl ⟨n, low, h, rfl, rfl, rfl, rfl⟩, by simp [frz, frzA, frzAL, frzL, frz1]⟩
  · unfold nzBad at h
    obtain ⟨N, rfl⟩ := Int.eq_ofNat_of_zero_le (show 0 ≤ low by omega)
    obtain ⟨M, hM⟩ := Int.eq_ofNat_of_zero_le (show 0 ≤ n - N by omega)
    obtain rfl : n = ((N + M : Nat) : Int) := by omega
    have := newz_at (N := N) (M := M) (by omega) (by omega)
    rw [← zz2_toZ] at this
    refine ⟨N, [toZ (newZ N), toZ (newZ M)], 0, by simp, zzn_le ?_ ?_, this⟩
    · exact bld_le (by omega)
    · exact bld_le (by omega)
theorem isz_ex (low : Int) (zs : List Zo) (f : Int) (h1 : zs.length ≤ 1000000) (h2 : ∀ z ∈ zs, z.2.length ≤ 1000000) : ∃ (v : Bool) (e : Int), isZS.rel [zzv low zs, iv f] [] (.tup [bv v, iv e]) [] := by
  by_cases h : (whiE low zs f).2 = 0
  · have hc : zzchk low zs = 0 := by
      unfold whiE at h
      split at h
      · rename_i hc; exact absurd h hc
      · rename_i hc; simpa using hc
    obtain ⟨a, b, rfl, rfl, hv⟩ := vzz_of hc
    unfold whiE at h
    rw [if_neg (by simpa using hc)] at h
    have h' : (zof a.1 ((a.1 : Int) + (b.1 : Int)) f 1).2 = 0 := h
    clear h
    unfold zof at h'
    have hf : 0 ≤ f ∧ f < (a.1 : Int) + (b.1 : Int) := by
      by_cases c1 : 0 ≤ f ∧ f ≤ (a.1 : Int) - 1
      · omega
      · rw [if_neg c1] at h'
        by_cases c2 : (a.1 : Int) ≤ f ∧ f ≤ (a.1 : Int) + (b.1 : Int) - 1
        · omega
        · rw [if_neg c2] at h'; cases h'
    obtain ⟨q, rfl⟩ := Int.eq_ofNat_of_zero_le hf.1
    rw [zz2_eq, zz2_toZ]
    exact ⟨_, 0, .inr ⟨a, b, q, hv, by omega, rfl, rfl, rfl, rfl⟩⟩
  · exact ⟨false, _, .inl ⟨low, zs, f, h1, h2, h, rfl, rfl, rfl, rfl⟩⟩
abbrev rIzS : Spec := isZS
abbrev IzS : Spec := isZS
theorem Iz_ok : Ok Try.prog 26 IzS := isZ_ok
theorem rIz_ok : Ok Try.prog 27 rIzS := risZ_ok
theorem rWhi_at (low : Int) (zs : List Zo) (f : Int) (h : zs.length ≤ 1000000) (h2 : ∀ z ∈ zs, z.2.length ≤ 1000000) : rWhiS.rel [zzv low zs, iv f] [] (.tup [iv (whiE low zs f).1, iv (whiE low zs f).2]) [] := Whi_at low zs f h h2
theorem tsE_len (low : Int) (zs : List Zo) : (tsE low zs).length ≤ 1000000 := by
  rcases tsE_cases low zs with ⟨_, e⟩ | ⟨x, y, _, e, _⟩ <;> rw [e] <;> simp
def lksS : Spec := { rel := fun args ins res outs => ∃ (low : Int) (zs : List Zo) (f n l : Int), zs.length ≤ 9223372036854775807 ∧ (∀ z ∈ zs, z.2.length ≤ 9223372036854775807) ∧ args = [zzv low zs, iv f, iv n, iv l] ∧ ins = [] ∧ res = bv true ∧ outs = [] }
set_option maxHeartbeats 8000000 in
theorem lks_ok : Ok Try.prog 5 lksS := by
  refine fn_ok lksS Try.func5 rfl rfl ?_
  rintro args ins res outs ⟨low, zs, f, n, l, hl, hz, rfl, rfl, rfl, rfl⟩
  refine ⟨by simp [Try.ntmps5], fun w0 V Bo mu0 => ?_⟩
  by_cases h1 : zs.length ≤ 3 ∧ ∀ z ∈ zs, z.2.length ≤ 130
  · have g := lght_at low zs hl hz
    rw [decide_eq_true h1] at g
    have lght_at : lghtS.rel [zzv low zs] [] (bv true) [] := g
    have hl6 : zs.length ≤ 1000000 := by omega
    have hz6 : ∀ z ∈ zs, z.2.length ≤ 1000000 := fun z hz => by have := h1.2 z hz; omega
    have ub := Try.underlying4
    obtain ⟨l1, z1, e1, L1, M1, hN⟩ := newz_ex n l
    obtain ⟨v2, e2, hI⟩ := isz_ex low zs f hl6 hz6
    have hvv : (v2 != v2) = false := by cases v2 <;> rfl
    have hT := tsF_ex low zs hl6 hz6
    have hTl := tsE_len low zs
    have NewZF_at : NewZFS.rel [iv n, iv l] [] (.tup [zzv l1 z1, iv e1]) [] := hN
    have rNewZF_at : rNewZFS.rel [iv n, iv l] [] (.tup [zzv l1 z1, iv e1]) [] := hN
    have Iz_at : IzS.rel [zzv low zs, iv f] [] (.tup [bv v2, iv e2]) [] := hI
    have rIz_at : rIzS.rel [zzv low zs, iv f] [] (.tup [bv v2, iv e2]) [] := hI
    have TsF_at : TsFS.rel [zzv low zs] [] (.tup [dI (tsE low zs), iv (zzchk low zs)]) [] := hT
    have rTsF_at : rTsFS.rel [zzv low zs] [] (.tup [dI (tsE low zs), iv (zzchk low zs)]) [] := hT
    repeat' (first
      | (with_reducible first | refine W_seq ?_ | refine W_condT rfl ?_ | refine W_condF rfl ?_ | refine W_tf rfl (fun h => ?_) (fun h => ?_) | refine endQ_ret ?_ | refine endQ_normal ?_)
      | ((with_reducible first | refine hK _ ?_ | refine hK _ _ ?_); clear hK K)
      | ((first | (with_reducible first | refine ops_cons (fun K hK => ?_) | refine opsd_cons (fun K hK => ?_) | refine ops_nil ?_) | ((with_reducible refine opsd_nil ?_); refine And.intro (by kernel_rfl) ?_) | with_reducible refine callV_snap ?_ | ((with_reducible refine call_go lghtS lght_ok ?_); refine ⟨(by first | exact alOk_nil _ | exact alOk_f rfl), _, _, lght_at , ?_⟩) | ((with_reducible refine call_go OwnZFS OwnZF_ok ?_); refine ⟨(by first | exact alOk_nil _ | exact alOk_f rfl), _, _, OwnZF_at low zs hl6 hz6, ?_⟩) | ((with_reducible refine call_go NewZFS NewZF_ok ?_); refine ⟨(by first | exact alOk_nil _ | exact alOk_f rfl), _, _, NewZF_at , ?_⟩) | ((with_reducible refine call_go rNewZFS rNewZF_ok ?_); refine ⟨(by first | exact alOk_nil _ | exact alOk_f rfl), _, _, rNewZF_at , ?_⟩) | ((with_reducible refine call_go CkzS Ckz_ok ?_); refine ⟨(by first | exact alOk_nil _ | exact alOk_f rfl), _, _, Ckz_at low zs hl6 hz6, ?_⟩) | ((with_reducible refine call_go rCkzS rCkz_ok ?_); refine ⟨(by first | exact alOk_nil _ | exact alOk_f rfl), _, _, rCkz_at low zs hl6 hz6, ?_⟩) | ((with_reducible refine call_go WhiS Whi_ok ?_); refine ⟨(by first | exact alOk_nil _ | exact alOk_f rfl), _, _, Whi_at low zs f hl6 hz6, ?_⟩) | ((with_reducible refine call_go rWhiS rWhi_ok ?_); refine ⟨(by first | exact alOk_nil _ | exact alOk_f rfl), _, _, rWhi_at low zs f hl6 hz6, ?_⟩) | ((with_reducible refine call_go IzS Iz_ok ?_); refine ⟨(by first | exact alOk_nil _ | exact alOk_f rfl), _, _, Iz_at , ?_⟩) | ((with_reducible refine call_go rIzS rIz_ok ?_); refine ⟨(by first | exact alOk_nil _ | exact alOk_f rfl), _, _, rIz_at , ?_⟩) | ((with_reducible refine call_go TtS Tt_ok ?_); refine ⟨(by first | exact alOk_nil _ | exact alOk_f rfl), _, _, Tt_at low zs hl6 hz6, ?_⟩) | ((with_reducible refine call_go rTtS rTt_ok ?_); refine ⟨(by first | exact alOk_nil _ | exact alOk_f rfl), _, _, rTt_at low zs hl6 hz6, ?_⟩) | ((with_reducible refine call_go TsFS TsF_ok ?_); refine ⟨(by first | exact alOk_nil _ | exact alOk_f rfl), _, _, TsF_at , ?_⟩) | ((with_reducible refine call_go rTsFS rTsF_ok ?_); refine ⟨(by first | exact alOk_nil _ | exact alOk_f rfl), _, _, rTsF_at , ?_⟩) | ((with_reducible refine call_go SmZS SmZ_ok ?_); refine ⟨(by first | exact alOk_nil _ | exact alOk_f rfl), _, _, SmZ_at l1 z1 L1 M1, ?_⟩) | ((with_reducible refine call_go SameIS SameI_ok ?_); refine ⟨(by first | exact alOk_nil _ | exact alOk_f rfl), _, _, SameI_at (tsE low zs) hTl, ?_⟩) | ((with_reducible refine call_go SmZS SmZ_ok ?_); refine ⟨(by first | exact alOk_nil _ | exact alOk_f rfl), _, _, SmZ_at low zs hl6 hz6, ?_⟩) | ((with_reducible refine call_go awkS awk_ok ?_); refine ⟨(by first | exact alOk_nil _ | exact alOk_f rfl), _, _, awk_at , ?_⟩) | (with_reducible first | refine W_reg lv5ZnG ?_ | refine W_drw lv5ZnG (by kernel_rfl) ?_ | refine W_skip ?_ | refine W_ret ?_ | refine end_at0 ?_) | (with_reducible refine And.intro (fun h => ?_) (fun h => ?_)) | (with_reducible refine And.intro (by omega) ?_)); (try simp only [go_sem, seval, reduceCtorEq, ub, hvv, lv5ZnG, Try.ntmps5, Try.results5, lksS]))
      | fail)
  · have g := lght_at low zs hl hz
    rw [decide_eq_false h1] at g
    have lght_at : lghtS.rel [zzv low zs] [] (bv false) [] := g
    repeat' (first
      | (with_reducible first | refine W_seq ?_ | refine W_condT rfl ?_ | refine W_condF rfl ?_ | refine W_tf rfl (fun h => ?_) (fun h => ?_) | refine endQ_ret ?_ | refine endQ_normal ?_)
      | ((with_reducible first | refine hK _ ?_ | refine hK _ _ ?_); clear hK K)
      | ((first | (with_reducible first | refine ops_cons (fun K hK => ?_) | refine opsd_cons (fun K hK => ?_) | refine ops_nil ?_) | ((with_reducible refine opsd_nil ?_); refine And.intro (by kernel_rfl) ?_) | with_reducible refine callV_snap ?_ | ((with_reducible refine call_go lghtS lght_ok ?_); refine ⟨(by first | exact alOk_nil _ | exact alOk_f rfl), _, _, lght_at , ?_⟩) | ((with_reducible refine call_go awkS awk_ok ?_); refine ⟨(by first | exact alOk_nil _ | exact alOk_f rfl), _, _, awk_at , ?_⟩) | (with_reducible first | refine W_reg lv5ZnG ?_ | refine W_drw lv5ZnG (by kernel_rfl) ?_ | refine W_skip ?_ | refine W_ret ?_ | refine end_at0 ?_) | (with_reducible refine And.intro (fun h => ?_) (fun h => ?_)) | (with_reducible refine And.intro (by omega) ?_)); (try simp only [go_sem, seval, reduceCtorEq, lv5ZnG, Try.ntmps5, Try.results5, lksS]))
      | fail)
end Go.Proofs.Ytacfipmigkbncaa
