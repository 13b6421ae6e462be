/- ZonesKnown, by the engine. -/
import Derived.Test.YtacfipmigkbncaaZnM
namespace Go.Proofs.Ytacfipmigkbncaa
open Go.RowKit
set_option maxRecDepth 100000
set_option linter.unusedSimpArgs false
set_option linter.unusedVariables false

abbrev lv9ZnN : List (Nat × List Nat) := [(0, []), (1, [1, 2]), (2, [1, 2, 3, 4]), (3, [1, 2, 3, 4, 5, 7]), (4, [1, 2, 3, 4, 7, 8, 9, 10]), (5, [1, 2, 3, 4, 7, 9, 10, 13]), (6, [1, 83]), (7, [0]), (8, [1, 14]), (9, [1, 14, 15]), (10, [1, 14, 15, 16]), (11, [1, 14, 15, 16, 89]), (12, [1, 14, 15, 16]), (13, [1, 14, 15, 16, 17, 18, 19]), (14, [1, 14, 15, 16, 17, 107]), (15, [0]), (16, [1, 14, 15, 16]), (17, [1, 4]), (18, [1, 4, 7]), (19, [1, 2, 4, 7, 10]), (20, [1, 2, 4, 7, 10, 13]), (21, [1, 146]), (22, [0]), (23, [1, 4, 20]), (24, [1, 4, 7, 20, 21]), (25, [1, 4, 7, 10, 20, 21]), (26, [1, 4, 7, 10, 13, 20, 21, 23]), (27, [1, 4, 7, 10, 13, 20, 21, 23, 26]), (28, [4, 7, 10, 13, 20, 21, 23, 26, 28, 29]), (29, [220]), (30, [0]), (31, [4, 30]), (32, [4, 7, 23, 30]), (33, [4, 7, 9, 10, 23]), (34, [0])]
theorem vk0 : Vzz ((8, [(0, 3)]) : Zn) ((4, [(0, 2)]) : Zn) := v84
theorem ek0 : alcZ ((8, [(0, 3)]) : Zn) ((4, [(0, 2)]) : Zn) 0 1 = some (((8, [(0, 3)]) : Zn), ((4, [(1, 0), (2, 1)]) : Zn), 8) := by decide +kernel
theorem vk1 : Vzz ((8, [(0, 3)]) : Zn) ((4, [(1, 0), (2, 1)]) : Zn) := (alc_law vk0 (by decide) ek0).v
theorem ek1 : alcZ ((8, [(0, 3)]) : Zn) ((4, [(1, 0), (2, 1)]) : Zn) 0 1 = some (((8, [(0, 3)]) : Zn), ((4, [(2, 1)]) : Zn), 9) := by decide +kernel
theorem vk2 : Vzz ((8, [(0, 3)]) : Zn) ((4, [(2, 1)]) : Zn) := (alc_law vk1 (by decide) ek1).v
theorem ek2 : alcZ ((8, [(0, 3)]) : Zn) ((4, [(2, 1)]) : Zn) 0 1 = some (((8, [(0, 3)]) : Zn), ((4, [(3, 0)]) : Zn), 10) := by decide +kernel
theorem vk3 : Vzz ((8, [(0, 3)]) : Zn) ((4, [(3, 0)]) : Zn) := (alc_law vk2 (by decide) ek2).v
theorem ek3 : alcZ ((8, [(0, 3)]) : Zn) ((4, [(3, 0)]) : Zn) 0 1 = some (((8, [(0, 3)]) : Zn), ((4, []) : Zn), 11) := by decide +kernel
theorem vk4 : Vzz ((8, [(0, 3)]) : Zn) ((4, []) : Zn) := (alc_law vk3 (by decide) ek3).v
theorem ek4 : alcZ ((8, [(0, 3)]) : Zn) ((4, []) : Zn) 0 1 = some (((8, [(1, 0), (2, 1), (4, 2)]) : Zn), ((4, []) : Zn), 0) := by decide +kernel
theorem vk5 : Vzz ((8, [(1, 0), (2, 1), (4, 2)]) : Zn) ((4, []) : Zn) := (alc_law vk4 (by decide) ek4).v
theorem ek5 : alcZ ((8, [(1, 0), (2, 1), (4, 2)]) : Zn) ((4, []) : Zn) 0 1 = some (((8, [(2, 1), (4, 2)]) : Zn), ((4, []) : Zn), 1) := by decide +kernel
theorem vk6 : Vzz ((8, [(2, 1), (4, 2)]) : Zn) ((4, []) : Zn) := (alc_law vk5 (by decide) ek5).v
theorem em0 : alcZ ((8, [(0, 3)]) : Zn) ((4, [(0, 2)]) : Zn) 2 1 = some (((8, [(0, 3)]) : Zn), ((4, []) : Zn), 8) := by decide +kernel
theorem vm0 : Vzz ((8, [(0, 3)]) : Zn) ((4, []) : Zn) := (alc_law vk0 (by decide) em0).v
theorem em1 : alcZ ((8, [(0, 3)]) : Zn) ((4, []) : Zn) 3 1 = some (((8, []) : Zn), ((4, []) : Zn), 0) := by decide +kernel
theorem vm1 : Vzz ((8, []) : Zn) ((4, []) : Zn) := (alc_law vm0 (by decide) em1).v
theorem em2 : alcZ ((8, []) : Zn) ((4, []) : Zn) 4 0 = none := by decide +kernel
theorem vy : Vzz ((12, [(0, 3), (8, 2)]) : Zn) ((0, []) : Zn) := by
  have := vzz_new (N := 12) (M := 0) (by decide) (by decide)
  rwa [show newZ 12 = ((12, [(0, 3), (8, 2)]) : Zn) by decide +kernel, show newZ 0 = ((0, []) : Zn) by decide +kernel] at this
theorem ey : alcZ ((12, [(0, 3), (8, 2)]) : Zn) ((0, []) : Zn) 0 1 = some (((12, [(0, 3), (9, 0), (10, 1)]) : Zn), ((0, []) : Zn), 8) := by decide +kernel
abbrev ka0S : Spec := zAllFS
theorem ka0_ok : Ok Try.prog 14 ka0S := zAllF_ok
theorem ka0_at : zAllFS.rel [zzn 8 ((8, [(0, 3)]) : Zn) ((4, [(0, 2)]) : Zn), iv 0, iv 1] [] (.tup [zzn 8 ((8, [(0, 3)]) : Zn) ((4, [(1, 0), (2, 1)]) : Zn), iv 8, iv 0]) [] := zall_some (q := 0) vk0 (by decide) (by decide) ek0
abbrev ka1S : Spec := zAllFS
theorem ka1_ok : Ok Try.prog 14 ka1S := zAllF_ok
theorem ka1_at : zAllFS.rel [zzn 8 ((8, [(0, 3)]) : Zn) ((4, [(1, 0), (2, 1)]) : Zn), iv 0, iv 1] [] (.tup [zzn 8 ((8, [(0, 3)]) : Zn) ((4, [(2, 1)]) : Zn), iv 9, iv 0]) [] := zall_some (q := 0) vk1 (by decide) (by decide) ek1
abbrev ka2S : Spec := zAllFS
theorem ka2_ok : Ok Try.prog 14 ka2S := zAllF_ok
theorem ka2_at : zAllFS.rel [zzn 8 ((8, [(0, 3)]) : Zn) ((4, [(2, 1)]) : Zn), iv 0, iv 1] [] (.tup [zzn 8 ((8, [(0, 3)]) : Zn) ((4, [(3, 0)]) : Zn), iv 10, iv 0]) [] := zall_some (q := 0) vk2 (by decide) (by decide) ek2
abbrev ka3S : Spec := zAllFS
theorem ka3_ok : Ok Try.prog 14 ka3S := zAllF_ok
theorem ka3_at : zAllFS.rel [zzn 8 ((8, [(0, 3)]) : Zn) ((4, [(3, 0)]) : Zn), iv 0, iv 1] [] (.tup [zzn 8 ((8, [(0, 3)]) : Zn) ((4, []) : Zn), iv 11, iv 0]) [] := zall_some (q := 0) vk3 (by decide) (by decide) ek3
abbrev ka4S : Spec := zAllFS
theorem ka4_ok : Ok Try.prog 14 ka4S := zAllF_ok
theorem ka4_at : zAllFS.rel [zzn 8 ((8, [(0, 3)]) : Zn) ((4, []) : Zn), iv 0, iv 1] [] (.tup [zzn 8 ((8, [(1, 0), (2, 1), (4, 2)]) : Zn) ((4, []) : Zn), iv 0, iv 0]) [] := zall_some (q := 0) vk4 (by decide) (by decide) ek4
abbrev ka5S : Spec := zAllFS
theorem ka5_ok : Ok Try.prog 14 ka5S := zAllF_ok
theorem ka5_at : zAllFS.rel [zzn 8 ((8, [(1, 0), (2, 1), (4, 2)]) : Zn) ((4, []) : Zn), iv 0, iv 1] [] (.tup [zzn 8 ((8, [(2, 1), (4, 2)]) : Zn) ((4, []) : Zn), iv 1, iv 0]) [] := zall_some (q := 0) vk5 (by decide) (by decide) ek5
abbrev km0S : Spec := zAllFS
theorem km0_ok : Ok Try.prog 14 km0S := zAllF_ok
theorem km0_at : zAllFS.rel [zzn 8 ((8, [(0, 3)]) : Zn) ((4, [(0, 2)]) : Zn), iv 2, iv 1] [] (.tup [zzn 8 ((8, [(0, 3)]) : Zn) ((4, []) : Zn), iv 8, iv 0]) [] := zall_some (q := 2) vk0 (by decide) (by decide) em0
abbrev km1S : Spec := zAllFS
theorem km1_ok : Ok Try.prog 14 km1S := zAllF_ok
theorem km1_at : zAllFS.rel [zzn 8 ((8, [(0, 3)]) : Zn) ((4, []) : Zn), iv 3, iv 1] [] (.tup [zzn 8 ((8, []) : Zn) ((4, []) : Zn), iv 0, iv 0]) [] := zall_some (q := 3) vm0 (by decide) (by decide) em1
abbrev km2S : Spec := zAllFS
theorem km2_ok : Ok Try.prog 14 km2S := zAllF_ok
theorem km2_at : zAllFS.rel [zzn 8 ((8, []) : Zn) ((4, []) : Zn), iv 4, iv 0] [] (.tup [.agg [iv 0, .d (.sl [])], iv 0, iv 5]) [] := zall_none (q := 4) vm1 (by decide) (by decide) em2
abbrev kyS : Spec := zAllFS
theorem ky_ok : Ok Try.prog 14 kyS := zAllF_ok
theorem ky_at : zAllFS.rel [zzn 12 ((12, [(0, 3), (8, 2)]) : Zn) ((0, []) : Zn), iv 0, iv 1] [] (.tup [zzn 12 ((12, [(0, 3), (9, 0), (10, 1)]) : Zn) ((0, []) : Zn), iv 8, iv 0]) [] := zall_some (q := 0) vy (by decide) (by decide) ey
abbrev knS : Spec := NewZFS
theorem kn_ok : Ok Try.prog 20 knS := NewZF_ok
theorem kn_at : NewZFS.rel [iv 12, iv 12] [] (.tup [zzn 12 ((12, [(0, 3), (8, 2)]) : Zn) ((0, []) : Zn), iv 0]) [] := by
  have := newz_at (N := 12) (M := 0) (by decide) (by decide)
  rwa [show newZ 12 = ((12, [(0, 3), (8, 2)]) : Zn) by decide +kernel, show newZ 0 = ((0, []) : Zn) by decide +kernel] at this
abbrev ktS : Spec := TtS
theorem kt_ok : Ok Try.prog 28 ktS := Tt_ok
theorem kt_at : TtS.rel [zzn 8 ((8, [(0, 3)]) : Zn) ((4, [(0, 2)]) : Zn)] [] (.tup [iv 12, iv 0]) [] := Ttv_at vk0
abbrev ktsS : Spec := TsFS
theorem kts_ok : Ok Try.prog 30 ktsS := TsF_ok
theorem kts_at : TsFS.rel [zzn 12 ((12, [(0, 3), (8, 2)]) : Zn) ((0, []) : Zn)] [] (.tup [.d (.sl [[.int .i64 12], [.int .i64 0]]), iv 0]) [] := Tsv_at vy
abbrev kw7S : Spec := WhiS
theorem kw7_ok : Ok Try.prog 24 kw7S := Whi_ok
theorem kw7_at : WhiS.rel [zzn 8 ((8, [(0, 3)]) : Zn) ((4, [(0, 2)]) : Zn), iv 7] [] (.tup [iv 0, iv 0]) [] := whiv_at (f := 7) vk0 (by decide)
abbrev kw8S : Spec := WhiS
theorem kw8_ok : Ok Try.prog 24 kw8S := Whi_ok
theorem kw8_at : WhiS.rel [zzn 8 ((8, [(0, 3)]) : Zn) ((4, [(0, 2)]) : Zn), iv 8] [] (.tup [iv 1, iv 0]) [] := whiv_at (f := 8) vk0 (by decide)
abbrev kw12S : Spec := WhiS
theorem kw12_ok : Ok Try.prog 24 kw12S := Whi_ok
theorem kw12_at : WhiS.rel [zzn 8 ((8, [(0, 3)]) : Zn) ((4, [(0, 2)]) : Zn), iv 12] [] (.tup [iv 0, iv 2]) [] := by
  have := Whi_at 8 [toZ ((8, [(0, 3)]) : Zn), toZ ((4, [(0, 2)]) : Zn)] 12 (by decide) (zzn_le (by decide) (by decide))
  rwa [show whiE 8 [toZ ((8, [(0, 3)]) : Zn), toZ ((4, [(0, 2)]) : Zn)] 12 = (0, 2) by decide +kernel, zz2_eq, zz2_toZ] at this
abbrev kiS : Spec := isZS
theorem ki_ok : Ok Try.prog 26 kiS := isZ_ok
theorem ki_at : isZS.rel [zzn 8 ((8, [(0, 3)]) : Zn) ((4, [(0, 2)]) : Zn), iv 9] [] (.tup [bv true, iv 0]) [] := .inr ⟨((8, [(0, 3)]) : Zn), ((4, [(0, 2)]) : Zn), 9, vk0, by decide, rfl, rfl, rfl, rfl⟩
abbrev kf9S : Spec := zFrFS
theorem kf9_ok : Ok Try.prog 32 kf9S := zFrF_ok
abbrev kf5S : Spec := zFrFS
theorem kf5_ok : Ok Try.prog 32 kf5S := zFrF_ok
abbrev kf7S : Spec := zFrFS
theorem kf7_ok : Ok Try.prog 32 kf7S := zFrF_ok
theorem kf9_at : zFrFS.rel [zzn 8 ((8, [(0, 3)]) : Zn) ((4, [(0, 2)]) : Zn), iv 9, iv 0] [] (.tup [.agg [iv 0, .d (.sl [])], iv 7]) [] := by
  have hb : OkB 4 (1, 0) := by unfold OkB; decide
  have hv : Vb 4 [(0, 2)] 1 0 := ⟨vk0.fb, hb⟩
  refine ⟨rfl, rfl, .tup [.agg [iv 0, .nil], iv 7], [], ⟨_, 9, 0, .e1 (q := 0) vk0 (by decide) (by decide +kernel) (by decide) ⟨by decide, ?_⟩, rfl, rfl, rfl⟩, by simp [frz, frzA, frzAL, frzL, frz1]⟩
  exact ⟨rfl, rfl, _, _, .inr (.inl ⟨4, [(0, 2)], 1, 0, hv, fun h => absurd ((nofr_iff hv).1 h) (by decide), rfl, rfl, rfl, rfl⟩), frz_e [] _ [.int .i64 7] rfl⟩
theorem ekf5 : askB 8 ([(0, 3)].map toI) 5 1 = 13 := by decide +kernel
theorem kf5_at : zFrFS.rel [zzn 8 ((8, [(0, 3)]) : Zn) ((4, [(0, 2)]) : Zn), iv 5, iv 1] [] (.tup [.agg [iv 0, .d (.sl [])], iv 13]) [] := by
  refine ⟨rfl, rfl, .tup [.agg [iv 0, .nil], iv 13], [], ⟨_, 5, 1, .e0 (q := 1) vk0 (by decide) (by decide +kernel) ⟨by decide, ?_⟩, rfl, rfl, rfl⟩, by simp [frz, frzA, frzAL, frzL, frz1]⟩
  have : (frzS FreeS).rel [zv 8 ([(0, 3)].map toI), iv 5, iv 1] [] (.tup [.agg [iv 0, dN []], iv (askB 8 ([(0, 3)].map toI) 5 1)]) [] := ⟨rfl, rfl, _, _, .inl ⟨8, [(0, 3)].map toI, 5, 1, by decide, by rw [ekf5]; decide, rfl, rfl, rfl, rfl⟩, frz_e [] _ [.int .i64 _] rfl⟩
  rw [ekf5] at this
  exact this
theorem kf7_at : zFrFS.rel [zzn 8 ((8, [(0, 3)]) : Zn) ((4, [(0, 2)]) : Zn), iv 7, iv 1] [] (.tup [.agg [iv 0, .d (.sl [])], iv 2]) [] :=
  ⟨rfl, rfl, .tup [.agg [iv 0, .nil], iv 2], [], ⟨_, 7, 1, .rng (q := 1) vk0 (by decide) (by decide +kernel), rfl, rfl, rfl⟩, by simp [frz, frzA, frzAL, frzL, frz1]⟩
abbrev kt5S : Spec := TkFS
theorem kt5_ok : Ok Try.prog 17 kt5S := TkF_ok
abbrev kt13S : Spec := TkFS
theorem kt13_ok : Ok Try.prog 17 kt13S := TkF_ok
abbrev kt0S : Spec := TkFS
theorem kt0_ok : Ok Try.prog 17 kt0S := TkF_ok
theorem kt5_at : TkFS.rel [zzn 8 ((8, [(0, 3)]) : Zn) ((4, [(0, 2)]) : Zn), iv 5, iv 1] [] (.tup [zzn 8 ((8, [(1, 0), (2, 1), (4, 2)]) : Zn) ((4, []) : Zn), dI [8, 9, 10, 11, 0], iv 0]) [] := tkF_at (n := 5) (R := (((8, [(1, 0), (2, 1), (4, 2)]) : Zn), ((4, []) : Zn), [8, 9, 10, 11, 0])) vk0 (by decide +kernel) (by decide) (by decide +kernel)
theorem kt0_at : TkFS.rel [zzn 8 ((8, [(0, 3)]) : Zn) ((4, [(0, 2)]) : Zn), iv 0, iv 0] [] (.tup [zzn 8 ((8, [(0, 3)]) : Zn) ((4, [(0, 2)]) : Zn), .d (.sl []), iv 0]) [] := tkF_at (n := 0) (R := (((8, [(0, 3)]) : Zn), ((4, [(0, 2)]) : Zn), [])) vk0 (by decide +kernel) (by decide) (by decide +kernel)
theorem ekt13 : tkE 8 [toZ ((8, [(0, 3)]) : Zn), toZ ((4, [(0, 2)]) : Zn)] 13 0 = 5 := by
  have e1 : tsE 8 [toZ ((8, [(0, 3)]) : Zn), toZ ((4, [(0, 2)]) : Zn)] = [8, 4] := tsE_v vk0
  have e2 : zzchk 8 [toZ ((8, [(0, 3)]) : Zn), toZ ((4, [(0, 2)]) : Zn)] = 0 := zzchk_v vk0
  unfold tkE
  rw [e2, e1]
  decide
theorem kt13_at : TkFS.rel [zzn 8 ((8, [(0, 3)]) : Zn) ((4, [(0, 2)]) : Zn), iv 13, iv 0] [] (.tup [.agg [iv 0, .d (.sl [])], .d (.sl []), iv 5]) [] := by
  refine ⟨rfl, rfl, .tup [.agg [iv 0, .nil], .nil, iv 5], [], .inl ⟨8, [toZ ((8, [(0, 3)]) : Zn), toZ ((4, [(0, 2)]) : Zn)], 13, 0, by decide, zzn_le (by decide) (by decide), by rw [ekt13]; decide, rfl, rfl, by rw [ekt13], rfl⟩, by simp [frz, frzA, frzAL, frzL, frz1]⟩
abbrev ks5S : Spec := SameIS
theorem ks5_ok : Ok Try.prog 19 ks5S := SameI_ok
theorem ks5_at : SameIS.rel [dI [8, 9, 10, 11, 0], dI [8, 9, 10, 11, 0]] [] (bv true) [] := SameI_at [8, 9, 10, 11, 0] (by decide)
abbrev ks2S : Spec := SameIS
theorem ks2_ok : Ok Try.prog 19 ks2S := SameI_ok
theorem ks2_at : SameIS.rel [.d (.sl [[.int .i64 12], [.int .i64 0]]), .d (.sl [[.int .i64 12], [.int .i64 0]])] [] (bv true) [] := SameI_at [12, 0] (by decide)
def kzS : Spec := { rel := fun args ins res outs => args = [] ∧ ins = [] ∧ res = bv true ∧ outs = [] }
set_option maxHeartbeats 8000000 in
theorem kz_ok : Ok Try.prog 9 kzS := by
  refine fn_ok kzS Try.func9 rfl rfl ?_
  rintro args ins res outs ⟨rfl, rfl, rfl, rfl⟩
  refine ⟨by simp [Try.ntmps9], fun w0 V Bo mu0 => ?_⟩
  repeat' (first
    | (with_reducible first | refine W_seq ?_ | refine W_condT rfl ?_ | refine W_condF rfl ?_ | refine W_tf rfl (fun h => ?_) (fun h => ?_) | refine W_block ?_ | refine endQ_ret ?_ | refine endQ_normal ?_)
    | ((with_reducible first | refine hK _ ?_ | refine hK _ _ ?_); clear hK K)
    | (with_reducible refine W_rounds 7 ?_)
    | (with_reducible refine Wn_succ ?_)
    | ((first | (with_reducible first | refine ops_cons (fun K hK => ?_) | refine ops_nil ?_ | refine fit_i64 (by omega) ?_ | refine fit_any ?_) | with_reducible refine callV_snap ?_ | ((with_reducible refine call_go begS beg_ok ?_); refine ⟨(by first | exact alOk_nil _ | exact alOk_f rfl), _, _, beg_at , ?_⟩) | ((with_reducible refine call_go awkS awk_ok ?_); refine ⟨(by first | exact alOk_nil _ | exact alOk_f rfl), _, _, awk_at , ?_⟩) | ((with_reducible refine call_go ka0S ka0_ok ?_); refine ⟨(by first | exact alOk_nil _ | exact alOk_f rfl), _, _, ka0_at , ?_⟩) | ((with_reducible refine call_go ka1S ka1_ok ?_); refine ⟨(by first | exact alOk_nil _ | exact alOk_f rfl), _, _, ka1_at , ?_⟩) | ((with_reducible refine call_go ka2S ka2_ok ?_); refine ⟨(by first | exact alOk_nil _ | exact alOk_f rfl), _, _, ka2_at , ?_⟩) | ((with_reducible refine call_go ka3S ka3_ok ?_); refine ⟨(by first | exact alOk_nil _ | exact alOk_f rfl), _, _, ka3_at , ?_⟩) | ((with_reducible refine call_go ka4S ka4_ok ?_); refine ⟨(by first | exact alOk_nil _ | exact alOk_f rfl), _, _, ka4_at , ?_⟩) | ((with_reducible refine call_go ka5S ka5_ok ?_); refine ⟨(by first | exact alOk_nil _ | exact alOk_f rfl), _, _, ka5_at , ?_⟩) | ((with_reducible refine call_go km0S km0_ok ?_); refine ⟨(by first | exact alOk_nil _ | exact alOk_f rfl), _, _, km0_at , ?_⟩) | ((with_reducible refine call_go km1S km1_ok ?_); refine ⟨(by first | exact alOk_nil _ | exact alOk_f rfl), _, _, km1_at , ?_⟩) | ((with_reducible refine call_go km2S km2_ok ?_); refine ⟨(by first | exact alOk_nil _ | exact alOk_f rfl), _, _, km2_at , ?_⟩) | ((with_reducible refine call_go kyS ky_ok ?_); refine ⟨(by first | exact alOk_nil _ | exact alOk_f rfl), _, _, ky_at , ?_⟩) | ((with_reducible refine call_go knS kn_ok ?_); refine ⟨(by first | exact alOk_nil _ | exact alOk_f rfl), _, _, kn_at , ?_⟩) | ((with_reducible refine call_go ktS kt_ok ?_); refine ⟨(by first | exact alOk_nil _ | exact alOk_f rfl), _, _, kt_at , ?_⟩) | ((with_reducible refine call_go ktsS kts_ok ?_); refine ⟨(by first | exact alOk_nil _ | exact alOk_f rfl), _, _, kts_at , ?_⟩) | ((with_reducible refine call_go kw7S kw7_ok ?_); refine ⟨(by first | exact alOk_nil _ | exact alOk_f rfl), _, _, kw7_at , ?_⟩) | ((with_reducible refine call_go kw8S kw8_ok ?_); refine ⟨(by first | exact alOk_nil _ | exact alOk_f rfl), _, _, kw8_at , ?_⟩) | ((with_reducible refine call_go kw12S kw12_ok ?_); refine ⟨(by first | exact alOk_nil _ | exact alOk_f rfl), _, _, kw12_at , ?_⟩) | ((with_reducible refine call_go kiS ki_ok ?_); refine ⟨(by first | exact alOk_nil _ | exact alOk_f rfl), _, _, ki_at , ?_⟩) | ((with_reducible refine call_go kf9S kf9_ok ?_); refine ⟨(by first | exact alOk_nil _ | exact alOk_f rfl), _, _, kf9_at , ?_⟩) | ((with_reducible refine call_go kf5S kf5_ok ?_); refine ⟨(by first | exact alOk_nil _ | exact alOk_f rfl), _, _, kf5_at , ?_⟩) | ((with_reducible refine call_go kf7S kf7_ok ?_); refine ⟨(by first | exact alOk_nil _ | exact alOk_f rfl), _, _, kf7_at , ?_⟩) | ((with_reducible refine call_go kt5S kt5_ok ?_); refine ⟨(by first | exact alOk_nil _ | exact alOk_f rfl), _, _, kt5_at , ?_⟩) | ((with_reducible refine call_go kt13S kt13_ok ?_); refine ⟨(by first | exact alOk_nil _ | exact alOk_f rfl), _, _, kt13_at , ?_⟩) | ((with_reducible refine call_go kt0S kt0_ok ?_); refine ⟨(by first | exact alOk_nil _ | exact alOk_f rfl), _, _, kt0_at , ?_⟩) | ((with_reducible refine call_go ks5S ks5_ok ?_); refine ⟨(by first | exact alOk_nil _ | exact alOk_f rfl), _, _, ks5_at , ?_⟩) | ((with_reducible refine call_go ks2S ks2_ok ?_); refine ⟨(by first | exact alOk_nil _ | exact alOk_f rfl), _, _, ks2_at , ?_⟩) | (with_reducible first | refine idx_map (by omega) ?_ | refine W_reg lv9ZnN ?_ | refine W_skip ?_ | refine W_exit ?_ | refine W_ret ?_ | refine end_at0 ?_) | (with_reducible refine And.intro (fun h => ?_) (fun h => ?_)) | (with_reducible refine And.intro (by omega) ?_)); (try simp only [go_sem, seval, reduceCtorEq, lv9ZnN, Try.ntmps9, Try.results9, kzS]))
    | fail)
end Go.Proofs.Ytacfipmigkbncaa
