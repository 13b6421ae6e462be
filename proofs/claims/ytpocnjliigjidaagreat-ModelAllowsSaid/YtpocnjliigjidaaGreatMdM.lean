import Derived.Test.YtpocnjliigjidaaGreatMdA2
import Derived.Test.YtpocnjliigjidaaGreatMdZ2
import Derived.Test.YtpocnjliigjidaaGreatMdL
import Derived.Test.YtpocnjliigjidaaGreatMdX
import Derived.Test.YtpocnjliigjidaaGreatMdU
/- The reference's Waiting and Alive. -/
namespace Go.Proofs.YtpocnjliigjidaaGreat
open Go.RowKit
set_option maxRecDepth 100000
set_option linter.unusedSimpArgs false
set_option linter.unusedVariables false
abbrev lv16MdA3 : List (Nat × List Nat) := [(0, [0]), (1, [4, 5]), (2, [4, 5, 15]), (3, [2, 3]), (4, [4, 6]), (5, [4, 6, 7]), (6, [4, 6, 7, 8]), (7, [4, 6, 7, 8, 21]), (8, [4, 6, 7, 8]), (9, [4, 6, 7, 8, 46]), (10, [4, 6, 7, 8]), (11, [4, 6, 7, 49]), (12, [2, 3]), (13, [4, 6, 7]), (14, [4, 6])]
abbrev lv18MdA3 : List (Nat × List Nat) := [(0, [0]), (1, [4, 5]), (2, [4, 5, 14]), (3, [2, 3]), (4, [4, 6]), (5, [4, 6, 7]), (6, [4, 6, 7, 21]), (7, [4, 6, 7]), (8, [4, 6, 7, 29]), (9, [4, 6, 7]), (10, [2, 3])]
set_option maxHeartbeats 4000000 in
theorem rmw_ok : Ok Tryz.prog 16 mwgS := by
  refine fn_ok mwgS Tryz.func16 rfl rfl ?_
  rintro args ins res outs ⟨l, hl, hvs, rfl, rfl, rfl, rfl⟩
  refine ⟨by simp [Tryz.ntmps16], fun w0 V Bo mu0 => ?_⟩
  have A0 : aftRS.rel [ocL l] [] (aftA l).1 (aftA l).2 := ⟨l, hl, rfl, rfl, rfl, rfl⟩
  by_cases he : afE l = 0
  case neg =>
    have hr : mwA l = (.tup [.nil, iv (afE l)], []) := if_neg he
    have ha : aftA l = (.tup [zrS, iv (afE l)], []) := if_neg he
    rw [hr]
    rw [ha] at A0
    generalize afE l = E at *
    have aftR_at : aftRS.rel [ocL l] [] (.tup [zrS, iv E]) [] := A0
    repeat' (first | refine sA ?_ | with_reducible refine W_tf rfl (fun h => ?_) (fun h => ?_) | ((with_reducible first | refine hK _ ?_ | refine hK _ _ ?_); clear hK K) | ((first | refine sB ?_ | (with_reducible first | refine ops_cons (fun K hK => ?_) | refine opsd_cons (fun K hK => ?_) | refine W_reg lv16MdA3 ?_ | refine W_drw lv16MdA3 (by kernel_rfl) ?_) | ((with_reducible refine opsd_nil ?_); refine And.intro (by kernel_rfl) ?_) | with_reducible refine callV_snap ?_ | ((with_reducible refine call_go aftRS aftR_ok ?_); refine ⟨alk, _, _, aftR_at , ?_⟩) | with_reducible refine And.intro (fun h => ?_) (fun h => ?_) | with_reducible refine And.intro (by omega) ?_); (try simp only [go_sem, seval, reduceCtorEq, he, lv16MdA3, Tryz.ntmps16, Tryz.results16, mwgS])) | fail)
  have hr : mwA l = (.tup [.row 0 1 0 (srP (afT l).W).length, iv 0], [.rows 3 1 ((srP (afT l).W).map encDI)]) := if_pos he
  have ha : aftA l = (.tup [syR 0 (afT l), iv 0], [.rows 24 1 ((afT l).W.map encU)]) := if_pos he
  have hwd := vs_wd (hvs he)
  rw [hr]
  rw [ha] at A0
  generalize afT l = t at *
  have aftR_at : aftRS.rel [ocL l] [] (.tup [syR 0 t, iv 0]) [.rows 24 1 (t.W.map encU)] := A0
  clear A0 hr ha hvs he
  repeat' (first | refine sA ?_ | with_reducible refine W_tf rfl (fun h => ?_) (fun h => ?_) | ((with_reducible first | refine hK _ ?_ | refine hK _ _ ?_); clear hK K) | ((first | refine sB ?_ | (with_reducible first | refine ops_cons (fun K hK => ?_) | refine opsd_cons (fun K hK => ?_) | refine W_reg lv16MdA3 ?_ | refine W_drw lv16MdA3 (by kernel_rfl) ?_) | ((with_reducible refine opsd_nil ?_); refine And.intro (by kernel_rfl) ?_) | with_reducible refine callV_snap ?_ | ((with_reducible refine call_go aftRS aftR_ok ?_); refine ⟨alk, _, _, aftR_at , ?_⟩) | with_reducible refine And.intro (fun h => ?_) (fun h => ?_) | with_reducible refine And.intro (by omega) ?_); (try simp only [go_sem, seval, reduceCtorEq, lv16MdA3, Tryz.ntmps16, Tryz.results16, mwgS])) | fail)
  refine W_adopt 6 3 1 (by decide) (by simp [go_sem]) ?_
  refine W_loop (fun x : List Nat × List Int => ⟨[(4, .ptr 1 0), (6, .row 2 1 0 x.2.length)], [some (.rows 24 1 (x.1.map encU)), some (syO 0 ⟨t.m, x.1, t.L⟩), some (.rows 3 1 (x.2.map encDI))]⟩) (fun x => Wd x.1 ∧ x.2 ++ srP x.1 = srP t.W) (fun x => (srP x.1).length) (t.W, []) ⟨hwd, rfl⟩ [0, 1, 2] ?_ ?_
  · simp [go_sem]
  rintro ⟨W, P⟩ ⟨hw, hP⟩
  dsimp only at hw hP ⊢
  have hW8 := hw.1
  have hPl : P.length ≤ 8 := by have := srP_len t.W; rw [← hP, List.length_append] at this; omega
  repeat' (first | refine sA ?_ | with_reducible refine W_tf rfl (fun h => ?_) (fun h => ?_) | ((with_reducible first | refine hK _ ?_ | refine hK _ _ ?_); clear hK K) | ((first | refine sB ?_ | (with_reducible first | refine ops_cons (fun K hK => ?_) | refine opsd_cons (fun K hK => ?_) | refine W_reg lv16MdA3 ?_ | refine W_drw lv16MdA3 (by kernel_rfl) ?_) | ((with_reducible refine opsd_nil ?_); refine And.intro (by kernel_rfl) ?_) | with_reducible refine callV_snap ?_ | with_reducible refine And.intro (fun h => ?_) (fun h => ?_) | with_reducible refine And.intro (by omega) ?_); (try simp only [go_sem, seval, reduceCtorEq, lv16MdA3, Tryz.ntmps16, Tryz.results16, mwgS])) | fail)
  refine W_loop (fun i : Nat => ⟨[(4, .ptr 1 0), (6, .row 2 1 0 P.length), (7, iv (mnP W i)), (8, iv (i : Int))], [some (.rows 24 1 (W.map encU)), some (syO 0 ⟨t.m, W, t.L⟩), some (.rows 3 1 (P.map encDI))]⟩) (fun i => i ≤ W.length) (fun i => W.length - i) 0 (Nat.zero_le _) [0, 1, 2] ?_ ?_
  · simp [go_sem, mnP]
  intro i hi
  have hmn := mnP_lt W i
  have hms : mnP W (i + 1) = if W[i]?.getD 0 ≠ 0 ∧ (mnP W i < 0 ∨ W[i]?.getD 0 < W[(mnP W i).toNat]?.getD 0) then (i : Int) else mnP W i := rfl
  by_cases hlt : i < W.length
  · have hki : (i : Int) < W.length := by omega
    have e2 : W[i]?.getD 0 = W[i] := by simp [hlt]
    have e0 : encU W[i] = [.int .u64 (W[i] : Int)] := rfl
    rw [e2] at hms
    by_cases h0 : W[i] = 0
    · have h0' : (W[i] : Int) = 0 := by omega
      rw [if_neg (fun h => h.1 h0)] at hms
      generalize mnP W i = M at *
      repeat' (first | refine sA ?_ | with_reducible refine W_tf rfl (fun h => ?_) (fun h => ?_) | ((with_reducible first | refine hK _ ?_ | refine hK _ _ ?_); clear hK K) | ((first | refine sB ?_ | (with_reducible first | refine ops_cons (fun K hK => ?_) | refine opsd_cons (fun K hK => ?_) | refine W_reg lv16MdA3 ?_ | refine W_drw lv16MdA3 (by kernel_rfl) ?_) | ((with_reducible refine opsd_nil ?_); refine And.intro (by kernel_rfl) ?_) | with_reducible refine callV_snap ?_ | with_reducible refine And.intro (fun h => ?_) (fun h => ?_) | with_reducible refine And.intro (by omega) ?_); (try simp only [go_sem, seval, reduceCtorEq, hki, e0, h0', lv16MdA3, Tryz.ntmps16, Tryz.results16, mwgS])) | fail)
      refine ⟨i + 1, [0, 1, 2], by omega, by omega, ?_⟩
      simp [go_sem, hms]
    have h0' : ¬ (W[i] : Int) = 0 := by omega
    rcases hmn with ⟨h1, h2⟩ | ⟨k, h1, h2, h3, h4⟩
    · rw [h1] at hms ⊢
      rw [if_pos ⟨h0, .inl (by decide)⟩] at hms
      repeat' (first | refine sA ?_ | with_reducible refine W_tf rfl (fun h => ?_) (fun h => ?_) | ((with_reducible first | refine hK _ ?_ | refine hK _ _ ?_); clear hK K) | ((first | refine sB ?_ | (with_reducible first | refine ops_cons (fun K hK => ?_) | refine opsd_cons (fun K hK => ?_) | refine W_reg lv16MdA3 ?_ | refine W_drw lv16MdA3 (by kernel_rfl) ?_) | ((with_reducible refine opsd_nil ?_); refine And.intro (by kernel_rfl) ?_) | with_reducible refine callV_snap ?_ | with_reducible refine And.intro (fun h => ?_) (fun h => ?_) | with_reducible refine And.intro (by omega) ?_); (try simp only [go_sem, seval, reduceCtorEq, hki, e0, h0', lv16MdA3, Tryz.ntmps16, Tryz.results16, mwgS])) | fail)
      refine ⟨i + 1, [0, 1, 2], by omega, by omega, ?_⟩
      simp [go_sem, hms]
    · rw [h1, Int.toNat_natCast] at hms
      rw [h1]
      have hkl : k < W.length := by omega
      have hkl' : (k : Int) < W.length := by omega
      have hk0 : ¬ (k : Int) < 0 := by omega
      have e3 : W[k]?.getD 0 = W[k] := by simp [hkl]
      have e1 : encU W[k] = [.int .u64 (W[k] : Int)] := rfl
      rw [e3] at hms
      by_cases hc : W[i] < W[k]
      · have hc' : (W[i] : Int) < (W[k] : Int) := by omega
        rw [if_pos ⟨h0, .inr hc⟩] at hms
        repeat' (first | refine sA ?_ | with_reducible refine W_tf rfl (fun h => ?_) (fun h => ?_) | ((with_reducible first | refine hK _ ?_ | refine hK _ _ ?_); clear hK K) | ((first | refine sB ?_ | (with_reducible first | refine ops_cons (fun K hK => ?_) | refine opsd_cons (fun K hK => ?_) | refine W_reg lv16MdA3 ?_ | refine W_drw lv16MdA3 (by kernel_rfl) ?_) | ((with_reducible refine opsd_nil ?_); refine And.intro (by kernel_rfl) ?_) | with_reducible refine callV_snap ?_ | with_reducible refine And.intro (fun h => ?_) (fun h => ?_) | with_reducible refine And.intro (by omega) ?_); (try simp only [go_sem, seval, reduceCtorEq, hki, hkl', hk0, e0, e1, h0', hc', lv16MdA3, Tryz.ntmps16, Tryz.results16, mwgS])) | fail)
        refine ⟨i + 1, [0, 1, 2], by omega, by omega, ?_⟩
        simp [go_sem, hms]
      · have hc' : ¬ (W[i] : Int) < (W[k] : Int) := by omega
        rw [if_neg (fun h => h.2.elim hk0 hc)] at hms
        repeat' (first | refine sA ?_ | with_reducible refine W_tf rfl (fun h => ?_) (fun h => ?_) | ((with_reducible first | refine hK _ ?_ | refine hK _ _ ?_); clear hK K) | ((first | refine sB ?_ | (with_reducible first | refine ops_cons (fun K hK => ?_) | refine opsd_cons (fun K hK => ?_) | refine W_reg lv16MdA3 ?_ | refine W_drw lv16MdA3 (by kernel_rfl) ?_) | ((with_reducible refine opsd_nil ?_); refine And.intro (by kernel_rfl) ?_) | with_reducible refine callV_snap ?_ | with_reducible refine And.intro (fun h => ?_) (fun h => ?_) | with_reducible refine And.intro (by omega) ?_); (try simp only [go_sem, seval, reduceCtorEq, hki, hkl', hk0, e0, e1, h0', hc', lv16MdA3, Tryz.ntmps16, Tryz.results16, mwgS])) | fail)
        refine ⟨i + 1, [0, 1, 2], by omega, by omega, ?_⟩
        simp [go_sem, hms]
  · obtain rfl : i = 8 := by omega
    have hki : ¬ (8 : Int) < (W.length : Int) := by omega
    rcases hmn with ⟨h1, h2⟩ | ⟨k, h1, h2, h3, h4⟩
    · rw [h1]
      rw [srP_nil h2, List.append_nil] at hP
      rw [← hP]
      repeat' (first | refine sA ?_ | with_reducible refine W_tf rfl (fun h => ?_) (fun h => ?_) | ((with_reducible first | refine hK _ ?_ | refine hK _ _ ?_); clear hK K) | ((first | refine sC ?_ | (with_reducible first | refine ops_cons (fun K hK => ?_) | refine opsd_cons (fun K hK => ?_) | refine W_reg lv16MdA3 ?_ | refine W_drw lv16MdA3 (by kernel_rfl) ?_) | ((with_reducible refine opsd_nil ?_); refine And.intro (by kernel_rfl) ?_) | with_reducible refine callV_snap ?_ | with_reducible refine And.intro (fun h => ?_) (fun h => ?_) | with_reducible refine And.intro (by omega) ?_); (try simp only [go_sem, seval, reduceCtorEq, hki, lv16MdA3, Tryz.ntmps16, Tryz.results16, mwgS])) | fail)
      refine W_ret (endQ_ret (end_at [2] ?_))
      have := encI.flat P
      simp [go_sem, Tryz.results16, mwgS]
      simpa [flatD] using this
    · rw [h1]
      have hkl : k < W.length := by omega
      have hkl' : (k : Int) < W.length := by omega
      have hk0 : ¬ (k : Int) < 0 := by omega
      have e3 : W[k]?.getD 0 = W[k] := by simp [hkl]
      have hset : ((W.map encU).set k [.int .u64 0]) = (W.set k 0).map encU := by rw [List.map_set]; rfl
      have hsl : (W.set k 0).length = W.length := List.length_set
      have hmin := srP_min hw h2 h3 h4
      have hws := wd_set hw h2
      have e1 : encU W[k] = [.int .u64 (W[k] : Int)] := rfl
      rw [hmin] at hP
      repeat' (first | refine sA ?_ | with_reducible refine W_tf rfl (fun h => ?_) (fun h => ?_) | ((with_reducible first | refine hK _ ?_ | refine hK _ _ ?_); clear hK K) | ((with_reducible refine idx_map2 hkl ?_); simp only [go_sem, seval, reduceCtorEq, encU_len, e1, hset]) | ((first | refine sB ?_ | (with_reducible first | refine ops_cons (fun K hK => ?_) | refine opsd_cons (fun K hK => ?_) | refine W_reg lv16MdA3 ?_ | refine W_drw lv16MdA3 (by kernel_rfl) ?_) | ((with_reducible refine opsd_nil ?_); refine And.intro (by kernel_rfl) ?_) | with_reducible refine callV_snap ?_ | with_reducible refine And.intro (fun h => ?_) (fun h => ?_) | with_reducible refine And.intro (by omega) ?_); (try simp only [go_sem, seval, reduceCtorEq, hki, hkl', hk0, e1, hset, lv16MdA3, Tryz.ntmps16, Tryz.results16, mwgS])) | fail)
      refine ⟨(W.set k 0, P ++ [(k : Int) + 1]), [0, 1, 4], ⟨hws, by rw [List.append_assoc]; exact hP⟩, by rw [hmin]; exact Nat.lt_succ_self _, ?_⟩
      simp [go_sem, encDI, hsl]
set_option maxHeartbeats 1000000 in
theorem ralv_ok : Ok Tryz.prog 18 alvS := by
  refine fn_ok alvS Tryz.func18 rfl rfl ?_
  rintro args ins res outs ⟨l, hl, h8, rfl, rfl, rfl, rfl⟩
  refine ⟨by simp [Tryz.ntmps18], fun w0 V Bo mu0 => ?_⟩
  have A0 := raftr_at l hl
  by_cases he : afE l = 0
  case neg =>
    have hr : alvR l = (.tup [.nil, iv (afE l)], []) := if_neg he
    rw [hr]
    generalize afE l = E at *
    generalize afT l = S at *
    have raftr_at : raftrS.rel [ocL l] [] (.tup [syA S, iv E]) [] := A0
    repeat' (first | refine sA ?_ | with_reducible refine W_tf rfl (fun h => ?_) (fun h => ?_) | ((with_reducible first | refine hK _ ?_ | refine hK _ _ ?_); clear hK K) | ((first | refine sB ?_ | (with_reducible first | refine ops_cons (fun K hK => ?_) | refine W_reg lv18MdA3 ?_) | with_reducible refine callV_snap ?_ | ((with_reducible refine call_go raftrS raftr_ok ?_); refine ⟨alk, _, _, raftr_at , ?_⟩) | with_reducible refine And.intro (fun h => ?_) (fun h => ?_) | with_reducible refine And.intro (by omega) ?_); (try simp only [go_sem, seval, reduceCtorEq, he, lv18MdA3, Tryz.ntmps18, Tryz.results18, alvS])) | fail)
  have hr : alvR l = (.tup [.row 0 1 0 (alvP (afT l).m.1 (afT l).m.1.length).length, iv 0], [.rows 3 1 ((alvP (afT l).m.1 (afT l).m.1.length).map encDI)]) := if_pos he
  rw [hr]
  rw [he] at A0
  generalize afT l = S at *
  have raftr_at : raftrS.rel [ocL l] [] (.tup [syA S, iv 0]) [] := A0
  repeat' (first | refine sA ?_ | with_reducible refine W_tf rfl (fun h => ?_) (fun h => ?_) | ((with_reducible first | refine hK _ ?_ | refine hK _ _ ?_); clear hK K) | ((first | refine sB ?_ | (with_reducible first | refine ops_cons (fun K hK => ?_) | refine W_reg lv18MdA3 ?_) | with_reducible refine callV_snap ?_ | ((with_reducible refine call_go raftrS raftr_ok ?_); refine ⟨alk, _, _, raftr_at , ?_⟩) | with_reducible refine And.intro (fun h => ?_) (fun h => ?_) | with_reducible refine And.intro (by omega) ?_); (try simp only [go_sem, seval, reduceCtorEq, lv18MdA3, Tryz.ntmps18, Tryz.results18, alvS])) | fail)
  refine W_adopt 6 3 1 (by decide) (by simp [go_sem]) ?_
  refine W_loop (fun i : Nat => ⟨[(4, .ptr 0 0), (6, .row 1 1 0 (alvP S.m.1 i).length), (7, iv (i : Int))], [some (.box 40 [.d (.sl (S.m.1.map encDB)), .d (.sl (S.m.2.1.map encU)), .d (.sl (S.m.2.2.map encCl)), .d (.sl (S.W.map encU)), wv (S.L : Int)]), some (.rows 3 1 ((alvP S.m.1 i).map encDI))]⟩) (fun i => i ≤ S.m.1.length) (fun i => S.m.1.length - i) 0 (Nat.zero_le _) [0, 1] ?_ ?_
  · simp [go_sem, alvP]
  intro i hi
  have hlen := alvP_len S.m.1 i
  by_cases hlt : i < S.m.1.length
  · have hki : (i : Int) < S.m.1.length := by omega
    have hs : alvP S.m.1 (i + 1) = alvP S.m.1 i ++ if S.m.1[i]?.getD false = true then [(i : Int) + 1] else [] := rfl
    rw [List.getElem?_eq_getElem hlt, Option.getD_some] at hs
    cases hb : S.m.1[i] with
    | true =>
      have e0 : encDB S.m.1[i] = [.bool true] := by rw [hb]; rfl
      rw [hb, if_pos rfl] at hs
      repeat' (first | refine sA ?_ | with_reducible refine W_tf rfl (fun h => ?_) (fun h => ?_) | ((with_reducible first | refine hK _ ?_ | refine hK _ _ ?_); clear hK K) | ((first | refine sB ?_ | (with_reducible first | refine ops_cons (fun K hK => ?_) | refine W_reg lv18MdA3 ?_) | with_reducible refine callV_snap ?_ | with_reducible refine And.intro (fun h => ?_) (fun h => ?_) | with_reducible refine And.intro (by omega) ?_); (try simp only [go_sem, seval, reduceCtorEq, hki, e0, lv18MdA3, Tryz.ntmps18, Tryz.results18, alvS])) | fail)
      refine ⟨i + 1, [0, 3], by omega, by omega, ?_⟩
      simp only [hs]
      simp [go_sem, encDI]
    | false =>
      have e0 : encDB S.m.1[i] = [.bool false] := by rw [hb]; rfl
      rw [hb, if_neg (by decide), List.append_nil] at hs
      repeat' (first | refine sA ?_ | with_reducible refine W_tf rfl (fun h => ?_) (fun h => ?_) | ((with_reducible first | refine hK _ ?_ | refine hK _ _ ?_); clear hK K) | ((first | refine sB ?_ | (with_reducible first | refine ops_cons (fun K hK => ?_) | refine W_reg lv18MdA3 ?_) | with_reducible refine callV_snap ?_ | with_reducible refine And.intro (fun h => ?_) (fun h => ?_) | with_reducible refine And.intro (by omega) ?_); (try simp only [go_sem, seval, reduceCtorEq, hki, e0, lv18MdA3, Tryz.ntmps18, Tryz.results18, alvS])) | fail)
      refine ⟨i + 1, [0, 1], by omega, by omega, ?_⟩
      simp [go_sem, hs]
  · have hki : ¬ (i : Int) < S.m.1.length := by omega
    obtain rfl : i = S.m.1.length := by omega
    repeat' (first | refine sA ?_ | with_reducible refine W_tf rfl (fun h => ?_) (fun h => ?_) | ((with_reducible first | refine hK _ ?_ | refine hK _ _ ?_); clear hK K) | ((first | refine sC ?_ | (with_reducible first | refine ops_cons (fun K hK => ?_) | refine W_reg lv18MdA3 ?_) | with_reducible refine callV_snap ?_ | with_reducible refine And.intro (fun h => ?_) (fun h => ?_) | with_reducible refine And.intro (by omega) ?_); (try simp only [go_sem, seval, reduceCtorEq, hki, lv18MdA3, Tryz.ntmps18, Tryz.results18, alvS])) | fail)
    refine W_ret (endQ_ret (end_at [1] ?_))
    have := encI.flat (alvP S.m.1 S.m.1.length)
    simp [go_sem, Tryz.results18, alvS]
    simpa [flatD] using this
end Go.Proofs.YtpocnjliigjidaaGreat
namespace Go.Proofs.YtpocnjliigjidaaGreat
open Go.RowKit
set_option maxRecDepth 100000
set_option linter.unusedSimpArgs false
set_option linter.unusedVariables false
theorem wk_vs : ∀ (l : List Oc) {s : Sy}, Vs s → (∀ x ∈ l, ocE x = 0) → Vs (wk s l).2
  | [], s, hs, _ => hs
  | x :: l, s, hs, h => by
    rw [wk]
    cases hn : nx s x with
    | none => exact hs
    | some t => exact wk_vs l (nx_vs hs (h x (by simp)) hn) fun y hy => h y (by simp [hy])
theorem aft_vs {l : List Oc} (h : afE l = 0) : Vs (afT l) := by
  have h0 : (trE l).1 = 0 := by
    unfold afE at h
    split at h
    · cases h
    · exact h
  have e1 : afT l = (wk sy0 l).2 := by unfold afT tlS; rw [if_pos h, if_pos h0]
  rw [e1]
  exact wk_vs l sy0_vs (trE_ok h0).2
def OwoS2 : Spec := { al := true, rel := fun args ins res outs => ∃ c : List Oc, c.length ≤ 1000000 ∧ args = [ocL c] ∧ ins = [] ∧ res = .row 0 7 0 c.length ∧ outs = [.rows 51 7 (c.map encOc)] }
theorem Owo_ok2 : Ok Tryz.prog 8 OwoS2 := by
  refine fn_ok OwoS2 Tryz.func8 rfl rfl ?_
  rintro args ins res outs ⟨c, hc, rfl, rfl, rfl, rfl⟩
  refine ⟨by simp [Tryz.ntmps8], fun w0 V Bo mu0 => ?_⟩
  repeat' (first | refine sA ?_ | ((with_reducible first | refine hK _ ?_ | refine hK _ _ ?_); clear hK K) | ((with_reducible refine And.intro (encOce.rows _) ?_)) | ((first | refine sC ?_ | (with_reducible first | refine ops_cons (fun K hK => ?_) | refine W_reg [(0, [0]), (1, [2])] ?_) | with_reducible refine callV_snap ?_ | with_reducible refine And.intro (fun h => ?_) (fun h => ?_) | with_reducible refine And.intro (by omega) ?_); (try simp only [go_sem, seval, reduceCtorEq, Tryz.ntmps8, Tryz.results8, OwoS2])) | fail)
  refine W_ret (endQ_ret (end_at [1] ?_))
  have := encOce.flat c
  simp [go_sem, Tryz.results8, OwoS2]
def OwoFS : Spec := { al := true, rel := fun args ins res outs => ∃ c : List Oc, c.length ≤ 1000000 ∧ args = [ocL c] ∧ ins = [] ∧ res = ocL c ∧ outs = [] }
theorem OwoF_at (c : List Oc) (h : c.length ≤ 1000000) : OwoFS.rel [ocL c] [] (ocL c) [] := ⟨c, h, rfl, rfl, rfl, rfl⟩
theorem OwoF_ok : Ok Tryz.prog 8 OwoFS := by
  refine ok_frz Owo_ok2 OwoFS rfl ?_
  rintro args ins res outs ⟨c, h, rfl, rfl, rfl, rfl⟩
  exact ⟨rfl, rfl, _, _, ⟨c, h, rfl, rfl, rfl, rfl⟩, by simp [frz, frzA, frz1, List.take_of_length_le]⟩
end Go.Proofs.YtpocnjliigjidaaGreat
namespace Go.Proofs.YtpocnjliigjidaaGreat
open Go.RowKit
set_option maxRecDepth 100000
set_option linter.unusedSimpArgs false
set_option linter.unusedVariables false
end Go.Proofs.YtpocnjliigjidaaGreat
namespace Go.Proofs.YtpocnjliigjidaaGreat
open Go.RowKit
set_option maxRecDepth 100000
set_option linter.unusedSimpArgs false
set_option linter.unusedVariables false
theorem vs_len {s : Sy} (h : Vs s) : U64 s.m.2.1 ∧ s.m.1.length ≤ 1000000 ∧ s.m.2.1.length ≤ 1000000 ∧ s.m.2.2.length ≤ 1000000 ∧ s.W.length ≤ 1000000 ∧ s.L ≤ mxT := by
  have l1 := vl_len h.v
  have l2 := h.v.la
  have l3 := h.v.lm
  have l4 := h.lw
  exact ⟨h.v.u, by omega, by omega, by omega, by omega, h.lt⟩
def samS : Spec := { rel := fun args ins res outs => ∃ s : Sy, s.m.1.length ≤ 1000000 ∧ s.m.2.1.length ≤ 1000000 ∧ s.m.2.2.length ≤ 1000000 ∧ s.W.length ≤ 1000000 ∧ args = [syA s, syA s] ∧ ins = [] ∧ res = bv true ∧ outs = [] }
theorem sam_at (s : Sy) (h1 : s.m.1.length ≤ 1000000) (h2 : s.m.2.1.length ≤ 1000000) (h3 : s.m.2.2.length ≤ 1000000) (h4 : s.W.length ≤ 1000000) : samS.rel [syA s, syA s] [] (bv true) [] := ⟨s, h1, h2, h3, h4, rfl, rfl, rfl, rfl⟩
theorem sam_ok : Ok Tryz.prog 14 samS := by
  refine fn_ok samS Tryz.func14 rfl rfl ?_
  rintro args ins res outs ⟨s, h1, h2, h3, h4, rfl, rfl, rfl, rfl⟩
  refine ⟨by simp [Tryz.ntmps14], fun w0 V Bo mu0 => ?_⟩
  have F0 := Smf_at s.m.1 s.m.1 s.m.2.1 s.m.2.1 s.m.2.2 s.m.2.2 h1 h1 h2 h2 h3 h3
  rw [decide_eq_true (⟨rfl, rfl, rfl⟩ : s.m.1 = s.m.1 ∧ s.m.2.1 = s.m.2.1 ∧ s.m.2.2 = s.m.2.2)] at F0
  have W0 := Smw_at s.W s.W h4 h4
  rw [decide_eq_true (rfl : s.W = s.W)] at W0
  have Smf_at : SmfS.rel [fm s.m.1 s.m.2.1 s.m.2.2, fm s.m.1 s.m.2.1 s.m.2.2] [] (bv true) [] := F0
  have Smw_at : SmwS.rel [.d (.sl (s.W.map encU)), .d (.sl (s.W.map encU))] [] (bv true) [] := W0
  repeat' (first | refine sA ?_ | ((with_reducible first | refine hK _ ?_ | refine hK _ _ ?_); clear hK K) | ((first | refine sB ?_ | (with_reducible first | refine ops_cons (fun K hK => ?_) | refine W_reg [(0, [2, 3]), (1, [4])] ?_) | with_reducible refine callV_snap ?_ | ((with_reducible refine call_go SmfS Smf_ok ?_); refine ⟨alk, _, _, Smf_at , ?_⟩) | ((with_reducible refine call_go SmwS Smw_ok ?_); refine ⟨alk, _, _, Smw_at , ?_⟩) | with_reducible refine And.intro (fun h => ?_) (fun h => ?_) | with_reducible refine And.intro (by omega) ?_); (try simp only [go_sem, seval, reduceCtorEq, Tryz.ntmps14, Tryz.results14, samS])) | fail)
end Go.Proofs.YtpocnjliigjidaaGreat
