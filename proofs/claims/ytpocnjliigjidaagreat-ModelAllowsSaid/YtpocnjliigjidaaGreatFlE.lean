import Derived.Test.YtpocnjliigjidaaGreatFlD
/- A flat memory: Page of both sides, by the engine. -/
namespace Go.Proofs.YtpocnjliigjidaaGreat
open Go.RowKit
set_option maxRecDepth 100000
set_option linter.unusedSimpArgs false
set_option linter.unusedVariables false
abbrev lv31FlE : List (Nat × List Nat) := [(0, [1, 2, 3, 6]), (1, [1, 2, 3, 6, 8]), (2, [1, 2, 3, 6, 8, 9]), (3, [1, 2, 3, 6, 8, 9, 14]), (4, [6, 7]), (5, [1, 2, 3, 6, 8, 19]), (6, [6, 7]), (7, [1, 2, 3, 6, 8, 24]), (8, [6, 7]), (9, [1, 2, 3, 6, 8, 10]), (10, [1, 2, 3, 6, 8, 10, 35]), (11, [1, 2, 3, 6, 8, 10]), (12, [1, 2, 3, 6, 8, 10, 57]), (13, [1, 2, 3, 6, 8, 10]), (14, [6, 7])]
theorem ck1_zero {mp : List Nat} {c : Cl} (h : ck1 mp c = 0) : Prc c.1 ∧ Pgs c.2.1 ∧ Wrd c.2.2.1 ∧ c.2.2.2 ≠ 0 ∧ mpd mp c.1 c.2.1 = true := by
  unfold ck1 at h
  by_cases h1 : Prc c.1 ∧ Pgs c.2.1 ∧ Wrd c.2.2.1
  · rw [if_neg (fun hh => hh h1)] at h
    by_cases h2 : c.2.2.2 = 0
    · rw [if_pos h2] at h; cases h
    · rw [if_neg h2] at h
      cases h3 : mpd mp c.1 c.2.1 with
      | false => rw [h3] at h; simp at h
      | true => exact ⟨h1.1, h1.2.1, h1.2.2, h2, rfl⟩
  · rw [if_pos h1] at h; cases h
theorem ckGo_mem {mp : List Nat} : ∀ (cs : List Cl) (b : Option Cl), ckGo mp b cs = 0 → ∀ c ∈ cs, ck1 mp c = 0
  | [], _, _, c, hc => by cases hc
  | x :: r, b, h, c, hc => by
    have hx : ck1 mp x = 0 ∧ ckGo mp (some x) r = 0 := by
      cases b with
      | none =>
        rw [ckGo] at h
        by_cases h1 : ck1 mp x = 0
        · rw [if_neg (by simpa using h1)] at h; exact ⟨h1, h⟩
        · rw [if_pos h1] at h; exact absurd h h1
      | some b =>
        rw [ckGo] at h
        by_cases h1 : ck1 mp x = 0
        · rw [if_neg (by simpa using h1)] at h
          by_cases h2 : Bef b x
          · rw [if_pos h2] at h; exact ⟨h1, h⟩
          · rw [if_neg h2] at h; cases h
        · rw [if_pos h1] at h; exact absurd h h1
    rcases List.mem_cons.1 hc with rfl | hc
    · exact hx.1
    · exact ckGo_mem r (some x) hx.2 c hc
theorem flchk_go {al : List Bool} {mp : List Nat} {cs : List Cl} (h : flchk al mp cs = 0) : ckGo mp none cs = 0 := by
  unfold flchk at h
  split at h
  · cases h
  · split at h
    · cases h
    · exact h
def ctA (C : List Nat) : List AV := C.map fun n : Nat => wv (n : Int)
theorem ctA_len (C : List Nat) : (ctA C).length = C.length := by simp [ctA]
theorem ctA_zero : ctA [0, 0, 0, 0, 0, 0, 0, 0] = [wv 0, wv 0, wv 0, wv 0, wv 0, wv 0, wv 0, wv 0] := rfl
theorem ctA_ren (ρ : Nat → Nat) (C : List Nat) : renL ρ (ctA C) = ctA C := by
  rw [renL_map]; simp [ctA, AV.ren]
theorem ctA_flat : ∀ C : List Nat, flatL (ctA C)
  | [] => trivial
  | n :: C => ⟨trivial, ctA_flat C⟩
theorem ctA_set {C : List Nat} {w v : Nat} (h : w < C.length) : List.take w (ctA C) ++ AV.d (.int .u64 (v : Int)) :: List.drop (w + 1) (ctA C) = ctA (C.set w v) := by
  unfold ctA
  rw [List.map_set, List.set_eq_take_append_cons_drop, if_pos (by simpa using h)]
theorem ctA_take (C : List Nat) (h : C.length = 8) : List.take 8 (ctA C) = ctA C := List.take_of_length_le (by rw [ctA_len]; omega)
def pgF (p g : Int) (C : List Nat) (c : Cl) : List Nat := if c.1 = p ∧ c.2.1 = g then C.set c.2.2.1.toNat c.2.2.2 else C
def pgC (cs : List Cl) (p g : Int) : List Nat := cs.foldl (pgF p g) [0, 0, 0, 0, 0, 0, 0, 0]
def PgS : Spec := { rel := fun args ins res outs => ∃ (al : List Bool) (mp : List Nat) (cs : List Cl) (p g : Int), U64 mp ∧ al.length ≤ 1000000 ∧ mp.length ≤ 1000000 ∧ cs.length ≤ 1000000 ∧ args = [fm al mp cs, iv p, iv g] ∧ ins = [] ∧ res = .tup [.agg (ctA (if mapE al mp cs p g 0 = 0 then pgC cs p g else [0, 0, 0, 0, 0, 0, 0, 0])), iv (mapE al mp cs p g 0)] ∧ outs = [] }
theorem mapE_zero {al : List Bool} {mp : List Nat} {cs : List Cl} {p g w : Int} (h : mapE al mp cs p g w = 0) : lvsE al mp cs [p] = 0 ∧ Pgs g ∧ Wrd w ∧ mpd mp p g = true := by
  unfold mapE at h
  by_cases h0 : lvsE al mp cs [p] = 0
  · rw [if_neg (by simpa using h0)] at h
    by_cases h1 : Pgs g ∧ Wrd w
    · rw [if_neg (fun hh => hh h1)] at h
      cases h3 : mpd mp p g with
      | false => rw [h3] at h; simp at h
      | true => exact ⟨h0, h1.1, h1.2, rfl⟩
    · rw [if_pos h1] at h; cases h
  · rw [if_pos h0] at h; exact absurd h h0
end Go.Proofs.YtpocnjliigjidaaGreat
namespace Go.Proofs.YtpocnjliigjidaaGreat
open Go.RowKit
set_option maxRecDepth 100000
set_option linter.unusedSimpArgs false
set_option linter.unusedVariables false
abbrev rPgS : Spec := PgS
set_option maxHeartbeats 4000000 in
theorem rPg_ok : Ok Tryz.prog 31 PgS := by
  refine fn_ok PgS Tryz.func31 rfl rfl ?_
  rintro args ins res outs ⟨al, mp, cs, p, g, hu, la, lm, lc, rfl, rfl, rfl, rfl⟩
  refine ⟨by simp [Tryz.ntmps31], fun w0 V Bo mu0 => ?_⟩
  have M0 := livg_at al mp cs p hu la lm lc
  have hz := @lvs_zero al mp cs p
  obtain ⟨M, hM⟩ : ∃ M, mapE al mp cs p g 0 = M := ⟨_, rfl⟩
  rw [hM]
  unfold mapE at hM
  generalize lvsE al mp cs [p] = E at *
  have livg_at : livgS.rel [fm al mp cs, iv p] [] (iv E) [] := M0
  by_cases h0 : E = 0
  case neg =>
    rw [if_pos h0] at hM
    subst hM
    rw [if_neg h0, ctA_zero]
    repeat' (first | refine sA ?_ | with_reducible refine W_tf rfl (fun h => ?_) (fun h => ?_) | ((with_reducible first | refine hK _ ?_ | refine hK _ _ ?_); clear hK K) | ((first | refine sB ?_ | (with_reducible first | refine ops_cons (fun K hK => ?_) | refine opsd_cons (fun K hK => ?_) | refine W_reg lv31FlE ?_ | refine W_drw lv31FlE (by kernel_rfl) ?_) | ((with_reducible refine opsd_nil ?_); refine And.intro (by kernel_rfl) ?_) | with_reducible refine callV_snap ?_ | ((with_reducible refine call_go livgS livg_ok ?_); refine ⟨alk, _, _, livg_at , ?_⟩) | with_reducible refine And.intro (fun h => ?_) (fun h => ?_) | with_reducible refine And.intro (by omega) ?_); (try simp only [go_sem, seval, reduceCtorEq, h0, lv31FlE, Tryz.ntmps31, Tryz.results31, PgS])) | fail)
  subst h0
  rw [if_neg (by decide)] at hM
  obtain ⟨z1, z2, z3⟩ := hz rfl
  obtain ⟨n1, n2⟩ := flchk_len z1
  have hW0 : Wrd 0 := by unfold Wrd; decide
  by_cases hG : Pgs g
  case neg =>
    have d1 := decide_eq_false hG
    rw [if_pos (fun h => hG h.1)] at hM
    subst hM
    rw [if_neg (by decide), ctA_zero]
    repeat' (first | refine sA ?_ | with_reducible refine W_tf rfl (fun h => ?_) (fun h => ?_) | ((with_reducible first | refine hK _ ?_ | refine hK _ _ ?_); clear hK K) | ((first | refine sB ?_ | (with_reducible first | refine ops_cons (fun K hK => ?_) | refine opsd_cons (fun K hK => ?_) | refine W_reg lv31FlE ?_ | refine W_drw lv31FlE (by kernel_rfl) ?_) | ((with_reducible refine opsd_nil ?_); refine And.intro (by kernel_rfl) ?_) | with_reducible refine callV_snap ?_ | ((with_reducible refine call_go livgS livg_ok ?_); refine ⟨alk, _, _, livg_at , ?_⟩) | ((with_reducible refine call_go rpgsS rpgs_ok ?_); refine ⟨alk, _, _, rpgs_at g, ?_⟩) | with_reducible refine And.intro (fun h => ?_) (fun h => ?_) | with_reducible refine And.intro (by omega) ?_); (try simp only [go_sem, seval, reduceCtorEq, d1, lv31FlE, Tryz.ntmps31, Tryz.results31, PgS])) | fail)
  have d1 := decide_eq_true hG
  rw [if_neg (fun h => h ⟨hG, hW0⟩)] at hM
  cases hm : mpd mp p g with
  | false =>
    rw [hm, if_pos (show false = false from rfl)] at hM
    subst hM
    rw [if_neg (by decide), ctA_zero]
    repeat' (first | refine sA ?_ | with_reducible refine W_tf rfl (fun h => ?_) (fun h => ?_) | ((with_reducible first | refine hK _ ?_ | refine hK _ _ ?_); clear hK K) | ((first | refine sB ?_ | (with_reducible first | refine ops_cons (fun K hK => ?_) | refine opsd_cons (fun K hK => ?_) | refine W_reg lv31FlE ?_ | refine W_drw lv31FlE (by kernel_rfl) ?_) | ((with_reducible refine opsd_nil ?_); refine And.intro (by kernel_rfl) ?_) | with_reducible refine callV_snap ?_ | ((with_reducible refine call_go livgS livg_ok ?_); refine ⟨alk, _, _, livg_at , ?_⟩) | ((with_reducible refine call_go rpgsS rpgs_ok ?_); refine ⟨alk, _, _, rpgs_at g, ?_⟩) | ((with_reducible refine call_go rmapS rmap_ok ?_); refine ⟨alk, _, _, rmap_at al mp cs p g n2 hu z2 hG, ?_⟩) | with_reducible refine And.intro (fun h => ?_) (fun h => ?_) | with_reducible refine And.intro (by omega) ?_); (try simp only [go_sem, seval, reduceCtorEq, d1, hm, lv31FlE, Tryz.ntmps31, Tryz.results31, PgS])) | fail)
  | true =>
  rw [hm, if_neg (show ¬ true = false by decide)] at hM
  subst hM
  rw [if_pos (show (0 : Int) = 0 from rfl)]
  have hck := ckGo_mem cs none (flchk_go z1)
  obtain ⟨R, hR⟩ : ∃ R, pgC cs p g = R := ⟨_, rfl⟩
  rw [hR]
  unfold pgC at hR
  repeat' (first | refine sA ?_ | with_reducible refine W_tf rfl (fun h => ?_) (fun h => ?_) | ((with_reducible first | refine hK _ ?_ | refine hK _ _ ?_); clear hK K) | ((first | refine sB ?_ | (with_reducible first | refine ops_cons (fun K hK => ?_) | refine opsd_cons (fun K hK => ?_) | refine W_reg lv31FlE ?_ | refine W_drw lv31FlE (by kernel_rfl) ?_) | ((with_reducible refine opsd_nil ?_); refine And.intro (by kernel_rfl) ?_) | with_reducible refine callV_snap ?_ | ((with_reducible refine call_go livgS livg_ok ?_); refine ⟨alk, _, _, livg_at , ?_⟩) | ((with_reducible refine call_go rpgsS rpgs_ok ?_); refine ⟨alk, _, _, rpgs_at g, ?_⟩) | ((with_reducible refine call_go rmapS rmap_ok ?_); refine ⟨alk, _, _, rmap_at al mp cs p g n2 hu z2 hG, ?_⟩) | with_reducible refine And.intro (fun h => ?_) (fun h => ?_) | with_reducible refine And.intro (by omega) ?_); (try simp only [go_sem, seval, reduceCtorEq, d1, hm, lv31FlE, Tryz.ntmps31, Tryz.results31, PgS])) | fail)
  refine W_loop (fun x : Nat × List Nat => ⟨[(1, iv p), (2, iv g), (3, .ptr 0 0), (6, .ptr 1 0), (8, .ptr 2 0), (10, iv x.1)], [some (.box 38 [.d (.sl (al.map encDB)), .d (.sl (mp.map encU)), .d (.sl (cs.map encCl))]), some (.box 26 [wv 0, wv 0, wv 0, wv 0, wv 0, wv 0, wv 0, wv 0]), some (.box 26 (ctA x.2))]⟩) (fun x => x.1 ≤ cs.length ∧ x.2.length = 8 ∧ (cs.drop x.1).foldl (pgF p g) x.2 = R) (fun x => cs.length - x.1) (0, [0, 0, 0, 0, 0, 0, 0, 0]) ⟨Nat.zero_le _, rfl, by simpa using hR⟩ [0, 1, 2] ?_ ?_
  · simp [go_sem, ctA_zero, ctA_ren]
  rintro ⟨i, C⟩ ⟨hi, hC, hgo⟩
  dsimp only at hi hC hgo
  have hCl : (ctA C).length = 8 := by rw [ctA_len, hC]
  have hCt : List.take 8 (ctA C) = ctA C := ctA_take C hC
  by_cases hlt : i < cs.length
  · have hki : (i : Int) < cs.length := by omega
    rw [drop_get cs i hlt, List.foldl_cons] at hgo
    have hci := ck1_zero (hck _ (List.getElem_mem hlt))
    obtain ⟨⟨cp, cg, cw, cv⟩, hc⟩ : ∃ c, cs[i] = c := ⟨_, rfl⟩
    rw [hc] at hgo hci
    obtain ⟨_, _, ⟨w0', w1'⟩, _, _⟩ := hci
    dsimp only at w0' w1'
    obtain ⟨w, rfl⟩ := Int.eq_ofNat_of_zero_le w0'
    have e0 : encCl cs[i] = [.int .i64 cp, .int .i64 cg, .int .i64 (w : Int), .int .u64 (cv : Int)] := by rw [hc]; rfl
    have hw8 : w < 8 := by omega
    by_cases h1 : cp = p
    · by_cases h2 : cg = g
      · have hF : pgF p g C (cp, cg, (w : Int), cv) = C.set w cv := by unfold pgF; rw [if_pos ⟨h1, h2⟩]; simp
        rw [hF] at hgo
        have hset := ctA_set (C := C) (w := w) (v := cv) (by omega)
        repeat' (first | refine sA ?_ | with_reducible refine W_tf rfl (fun h => ?_) (fun h => ?_) | ((with_reducible first | refine hK _ ?_ | refine hK _ _ ?_); clear hK K) | ((first | refine sB ?_ | (with_reducible first | refine ops_cons (fun K hK => ?_) | refine opsd_cons (fun K hK => ?_) | refine W_reg lv31FlE ?_ | refine W_drw lv31FlE (by kernel_rfl) ?_) | ((with_reducible refine opsd_nil ?_); refine And.intro (by kernel_rfl) ?_) | with_reducible refine callV_snap ?_ | with_reducible refine And.intro (fun h => ?_) (fun h => ?_) | with_reducible refine And.intro (by omega) ?_); (try simp only [go_sem, seval, reduceCtorEq, hki, e0, h1, h2, Int.toNat_natCast, Nat.mul_one, hCl, lv31FlE, Tryz.ntmps31, Tryz.results31, PgS])) | fail)
        refine ⟨(i + 1, C.set w cv), [0, 1, 2], ⟨by dsimp only; omega, by simp [hC], hgo⟩, by dsimp only; omega, ?_⟩
        simp [go_sem, hset, ctA_ren]
      · have hF : pgF p g C (cp, cg, (w : Int), cv) = C := by unfold pgF; rw [if_neg (fun h => h2 h.2)]
        rw [hF] at hgo
        repeat' (first | refine sA ?_ | with_reducible refine W_tf rfl (fun h => ?_) (fun h => ?_) | ((with_reducible first | refine hK _ ?_ | refine hK _ _ ?_); clear hK K) | ((first | refine sB ?_ | (with_reducible first | refine ops_cons (fun K hK => ?_) | refine opsd_cons (fun K hK => ?_) | refine W_reg lv31FlE ?_ | refine W_drw lv31FlE (by kernel_rfl) ?_) | ((with_reducible refine opsd_nil ?_); refine And.intro (by kernel_rfl) ?_) | with_reducible refine callV_snap ?_ | with_reducible refine And.intro (fun h => ?_) (fun h => ?_) | with_reducible refine And.intro (by omega) ?_); (try simp only [go_sem, seval, reduceCtorEq, hki, e0, h1, h2, lv31FlE, Tryz.ntmps31, Tryz.results31, PgS])) | fail)
        refine ⟨(i + 1, C), [0, 1, 2], ⟨by dsimp only; omega, hC, hgo⟩, by dsimp only; omega, ?_⟩
        simp [go_sem, ctA_ren]
    · have hF : pgF p g C (cp, cg, (w : Int), cv) = C := by unfold pgF; rw [if_neg (fun h => h1 h.1)]
      rw [hF] at hgo
      repeat' (first | refine sA ?_ | with_reducible refine W_tf rfl (fun h => ?_) (fun h => ?_) | ((with_reducible first | refine hK _ ?_ | refine hK _ _ ?_); clear hK K) | ((first | refine sB ?_ | (with_reducible first | refine ops_cons (fun K hK => ?_) | refine opsd_cons (fun K hK => ?_) | refine W_reg lv31FlE ?_ | refine W_drw lv31FlE (by kernel_rfl) ?_) | ((with_reducible refine opsd_nil ?_); refine And.intro (by kernel_rfl) ?_) | with_reducible refine callV_snap ?_ | with_reducible refine And.intro (fun h => ?_) (fun h => ?_) | with_reducible refine And.intro (by omega) ?_); (try simp only [go_sem, seval, reduceCtorEq, hki, e0, h1, lv31FlE, Tryz.ntmps31, Tryz.results31, PgS])) | fail)
      refine ⟨(i + 1, C), [0, 1, 2], ⟨by dsimp only; omega, hC, hgo⟩, by dsimp only; omega, ?_⟩
      simp [go_sem, ctA_ren]
  · have hki : ¬ (i : Int) < cs.length := by omega
    rw [List.drop_eq_nil_of_le (by omega)] at hgo
    have hCR : C = R := hgo
    subst hCR
    have hfl := ctA_flat C
    repeat' (first | refine sA ?_ | with_reducible refine W_tf rfl (fun h => ?_) (fun h => ?_) | ((with_reducible first | refine hK _ ?_ | refine hK _ _ ?_); clear hK K) | ((first | refine sB ?_ | (with_reducible first | refine ops_cons (fun K hK => ?_) | refine opsd_cons (fun K hK => ?_) | refine W_reg lv31FlE ?_ | refine W_drw lv31FlE (by kernel_rfl) ?_) | ((with_reducible refine opsd_nil ?_); refine And.intro (by kernel_rfl) ?_) | with_reducible refine callV_snap ?_ | with_reducible refine And.intro (fun h => ?_) (fun h => ?_) | with_reducible refine And.intro (by omega) ?_); (try simp only [go_sem, seval, reduceCtorEq, hki, hCl, hCt, ctA_ren, hfl, lv31FlE, Tryz.ntmps31, Tryz.results31, PgS])) | fail)
end Go.Proofs.YtpocnjliigjidaaGreat
