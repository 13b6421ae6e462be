import Derived.Test.YtpocnjliigjidaaGreatFlB
/- A flat memory: who lives, what is mapped; both sides, by the engine. -/
namespace Go.Proofs.YtpocnjliigjidaaGreat
open Go.RowKit
set_option maxRecDepth 100000
set_option linter.unusedSimpArgs false
set_option linter.unusedVariables false
abbrev lv51FlD : List (Nat × List Nat) := [(0, [1, 2, 3, 4]), (1, [1, 2, 3, 4, 9]), (2, [1, 2, 3, 4, 9, 15]), (3, [8]), (4, [1, 2, 4, 24]), (5, [8]), (6, [35]), (7, [8]), (8, [8])]
abbrev lv52FlD : List (Nat × List Nat) := [(0, [1, 2]), (1, [1, 2, 5]), (2, [5, 20]), (3, [5]), (4, [4])]
abbrev lv88FlD : List (Nat × List Nat) := [(0, [1, 2]), (1, [1, 2, 5]), (2, [1, 2, 5, 13]), (3, [4]), (4, [1, 2, 15, 16, 17]), (5, [1, 2, 15, 16, 17, 18]), (6, [1, 2, 7, 15, 16, 17]), (7, [1, 2, 15, 16, 17, 23]), (8, [4]), (9, [1, 2, 15, 16, 17]), (10, [2, 25, 26, 27]), (11, [2, 25, 26, 27, 28]), (12, [2, 9, 25, 26, 27]), (13, [2, 25, 26, 27, 37]), (14, [4]), (15, [2, 25, 26, 27]), (16, [4])]
abbrev lv89FlD : List (Nat × List Nat) := [(0, [1, 2, 3]), (1, [1, 2, 7]), (2, [7, 21]), (3, [7]), (4, [6])]
theorem flchk_len {al : List Bool} {mp : List Nat} {cs : List Cl} (h : flchk al mp cs = 0) : al.length = 8 ∧ mp.length = 8 := by
  unfold flchk at h
  split at h
  · cases h
  · omega
def alv (al : List Bool) (p : Int) : Bool := al[(p - 1).toNat]?.getD false
def lvsE (al : List Bool) (mp : List Nat) (cs : List Cl) (l : List Int) : Int := if flchk al mp cs ≠ 0 then flchk al mp cs else if (l.any fun p => !decide (Prc p)) = true then 2 else if (l.any fun p => !alv al p) = true then 11 else 0
def livesS : Spec := { rel := fun args ins res outs => ∃ (al : List Bool) (mp : List Nat) (cs : List Cl) (l : List Int), U64 mp ∧ al.length ≤ 1000000 ∧ mp.length ≤ 1000000 ∧ cs.length ≤ 1000000 ∧ l.length ≤ 1000000 ∧ args = [fm al mp cs, dI l] ∧ ins = [] ∧ res = iv (lvsE al mp cs l) ∧ outs = [] }
theorem lives_at (al : List Bool) (mp : List Nat) (cs : List Cl) (l : List Int) (h : U64 mp) (h1 : al.length ≤ 1000000) (h2 : mp.length ≤ 1000000) (h3 : cs.length ≤ 1000000) (h4 : l.length ≤ 1000000) : livesS.rel [fm al mp cs, dI l] [] (iv (lvsE al mp cs l)) [] := ⟨al, mp, cs, l, h, h1, h2, h3, h4, rfl, rfl, rfl, rfl⟩
theorem any_get {l : List Int} {f : Int → Bool} {i : Nat} (h : i < l.length) (hf : f l[i] = true) : l.any f = true := List.any_eq_true.2 ⟨_, List.getElem_mem h, hf⟩
theorem any_no {l : List Int} {f : Int → Bool} (h : ∀ i (hi : i < l.length), f l[i] = false) : l.any f = false := by
  rw [← Bool.not_eq_true]
  intro h2
  obtain ⟨x, hx, h3⟩ := List.any_eq_true.1 h2
  obtain ⟨i, hi, rfl⟩ := List.getElem_of_mem hx
  rw [h i hi] at h3; cases h3
set_option maxHeartbeats 4000000 in
theorem lives_ok : Ok Tryz.prog 88 livesS := by
  refine fn_ok livesS Tryz.func88 rfl rfl ?_
  rintro args ins res outs ⟨al, mp, cs, l, hu, la, lm, lc, ll, rfl, rfl, rfl, rfl⟩
  refine ⟨by simp [Tryz.ntmps88], fun w0 V Bo mu0 => ?_⟩
  obtain ⟨E, hE⟩ : ∃ E, lvsE al mp cs l = E := ⟨_, rfl⟩
  rw [hE]
  unfold lvsE at hE
  by_cases h0 : flchk al mp cs = 0
  case neg =>
    rw [if_pos h0] at hE
    rw [← hE]
    repeat' (first | refine sA ?_ | with_reducible refine W_tf rfl (fun h => ?_) (fun h => ?_) | ((with_reducible first | refine hK _ ?_ | refine hK _ _ ?_); clear hK K) | ((first | refine sB ?_ | (with_reducible first | refine ops_cons (fun K hK => ?_) | refine W_reg lv88FlD ?_) | with_reducible refine callV_snap ?_ | ((with_reducible refine call_go CkS Ck_ok ?_); refine ⟨alk, _, _, Ck_at al mp cs hu la lm lc, ?_⟩) | with_reducible refine And.intro (fun h => ?_) (fun h => ?_) | with_reducible refine And.intro (by omega) ?_); (try simp only [go_sem, seval, reduceCtorEq, h0, lv88FlD, Tryz.ntmps88, Tryz.results88, livesS])) | fail)
  rw [if_neg (by simpa using h0)] at hE
  obtain ⟨g1, g2⟩ := flchk_len h0
  have Ck_at : CkS.rel [fm al mp cs] [] (iv 0) [] := by
    have := Ck_at al mp cs hu la lm lc
    rwa [h0] at this
  repeat' (first | refine sA ?_ | with_reducible refine W_tf rfl (fun h => ?_) (fun h => ?_) | ((with_reducible first | refine hK _ ?_ | refine hK _ _ ?_); clear hK K) | ((first | refine sB ?_ | (with_reducible first | refine ops_cons (fun K hK => ?_) | refine W_reg lv88FlD ?_) | with_reducible refine callV_snap ?_ | ((with_reducible refine call_go CkS Ck_ok ?_); refine ⟨alk, _, _, Ck_at , ?_⟩) | with_reducible refine And.intro (fun h => ?_) (fun h => ?_) | with_reducible refine And.intro (by omega) ?_); (try simp only [go_sem, seval, reduceCtorEq, lv88FlD, Tryz.ntmps88, Tryz.results88, livesS])) | fail)
  refine W_loop (fun i : Nat => ⟨[(1, dI l), (2, .ptr 0 0), (15, dI l), (16, iv l.length), (17, iv i)], [some (.box 38 [.d (.sl (al.map encDB)), .d (.sl (mp.map encU)), .d (.sl (cs.map encCl))])]⟩) (fun i => i ≤ l.length ∧ ∀ j (h : j < l.length), j < i → Prc l[j]) (fun i => l.length - i) 0 ⟨Nat.zero_le _, fun j _ h => absurd h (Nat.not_lt_zero _)⟩ [0] ?_ ?_
  · simp [go_sem]
  rintro i ⟨hi, hP⟩
  by_cases hlt : i < l.length
  · have hki : (i : Int) < l.length := by omega
    have e0 : encDI l[i] = [.int .i64 l[i]] := rfl
    by_cases hp : Prc l[i]
    · have d1 := decide_eq_true hp
      repeat' (first | refine sA ?_ | with_reducible refine W_tf rfl (fun h => ?_) (fun h => ?_) | ((with_reducible first | refine hK _ ?_ | refine hK _ _ ?_); clear hK K) | ((first | refine sB ?_ | (with_reducible first | refine ops_cons (fun K hK => ?_) | refine W_reg lv88FlD ?_) | with_reducible refine callV_snap ?_ | ((with_reducible refine call_go prcS prc_ok ?_); refine ⟨alk, _, _, prc_at l[i], ?_⟩) | with_reducible refine And.intro (fun h => ?_) (fun h => ?_) | with_reducible refine And.intro (by omega) ?_); (try simp only [go_sem, seval, reduceCtorEq, hki, e0, d1, lv88FlD, Tryz.ntmps88, Tryz.results88, livesS])) | fail)
      refine ⟨i + 1, [0], ⟨by omega, fun j g1 g2 => ?_⟩, by omega, ?_⟩
      · by_cases hj : j = i
        · subst hj; exact hp
        · exact hP j g1 (by omega)
      · simp [go_sem]
    · have d1 := decide_eq_false hp
      rw [if_pos (any_get hlt (by rw [d1]; rfl))] at hE
      rw [← hE]
      repeat' (first | refine sA ?_ | with_reducible refine W_tf rfl (fun h => ?_) (fun h => ?_) | ((with_reducible first | refine hK _ ?_ | refine hK _ _ ?_); clear hK K) | ((first | refine sB ?_ | (with_reducible first | refine ops_cons (fun K hK => ?_) | refine W_reg lv88FlD ?_) | with_reducible refine callV_snap ?_ | ((with_reducible refine call_go prcS prc_ok ?_); refine ⟨alk, _, _, prc_at l[i], ?_⟩) | with_reducible refine And.intro (fun h => ?_) (fun h => ?_) | with_reducible refine And.intro (by omega) ?_); (try simp only [go_sem, seval, reduceCtorEq, hki, e0, d1, lv88FlD, Tryz.ntmps88, Tryz.results88, livesS])) | fail)
  · have hki : ¬ (i : Int) < l.length := by omega
    have hP' : ∀ j (h : j < l.length), Prc l[j] := fun j h => hP j h (by omega)
    rw [any_no (fun j h => by rw [decide_eq_true (hP' j h)]; rfl), if_neg (by decide)] at hE
    repeat' (first | refine sA ?_ | with_reducible refine W_tf rfl (fun h => ?_) (fun h => ?_) | ((with_reducible first | refine hK _ ?_ | refine hK _ _ ?_); clear hK K) | ((first | refine sB ?_ | (with_reducible first | refine ops_cons (fun K hK => ?_) | refine W_reg lv88FlD ?_) | with_reducible refine callV_snap ?_ | with_reducible refine And.intro (fun h => ?_) (fun h => ?_) | with_reducible refine And.intro (by omega) ?_); (try simp only [go_sem, seval, reduceCtorEq, hki, lv88FlD, Tryz.ntmps88, Tryz.results88, livesS])) | fail)
    refine W_loop (fun i : Nat => ⟨[(2, .ptr 0 0), (25, dI l), (26, iv l.length), (27, iv i)], [some (.box 38 [.d (.sl (al.map encDB)), .d (.sl (mp.map encU)), .d (.sl (cs.map encCl))])]⟩) (fun i => i ≤ l.length ∧ ∀ j (h : j < l.length), j < i → alv al l[j] = true) (fun i => l.length - i) 0 ⟨Nat.zero_le _, fun j _ h => absurd h (Nat.not_lt_zero _)⟩ [0] ?_ ?_
    · simp [go_sem]
    clear hP hi hki
    rintro i ⟨hi, hA⟩
    by_cases hlt : i < l.length
    · have hki : (i : Int) < l.length := by omega
      obtain ⟨p, hp⟩ : ∃ p, l[i] = p := ⟨_, rfl⟩
      have e0 : encDI l[i] = [.int .i64 p] := by rw [hp]; rfl
      have hpp := hP' i hlt
      rw [hp] at hpp
      obtain ⟨k, rfl⟩ : ∃ k : Nat, p = (k : Int) + 1 := ⟨(p - 1).toNat, by have := hpp.1; omega⟩
      have hk : k < al.length := by have := hpp.2; omega
      have hp1 : (k : Int) + 1 - 1 = (k : Int) := by omega
      have hv : alv al l[i] = al[k] := by rw [hp]; unfold alv; rw [hp1]; simp [hk]
      cases hb : al[k] with
      | true =>
        have ea : encDB al[k] = [.bool true] := by rw [hb]; rfl
        repeat' (first | refine sA ?_ | with_reducible refine W_tf rfl (fun h => ?_) (fun h => ?_) | ((with_reducible first | refine hK _ ?_ | refine hK _ _ ?_); clear hK K) | ((first | refine sB ?_ | (with_reducible first | refine ops_cons (fun K hK => ?_) | refine W_reg lv88FlD ?_) | with_reducible refine callV_snap ?_ | with_reducible refine And.intro (fun h => ?_) (fun h => ?_) | with_reducible refine And.intro (by omega) ?_); (try simp only [go_sem, seval, reduceCtorEq, hki, e0, hp1, ea, lv88FlD, Tryz.ntmps88, Tryz.results88, livesS])) | fail)
        refine ⟨i + 1, [0], ⟨by omega, fun j g1 g2 => ?_⟩, by omega, ?_⟩
        · by_cases hj : j = i
          · subst hj; rw [hv, hb]
          · exact hA j g1 (by omega)
        · simp [go_sem]
      | false =>
        have ea : encDB al[k] = [.bool false] := by rw [hb]; rfl
        rw [if_pos (any_get hlt (by rw [hv, hb]; rfl))] at hE
        rw [← hE]
        repeat' (first | refine sA ?_ | with_reducible refine W_tf rfl (fun h => ?_) (fun h => ?_) | ((with_reducible first | refine hK _ ?_ | refine hK _ _ ?_); clear hK K) | ((first | refine sB ?_ | (with_reducible first | refine ops_cons (fun K hK => ?_) | refine W_reg lv88FlD ?_) | with_reducible refine callV_snap ?_ | with_reducible refine And.intro (fun h => ?_) (fun h => ?_) | with_reducible refine And.intro (by omega) ?_); (try simp only [go_sem, seval, reduceCtorEq, hki, e0, hp1, ea, lv88FlD, Tryz.ntmps88, Tryz.results88, livesS])) | fail)
    · have hki : ¬ (i : Int) < l.length := by omega
      rw [any_no (fun j h => by rw [hA j h (by omega)]; rfl), if_neg (by decide)] at hE
      rw [← hE]
      repeat' (first | refine sA ?_ | with_reducible refine W_tf rfl (fun h => ?_) (fun h => ?_) | ((with_reducible first | refine hK _ ?_ | refine hK _ _ ?_); clear hK K) | ((first | refine sB ?_ | (with_reducible first | refine ops_cons (fun K hK => ?_) | refine W_reg lv88FlD ?_) | with_reducible refine callV_snap ?_ | with_reducible refine And.intro (fun h => ?_) (fun h => ?_) | with_reducible refine And.intro (by omega) ?_); (try simp only [go_sem, seval, reduceCtorEq, hki, lv88FlD, Tryz.ntmps88, Tryz.results88, livesS])) | fail)
def mapE (al : List Bool) (mp : List Nat) (cs : List Cl) (p g w : Int) : Int := if lvsE al mp cs [p] ≠ 0 then lvsE al mp cs [p] else if ¬ (Pgs g ∧ Wrd w) then 2 else if mpd mp p g = false then 12 else 0
theorem lvs_zero {al : List Bool} {mp : List Nat} {cs : List Cl} {p : Int} (h : lvsE al mp cs [p] = 0) : flchk al mp cs = 0 ∧ Prc p ∧ alv al p = true := by
  unfold lvsE at h
  by_cases h0 : flchk al mp cs = 0
  · rw [if_neg (by simpa using h0)] at h
    simp only [List.any_cons, List.any_nil, Bool.or_false] at h
    by_cases h1 : Prc p
    · rw [decide_eq_true h1, if_neg (by decide)] at h
      cases hb : alv al p with
      | true => exact ⟨h0, h1, rfl⟩
      | false => rw [hb] at h; simp at h
    · rw [decide_eq_false h1] at h; simp at h
  · rw [if_pos h0] at h; exact absurd h h0
def mapdS : Spec := { rel := fun args ins res outs => ∃ (al : List Bool) (mp : List Nat) (cs : List Cl) (p g w : Int), U64 mp ∧ al.length ≤ 1000000 ∧ mp.length ≤ 1000000 ∧ cs.length ≤ 1000000 ∧ args = [fm al mp cs, iv p, iv g, iv w] ∧ ins = [] ∧ res = iv (mapE al mp cs p g w) ∧ outs = [] }
theorem mapd_at (al : List Bool) (mp : List Nat) (cs : List Cl) (p g w : Int) (h : U64 mp) (h1 : al.length ≤ 1000000) (h2 : mp.length ≤ 1000000) (h3 : cs.length ≤ 1000000) : mapdS.rel [fm al mp cs, iv p, iv g, iv w] [] (iv (mapE al mp cs p g w)) [] := ⟨al, mp, cs, p, g, w, h, h1, h2, h3, rfl, rfl, rfl, rfl⟩
set_option maxHeartbeats 4000000 in
theorem mapd_ok : Ok Tryz.prog 51 mapdS := by
  refine fn_ok mapdS Tryz.func51 rfl rfl ?_
  rintro args ins res outs ⟨al, mp, cs, p, g, w, hu, la, lm, lc, rfl, rfl, rfl, rfl⟩
  refine ⟨by simp [Tryz.ntmps51], fun w0 V Bo mu0 => ?_⟩
  have L0 := lives_at al mp cs [p] hu la lm lc (by simp)
  obtain ⟨E, hE⟩ : ∃ E, lvsE al mp cs [p] = E := ⟨_, rfl⟩
  unfold mapE
  rw [hE] at L0 ⊢
  have lives_at : livesS.rel [fm al mp cs, .d (.sl [[.int .i64 p]])] [] (iv E) [] := L0
  by_cases h0 : E = 0
  case neg =>
    rw [if_pos h0]
    repeat' (first | refine sA ?_ | with_reducible refine W_tf rfl (fun h => ?_) (fun h => ?_) | ((with_reducible first | refine hK _ ?_ | refine hK _ _ ?_); clear hK K) | ((first | refine sB ?_ | (with_reducible first | refine ops_cons (fun K hK => ?_) | refine opsd_cons (fun K hK => ?_) | refine W_reg lv51FlD ?_ | refine W_drw lv51FlD (by kernel_rfl) ?_) | ((with_reducible refine opsd_nil ?_); refine And.intro (by kernel_rfl) ?_) | with_reducible refine callV_snap ?_ | ((with_reducible refine call_go livesS lives_ok ?_); refine ⟨alk, _, _, lives_at , ?_⟩) | with_reducible refine And.intro (fun h => ?_) (fun h => ?_) | with_reducible refine And.intro (by omega) ?_); (try simp only [go_sem, seval, reduceCtorEq, h0, lv51FlD, Tryz.ntmps51, Tryz.results51, mapdS])) | fail)
  subst h0
  obtain ⟨g0, ⟨g1, g2⟩, g3⟩ := lvs_zero hE
  obtain ⟨l1, l2⟩ := flchk_len g0
  rw [if_neg (by decide)]
  by_cases hG : Pgs g
  case neg =>
    have d1 := decide_eq_false hG
    rw [if_pos (fun h => hG h.1)]
    repeat' (first | refine sA ?_ | with_reducible refine W_tf rfl (fun h => ?_) (fun h => ?_) | ((with_reducible first | refine hK _ ?_ | refine hK _ _ ?_); clear hK K) | ((first | refine sB ?_ | (with_reducible first | refine ops_cons (fun K hK => ?_) | refine opsd_cons (fun K hK => ?_) | refine W_reg lv51FlD ?_ | refine W_drw lv51FlD (by kernel_rfl) ?_) | ((with_reducible refine opsd_nil ?_); refine And.intro (by kernel_rfl) ?_) | with_reducible refine callV_snap ?_ | ((with_reducible refine call_go livesS lives_ok ?_); refine ⟨alk, _, _, lives_at , ?_⟩) | ((with_reducible refine call_go pgsS pgs_ok ?_); refine ⟨alk, _, _, pgs_at g, ?_⟩) | with_reducible refine And.intro (fun h => ?_) (fun h => ?_) | with_reducible refine And.intro (by omega) ?_); (try simp only [go_sem, seval, reduceCtorEq, d1, lv51FlD, Tryz.ntmps51, Tryz.results51, mapdS])) | fail)
  have d1 := decide_eq_true hG
  by_cases hW : Wrd w
  case neg =>
    have d2 := decide_eq_false hW
    rw [if_pos (fun h => hW h.2)]
    repeat' (first | refine sA ?_ | with_reducible refine W_tf rfl (fun h => ?_) (fun h => ?_) | ((with_reducible first | refine hK _ ?_ | refine hK _ _ ?_); clear hK K) | ((first | refine sB ?_ | (with_reducible first | refine ops_cons (fun K hK => ?_) | refine opsd_cons (fun K hK => ?_) | refine W_reg lv51FlD ?_ | refine W_drw lv51FlD (by kernel_rfl) ?_) | ((with_reducible refine opsd_nil ?_); refine And.intro (by kernel_rfl) ?_) | with_reducible refine callV_snap ?_ | ((with_reducible refine call_go livesS lives_ok ?_); refine ⟨alk, _, _, lives_at , ?_⟩) | ((with_reducible refine call_go pgsS pgs_ok ?_); refine ⟨alk, _, _, pgs_at g, ?_⟩) | ((with_reducible refine call_go wrdS wrd_ok ?_); refine ⟨alk, _, _, wrd_at w, ?_⟩) | with_reducible refine And.intro (fun h => ?_) (fun h => ?_) | with_reducible refine And.intro (by omega) ?_); (try simp only [go_sem, seval, reduceCtorEq, d1, d2, lv51FlD, Tryz.ntmps51, Tryz.results51, mapdS])) | fail)
  have d2 := decide_eq_true hW
  rw [if_neg (fun h => h ⟨hG, hW⟩)]
  obtain ⟨h5, h6⟩ := hG
  obtain ⟨j, rfl⟩ : ∃ j : Nat, p = (j : Int) + 1 := ⟨(p - 1).toNat, by omega⟩
  obtain ⟨k, rfl⟩ := Int.eq_ofNat_of_zero_le h5
  have hj : j < mp.length := by omega
  have hp1 : (j : Int) + 1 - 1 = (j : Int) := by omega
  have hb := and_bit0 (hu _ (List.getElem_mem hj)) (g := k) (by omega)
  have eu : encU mp[j] = [.int .u64 (mp[j] : Int)] := rfl
  have hm : mpd mp ((j : Int) + 1) (k : Int) = mp[j].testBit k := by unfold mpd; rw [hp1]; simp [hj]
  rw [hm]
  cases ht : mp[j].testBit k with
  | false =>
    have hb' := hb.2 ht
    rw [if_pos rfl]
    repeat' (first | refine sA ?_ | with_reducible refine W_tf rfl (fun h => ?_) (fun h => ?_) | ((with_reducible first | refine hK _ ?_ | refine hK _ _ ?_); clear hK K) | ((first | refine sB ?_ | (with_reducible first | refine ops_cons (fun K hK => ?_) | refine opsd_cons (fun K hK => ?_) | refine W_reg lv51FlD ?_ | refine W_drw lv51FlD (by kernel_rfl) ?_) | ((with_reducible refine opsd_nil ?_); refine And.intro (by kernel_rfl) ?_) | with_reducible refine callV_snap ?_ | ((with_reducible refine call_go livesS lives_ok ?_); refine ⟨alk, _, _, lives_at , ?_⟩) | ((with_reducible refine call_go pgsS pgs_ok ?_); refine ⟨alk, _, _, pgs_at _, ?_⟩) | ((with_reducible refine call_go wrdS wrd_ok ?_); refine ⟨alk, _, _, wrd_at w, ?_⟩) | ((with_reducible refine call_go pagesS pages_ok ?_); refine ⟨alk, _, _, pages_at k k (Nat.le_refl _) (by omega), ?_⟩) | with_reducible refine And.intro (fun h => ?_) (fun h => ?_) | with_reducible refine And.intro (by omega) ?_); (try simp only [go_sem, seval, reduceCtorEq, d1, d2, hp1, eu, hb', lv51FlD, Tryz.ntmps51, Tryz.results51, mapdS])) | fail)
  | true =>
    have hb' : ¬ bits .and .u64 (mp[j] : Int) (pgM k k : Int) = 0 := fun h => by rw [hb.1 h] at ht; cases ht
    rw [if_neg (by decide)]
    repeat' (first | refine sA ?_ | with_reducible refine W_tf rfl (fun h => ?_) (fun h => ?_) | ((with_reducible first | refine hK _ ?_ | refine hK _ _ ?_); clear hK K) | ((first | refine sB ?_ | (with_reducible first | refine ops_cons (fun K hK => ?_) | refine opsd_cons (fun K hK => ?_) | refine W_reg lv51FlD ?_ | refine W_drw lv51FlD (by kernel_rfl) ?_) | ((with_reducible refine opsd_nil ?_); refine And.intro (by kernel_rfl) ?_) | with_reducible refine callV_snap ?_ | ((with_reducible refine call_go livesS lives_ok ?_); refine ⟨alk, _, _, lives_at , ?_⟩) | ((with_reducible refine call_go pgsS pgs_ok ?_); refine ⟨alk, _, _, pgs_at _, ?_⟩) | ((with_reducible refine call_go wrdS wrd_ok ?_); refine ⟨alk, _, _, wrd_at w, ?_⟩) | ((with_reducible refine call_go pagesS pages_ok ?_); refine ⟨alk, _, _, pages_at k k (Nat.le_refl _) (by omega), ?_⟩) | with_reducible refine And.intro (fun h => ?_) (fun h => ?_) | with_reducible refine And.intro (by omega) ?_); (try simp only [go_sem, seval, reduceCtorEq, d1, d2, hp1, eu, hb', lv51FlD, Tryz.ntmps51, Tryz.results51, mapdS])) | fail)
def askE29 (al : List Bool) (mp : List Nat) (cs : List Cl) (a b : Int) : Int := if flchk al mp cs ≠ 0 then flchk al mp cs else if ¬ (Prc a ∧ Prc b) then 2 else 0
def askS : Spec := { rel := fun args ins res outs => ∃ (al : List Bool) (mp : List Nat) (cs : List Cl) (a b : Int), U64 mp ∧ al.length ≤ 1000000 ∧ mp.length ≤ 1000000 ∧ cs.length ≤ 1000000 ∧ args = [fm al mp cs, iv a, iv b] ∧ ins = [] ∧ res = iv (askE29 al mp cs a b) ∧ outs = [] }
theorem ask_at (al : List Bool) (mp : List Nat) (cs : List Cl) (a b : Int) (h : U64 mp) (h1 : al.length ≤ 1000000) (h2 : mp.length ≤ 1000000) (h3 : cs.length ≤ 1000000) : askS.rel [fm al mp cs, iv a, iv b] [] (iv (askE29 al mp cs a b)) [] := ⟨al, mp, cs, a, b, h, h1, h2, h3, rfl, rfl, rfl, rfl⟩
theorem ask_ok : Ok Tryz.prog 89 askS := by
  refine fn_ok askS Tryz.func89 rfl rfl ?_
  rintro args ins res outs ⟨al, mp, cs, a, b, hu, la, lm, lc, rfl, rfl, rfl, rfl⟩
  refine ⟨by simp [Tryz.ntmps89], fun w0 V Bo mu0 => ?_⟩
  have L0 := rCk_at al mp cs hu la lm lc
  unfold askE29
  generalize flchk al mp cs = E at *
  have rCk_at : rCkS.rel [fm al mp cs] [] (iv E) [] := L0
  by_cases h0 : E = 0
  case neg =>
    rw [if_pos h0]
    repeat' (first | refine sA ?_ | with_reducible refine W_tf rfl (fun h => ?_) (fun h => ?_) | ((with_reducible first | refine hK _ ?_ | refine hK _ _ ?_); clear hK K) | ((first | refine sB ?_ | (with_reducible first | refine ops_cons (fun K hK => ?_) | refine W_reg lv89FlD ?_) | with_reducible refine callV_snap ?_ | ((with_reducible refine call_go rCkS rCk_ok ?_); refine ⟨alk, _, _, rCk_at , ?_⟩) | with_reducible refine And.intro (fun h => ?_) (fun h => ?_) | with_reducible refine And.intro (by omega) ?_); (try simp only [go_sem, seval, reduceCtorEq, h0, lv89FlD, Tryz.ntmps89, Tryz.results89, askS])) | fail)
  subst h0
  rw [if_neg (by decide)]
  by_cases ha : Prc a
  case neg =>
    have d1 := decide_eq_false ha
    rw [if_pos (fun h => ha h.1)]
    repeat' (first | refine sA ?_ | with_reducible refine W_tf rfl (fun h => ?_) (fun h => ?_) | ((with_reducible first | refine hK _ ?_ | refine hK _ _ ?_); clear hK K) | ((first | refine sB ?_ | (with_reducible first | refine ops_cons (fun K hK => ?_) | refine W_reg lv89FlD ?_) | with_reducible refine callV_snap ?_ | ((with_reducible refine call_go rCkS rCk_ok ?_); refine ⟨alk, _, _, rCk_at , ?_⟩) | ((with_reducible refine call_go rprcS rprc_ok ?_); refine ⟨alk, _, _, rprc_at a, ?_⟩) | with_reducible refine And.intro (fun h => ?_) (fun h => ?_) | with_reducible refine And.intro (by omega) ?_); (try simp only [go_sem, seval, reduceCtorEq, d1, lv89FlD, Tryz.ntmps89, Tryz.results89, askS])) | fail)
  have d1 := decide_eq_true ha
  by_cases hb : Prc b
  case neg =>
    have d2 := decide_eq_false hb
    rw [if_pos (fun h => hb h.2)]
    repeat' (first | refine sA ?_ | with_reducible refine W_tf rfl (fun h => ?_) (fun h => ?_) | ((with_reducible first | refine hK _ ?_ | refine hK _ _ ?_); clear hK K) | ((first | refine sB ?_ | (with_reducible first | refine ops_cons (fun K hK => ?_) | refine W_reg lv89FlD ?_) | with_reducible refine callV_snap ?_ | ((with_reducible refine call_go rCkS rCk_ok ?_); refine ⟨alk, _, _, rCk_at , ?_⟩) | ((with_reducible refine call_go rprcS rprc_ok ?_); refine ⟨alk, _, _, rprc_at a, ?_⟩) | ((with_reducible refine call_go rprcS rprc_ok ?_); refine ⟨alk, _, _, rprc_at b, ?_⟩) | with_reducible refine And.intro (fun h => ?_) (fun h => ?_) | with_reducible refine And.intro (by omega) ?_); (try simp only [go_sem, seval, reduceCtorEq, d1, d2, lv89FlD, Tryz.ntmps89, Tryz.results89, askS])) | fail)
  have d2 := decide_eq_true hb
  rw [if_neg (fun h => h ⟨ha, hb⟩)]
  repeat' (first | refine sA ?_ | with_reducible refine W_tf rfl (fun h => ?_) (fun h => ?_) | ((with_reducible first | refine hK _ ?_ | refine hK _ _ ?_); clear hK K) | ((first | refine sB ?_ | (with_reducible first | refine ops_cons (fun K hK => ?_) | refine W_reg lv89FlD ?_) | with_reducible refine callV_snap ?_ | ((with_reducible refine call_go rCkS rCk_ok ?_); refine ⟨alk, _, _, rCk_at , ?_⟩) | ((with_reducible refine call_go rprcS rprc_ok ?_); refine ⟨alk, _, _, rprc_at a, ?_⟩) | ((with_reducible refine call_go rprcS rprc_ok ?_); refine ⟨alk, _, _, rprc_at b, ?_⟩) | with_reducible refine And.intro (fun h => ?_) (fun h => ?_) | with_reducible refine And.intro (by omega) ?_); (try simp only [go_sem, seval, reduceCtorEq, d1, d2, lv89FlD, Tryz.ntmps89, Tryz.results89, askS])) | fail)
def livgS : Spec := { rel := fun args ins res outs => ∃ (al : List Bool) (mp : List Nat) (cs : List Cl) (p : Int), U64 mp ∧ al.length ≤ 1000000 ∧ mp.length ≤ 1000000 ∧ cs.length ≤ 1000000 ∧ args = [fm al mp cs, iv p] ∧ ins = [] ∧ res = iv (lvsE al mp cs [p]) ∧ outs = [] }
theorem livg_at (al : List Bool) (mp : List Nat) (cs : List Cl) (p : Int) (h : U64 mp) (h1 : al.length ≤ 1000000) (h2 : mp.length ≤ 1000000) (h3 : cs.length ≤ 1000000) : livgS.rel [fm al mp cs, iv p] [] (iv (lvsE al mp cs [p])) [] := ⟨al, mp, cs, p, h, h1, h2, h3, rfl, rfl, rfl, rfl⟩
theorem livg_ok : Ok Tryz.prog 52 livgS := by
  refine fn_ok livgS Tryz.func52 rfl rfl ?_
  rintro args ins res outs ⟨al, mp, cs, p, hu, la, lm, lc, rfl, rfl, rfl, rfl⟩
  refine ⟨by simp [Tryz.ntmps52], fun w0 V Bo mu0 => ?_⟩
  have L0 := ask_at al mp cs p p hu la lm lc
  have hl := @flchk_len al mp cs
  unfold askE29 at L0
  unfold lvsE
  generalize flchk al mp cs = E at *
  by_cases h0 : E = 0
  case neg =>
    rw [if_pos h0] at L0 ⊢
    have ask_at : askS.rel [fm al mp cs, iv p, iv p] [] (iv E) [] := L0
    repeat' (first | refine sA ?_ | with_reducible refine W_tf rfl (fun h => ?_) (fun h => ?_) | ((with_reducible first | refine hK _ ?_ | refine hK _ _ ?_); clear hK K) | ((first | refine sB ?_ | (with_reducible first | refine ops_cons (fun K hK => ?_) | refine W_reg lv52FlD ?_) | with_reducible refine callV_snap ?_ | ((with_reducible refine call_go askS ask_ok ?_); refine ⟨alk, _, _, ask_at , ?_⟩) | with_reducible refine And.intro (fun h => ?_) (fun h => ?_) | with_reducible refine And.intro (by omega) ?_); (try simp only [go_sem, seval, reduceCtorEq, h0, lv52FlD, Tryz.ntmps52, Tryz.results52, livgS])) | fail)
  subst h0
  rw [if_neg (by decide)] at L0 ⊢
  obtain ⟨l1, l2⟩ := hl rfl
  simp only [List.any_cons, List.any_nil, Bool.or_false]
  by_cases hP : Prc p
  case neg =>
    rw [if_pos (fun h => hP h.1)] at L0
    have ask_at : askS.rel [fm al mp cs, iv p, iv p] [] (iv 2) [] := L0
    rw [decide_eq_false hP, if_pos (show (!false) = true from rfl)]
    repeat' (first | refine sA ?_ | with_reducible refine W_tf rfl (fun h => ?_) (fun h => ?_) | ((with_reducible first | refine hK _ ?_ | refine hK _ _ ?_); clear hK K) | ((first | refine sB ?_ | (with_reducible first | refine ops_cons (fun K hK => ?_) | refine W_reg lv52FlD ?_) | with_reducible refine callV_snap ?_ | ((with_reducible refine call_go askS ask_ok ?_); refine ⟨alk, _, _, ask_at , ?_⟩) | with_reducible refine And.intro (fun h => ?_) (fun h => ?_) | with_reducible refine And.intro (by omega) ?_); (try simp only [go_sem, seval, reduceCtorEq, lv52FlD, Tryz.ntmps52, Tryz.results52, livgS])) | fail)
  rw [if_neg (fun h => h ⟨hP, hP⟩)] at L0
  have ask_at : askS.rel [fm al mp cs, iv p, iv p] [] (iv 0) [] := L0
  rw [decide_eq_true hP, if_neg (by decide)]
  obtain ⟨h3, h4⟩ := hP
  obtain ⟨k, rfl⟩ : ∃ k : Nat, p = (k : Int) + 1 := ⟨(p - 1).toNat, by omega⟩
  have hk : k < al.length := by omega
  have hp1 : (k : Int) + 1 - 1 = (k : Int) := by omega
  have hv : alv al ((k : Int) + 1) = al[k] := by unfold alv; rw [hp1]; simp [hk]
  rw [hv]
  cases hb : al[k] with
  | true =>
    have ea : encDB al[k] = [.bool true] := by rw [hb]; rfl
    rw [if_neg (by decide)]
    repeat' (first | refine sA ?_ | with_reducible refine W_tf rfl (fun h => ?_) (fun h => ?_) | ((with_reducible first | refine hK _ ?_ | refine hK _ _ ?_); clear hK K) | ((first | refine sB ?_ | (with_reducible first | refine ops_cons (fun K hK => ?_) | refine W_reg lv52FlD ?_) | with_reducible refine callV_snap ?_ | ((with_reducible refine call_go askS ask_ok ?_); refine ⟨alk, _, _, ask_at , ?_⟩) | with_reducible refine And.intro (fun h => ?_) (fun h => ?_) | with_reducible refine And.intro (by omega) ?_); (try simp only [go_sem, seval, reduceCtorEq, hp1, ea, lv52FlD, Tryz.ntmps52, Tryz.results52, livgS])) | fail)
  | false =>
    have ea : encDB al[k] = [.bool false] := by rw [hb]; rfl
    rw [if_pos (show (!false) = true from rfl)]
    repeat' (first | refine sA ?_ | with_reducible refine W_tf rfl (fun h => ?_) (fun h => ?_) | ((with_reducible first | refine hK _ ?_ | refine hK _ _ ?_); clear hK K) | ((first | refine sB ?_ | (with_reducible first | refine ops_cons (fun K hK => ?_) | refine W_reg lv52FlD ?_) | with_reducible refine callV_snap ?_ | ((with_reducible refine call_go askS ask_ok ?_); refine ⟨alk, _, _, ask_at , ?_⟩) | with_reducible refine And.intro (fun h => ?_) (fun h => ?_) | with_reducible refine And.intro (by omega) ?_); (try simp only [go_sem, seval, reduceCtorEq, hp1, ea, lv52FlD, Tryz.ntmps52, Tryz.results52, livgS])) | fail)
end Go.Proofs.YtpocnjliigjidaaGreat
