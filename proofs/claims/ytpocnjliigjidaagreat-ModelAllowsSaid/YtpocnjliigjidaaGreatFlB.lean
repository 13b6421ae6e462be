import Derived.Test.YtpocnjliigjidaaGreatEngZ
/- A flat memory: Check of both sides, by the engine. -/
namespace Go.Proofs.YtpocnjliigjidaaGreat
open Go.RowKit
set_option maxRecDepth 100000
set_option linter.unusedSimpArgs false
set_option linter.unusedVariables false
abbrev lv48FlB : List (Nat × List Nat) := [(0, [1]), (1, [1, 16]), (2, [2]), (3, [1, 18, 19, 20]), (4, [1, 18, 19, 20, 21]), (5, [1, 3, 4, 18, 19, 20]), (6, [1, 18, 19, 20, 34]), (7, [2]), (8, [1, 18, 19, 20]), (9, [1, 37, 38, 39]), (10, [1, 37, 38, 39, 40]), (11, [1, 5, 6, 37, 38, 39]), (12, [1, 5, 6, 37, 38, 39, 44]), (13, [2]), (14, [1, 5, 6, 37, 38, 39, 63]), (15, [2]), (16, [1, 5, 6, 37, 38, 39, 67]), (17, [2]), (18, [1, 37, 38, 39, 85]), (19, [2]), (20, [1, 37, 38, 39]), (21, [2])]
abbrev lv50FlB : List (Nat × List Nat) := [(0, [1]), (1, [1, 15]), (2, [2]), (3, [1, 3]), (4, [1, 3, 17]), (5, [1, 3]), (6, [1, 3, 33]), (7, [2]), (8, [1, 4]), (9, [1, 4, 38]), (10, [1, 4]), (11, [1, 4, 5]), (12, [1, 4, 5, 46]), (13, [2]), (14, [1, 4, 5, 65]), (15, [2]), (16, [1, 4, 5, 69]), (17, [2]), (18, [1, 4, 79]), (19, [2]), (20, [2])]
def mpd (mp : List Nat) (p g : Int) : Bool := (mp[(p - 1).toNat]?.getD 0).testBit g.toNat
def ck1 (mp : List Nat) (c : Cl) : Int := if ¬ (Prc c.1 ∧ Pgs c.2.1 ∧ Wrd c.2.2.1) then 2 else if c.2.2.2 = 0 then 3 else if mpd mp c.1 c.2.1 = false then 12 else 0
def ckGo (mp : List Nat) : Option Cl → List Cl → Int
  | _, [] => 0
  | none, c :: r => if ck1 mp c ≠ 0 then ck1 mp c else ckGo mp (some c) r
  | some b, c :: r => if ck1 mp c ≠ 0 then ck1 mp c else if Bef b c then ckGo mp (some c) r else 8
def deadm (al : List Bool) (mp : List Nat) : Bool := (al.zip mp).any fun x => !x.1 && decide (x.2 ≠ 0)
def flchk (al : List Bool) (mp : List Nat) (cs : List Cl) : Int := if al.length ≠ 8 ∨ mp.length ≠ 8 then 3 else if deadm al mp = true then 3 else ckGo mp none cs
def U64 (mp : List Nat) : Prop := ∀ x ∈ mp, x < 18446744073709551616
theorem and_pow (x g : Nat) : x &&& 2 ^ g = if x.testBit g then 2 ^ g else 0 := by
  apply Nat.eq_of_testBit_eq
  intro i
  rw [Nat.testBit_and, Nat.testBit_two_pow]
  by_cases h : g = i
  · subst h
    cases ht : x.testBit g with
    | true => simp
    | false => simp
  · have : decide (g = i) = false := decide_eq_false h
    rw [this, Bool.and_false]
    split
    · rw [Nat.testBit_two_pow, this]
    · simp
theorem and_bit {x : Nat} (hx : x < 18446744073709551616) {g : Nat} (hg : g < 64) : bits .and .u64 (x : Int) (pgM g g : Int) = ((if x.testBit g then 2 ^ g else 0 : Nat) : Int) := by
  rw [u64_and_nat x (pgM g g) hx (pgM_lt (Nat.le_refl _) hg), pgM_one, and_pow]
theorem and_bit0 {x : Nat} (hx : x < 18446744073709551616) {g : Nat} (hg : g < 64) : bits .and .u64 (x : Int) (pgM g g : Int) = 0 ↔ x.testBit g = false := by
  rw [and_bit hx hg]
  have := Nat.one_le_two_pow (n := g)
  cases x.testBit g with
  | false => simp
  | true =>
    have h : ¬ ((2 ^ g : Nat) : Int) = 0 := by omega
    simp only [if_true]
    exact ⟨fun hh => absurd hh h, fun hh => by cases hh⟩
theorem shr_bit {x : Nat} (hx : x < 18446744073709551616) {g : Nat} : bits .and .u64 ((x : Int) / 2 ^ g) 1 = if x.testBit g then 1 else 0 := by
  have e : (x : Int) / 2 ^ g = ((x / 2 ^ g : Nat) : Int) := by push_cast; rfl
  rw [e]
  have h1 := u64_and_nat (x / 2 ^ g) 1 (Nat.lt_of_le_of_lt (Nat.div_le_self _ _) hx) (by decide)
  have h2 : ((1 : Nat) : Int) = 1 := rfl
  rw [h2] at h1
  rw [h1, Nat.and_one_is_mod, Nat.testBit_eq_decide_div_mod_eq]
  by_cases h : x / 2 ^ g % 2 = 1
  · simp [h]
  · have : x / 2 ^ g % 2 = 0 := by omega
    simp [this]
def rmapS : Spec := { rel := fun args ins res outs => ∃ (al : List Bool) (mp : List Nat) (cs : List Cl) (p g : Int), mp.length = 8 ∧ U64 mp ∧ Prc p ∧ Pgs g ∧ args = [fm al mp cs, iv p, iv g] ∧ ins = [] ∧ res = bv (mpd mp p g) ∧ outs = [] }
theorem rmap_at (al : List Bool) (mp : List Nat) (cs : List Cl) (p g : Int) (h1 : mp.length = 8) (h2 : U64 mp) (h3 : Prc p) (h4 : Pgs g) : rmapS.rel [fm al mp cs, iv p, iv g] [] (bv (mpd mp p g)) [] := ⟨al, mp, cs, p, g, h1, h2, h3, h4, rfl, rfl, rfl, rfl⟩
theorem rmap_ok : Ok Tryz.prog 54 rmapS := by
  refine fn_ok rmapS Tryz.func54 rfl rfl ?_
  rintro args ins res outs ⟨al, mp, cs, p, g, h1, h2, ⟨h3, h4⟩, ⟨h5, h6⟩, rfl, rfl, rfl, rfl⟩
  refine ⟨by simp [Tryz.ntmps54], fun w0 V Bo mu0 => ?_⟩
  obtain ⟨i, rfl⟩ : ∃ i : Nat, p = (i : Int) + 1 := ⟨(p - 1).toNat, by omega⟩
  obtain ⟨k, rfl⟩ := Int.eq_ofNat_of_zero_le h5
  have hi : i < mp.length := by omega
  have hp1 : (i : Int) + 1 - 1 = (i : Int) := by omega
  have hx := h2 _ (List.getElem_mem hi)
  have hb := shr_bit hx (g := k)
  have e0 : encU mp[i] = [.int .u64 (mp[i] : Int)] := rfl
  have hm : mpd mp ((i : Int) + 1) (k : Int) = mp[i].testBit k := by unfold mpd; rw [hp1]; simp [hi]
  rw [hm]
  cases ht : mp[i].testBit k with
  | true =>
    rw [ht] at hb
    have hb' : bits .and .u64 ((mp[i] : Int) / 2 ^ k) 1 = 1 := by simpa using hb
    repeat' (first | refine sA ?_ | ((with_reducible first | refine hK _ ?_ | refine hK _ _ ?_); clear hK K) | ((first | refine sB ?_ | (with_reducible first | refine ops_cons (fun K hK => ?_) | refine W_reg [(0, [1, 2, 3]), (1, [6])] ?_) | with_reducible refine And.intro (fun h => ?_) (fun h => ?_) | with_reducible refine And.intro (by omega) ?_); (try simp only [go_sem, seval, reduceCtorEq, hp1, e0, Int.toNat_natCast, hb', Tryz.ntmps54, Tryz.results54, rmapS])) | fail)
  | false =>
    rw [ht] at hb
    have hb' : bits .and .u64 ((mp[i] : Int) / 2 ^ k) 1 = 0 := by simpa using hb
    repeat' (first | refine sA ?_ | ((with_reducible first | refine hK _ ?_ | refine hK _ _ ?_); clear hK K) | ((first | refine sB ?_ | (with_reducible first | refine ops_cons (fun K hK => ?_) | refine W_reg [(0, [1, 2, 3]), (1, [6])] ?_) | with_reducible refine And.intro (fun h => ?_) (fun h => ?_) | with_reducible refine And.intro (by omega) ?_); (try simp only [go_sem, seval, reduceCtorEq, hp1, e0, Int.toNat_natCast, hb', Tryz.ntmps54, Tryz.results54, rmapS])) | fail)
def CkS : Spec := { rel := fun args ins res outs => ∃ (al : List Bool) (mp : List Nat) (cs : List Cl), U64 mp ∧ al.length ≤ 1000000 ∧ mp.length ≤ 1000000 ∧ cs.length ≤ 1000000 ∧ args = [fm al mp cs] ∧ ins = [] ∧ res = iv (flchk al mp cs) ∧ outs = [] }
abbrev rCkS : Spec := CkS
theorem Ck_at (al : List Bool) (mp : List Nat) (cs : List Cl) (h : U64 mp) (h1 : al.length ≤ 1000000) (h2 : mp.length ≤ 1000000) (h3 : cs.length ≤ 1000000) : CkS.rel [fm al mp cs] [] (iv (flchk al mp cs)) [] := ⟨al, mp, cs, h, h1, h2, h3, rfl, rfl, rfl, rfl⟩
theorem rCk_at (al : List Bool) (mp : List Nat) (cs : List Cl) (h : U64 mp) (h1 : al.length ≤ 1000000) (h2 : mp.length ≤ 1000000) (h3 : cs.length ≤ 1000000) : rCkS.rel [fm al mp cs] [] (iv (flchk al mp cs)) [] := ⟨al, mp, cs, h, h1, h2, h3, rfl, rfl, rfl, rfl⟩
theorem dead_get {al : List Bool} {mp : List Nat} {i : Nat} (h1 : i < al.length) (h2 : i < mp.length) (h3 : al[i] = false) (h4 : mp[i] ≠ 0) : deadm al mp = true := by
  unfold deadm
  rw [List.any_eq_true]
  refine ⟨(al[i], mp[i]), ?_, by simp [h3, h4]⟩
  have hz : i < (al.zip mp).length := by simp; omega
  have e : (al.zip mp)[i] = (al[i], mp[i]) := by simp
  rw [← e]; exact List.getElem_mem hz
theorem dead_no {al : List Bool} {mp : List Nat} (h : ∀ i (h1 : i < al.length) (h2 : i < mp.length), al[i] = false → mp[i] = 0) : deadm al mp = false := by
  rw [← Bool.not_eq_true]
  intro hd
  unfold deadm at hd
  rw [List.any_eq_true] at hd
  obtain ⟨x, hx, h2⟩ := hd
  obtain ⟨i, hi, rfl⟩ := List.getElem_of_mem hx
  have hi' : i < al.length ∧ i < mp.length := by simp at hi; omega
  simp at h2
  exact h2.2 (h i hi'.1 hi'.2 h2.1)
def prevC (cs : List Cl) (i : Nat) : Option Cl := if i = 0 then none else cs[i - 1]?
theorem prev_succ (cs : List Cl) (i : Nat) (h : i < cs.length) : prevC cs (i + 1) = some cs[i] := by unfold prevC; simp [h]
set_option maxHeartbeats 8000000 in
theorem Ck_ok : Ok Tryz.prog 48 CkS := by
  refine fn_ok CkS Tryz.func48 rfl rfl ?_
  rintro args ins res outs ⟨al, mp, cs, hu, la, lm, lc, rfl, rfl, rfl, rfl⟩
  refine ⟨by simp [Tryz.ntmps48], fun w0 V Bo mu0 => ?_⟩
  by_cases h1 : al.length = 8
  case neg =>
    have c1 : ¬ (al.length : Int) = 8 := by omega
    rw [show flchk al mp cs = 3 by unfold flchk; rw [if_pos (.inl h1)]]
    repeat' (first | refine sA ?_ | with_reducible refine W_tf rfl (fun h => ?_) (fun h => ?_) | ((with_reducible first | refine hK _ ?_ | refine hK _ _ ?_); clear hK K) | ((first | refine sB ?_ | (with_reducible first | refine ops_cons (fun K hK => ?_) | refine opsd_cons (fun K hK => ?_) | refine W_reg lv48FlB ?_ | refine W_drw lv48FlB (by kernel_rfl) ?_) | ((with_reducible refine opsd_nil ?_); refine And.intro (by kernel_rfl) ?_) | with_reducible refine callV_snap ?_ | with_reducible refine And.intro (fun h => ?_) (fun h => ?_) | with_reducible refine And.intro (by omega) ?_); (try simp only [go_sem, seval, reduceCtorEq, c1, lv48FlB, Tryz.ntmps48, Tryz.results48, CkS])) | fail)
  by_cases h2 : mp.length = 8
  case neg =>
    have c1 : (al.length : Int) = 8 := by omega
    have c2 : ¬ (mp.length : Int) = 8 := by omega
    rw [show flchk al mp cs = 3 by unfold flchk; rw [if_pos (.inr h2)]]
    repeat' (first | refine sA ?_ | with_reducible refine W_tf rfl (fun h => ?_) (fun h => ?_) | ((with_reducible first | refine hK _ ?_ | refine hK _ _ ?_); clear hK K) | ((first | refine sB ?_ | (with_reducible first | refine ops_cons (fun K hK => ?_) | refine opsd_cons (fun K hK => ?_) | refine W_reg lv48FlB ?_ | refine W_drw lv48FlB (by kernel_rfl) ?_) | ((with_reducible refine opsd_nil ?_); refine And.intro (by kernel_rfl) ?_) | with_reducible refine callV_snap ?_ | with_reducible refine And.intro (fun h => ?_) (fun h => ?_) | with_reducible refine And.intro (by omega) ?_); (try simp only [go_sem, seval, reduceCtorEq, c1, c2, lv48FlB, Tryz.ntmps48, Tryz.results48, CkS])) | fail)
  have c1 : (al.length : Int) = 8 := by omega
  have c2 : (mp.length : Int) = 8 := by omega
  have hE : flchk al mp cs = if deadm al mp = true then 3 else ckGo mp none cs := by unfold flchk; rw [if_neg (by omega)]
  obtain ⟨E, hE2⟩ : ∃ E, flchk al mp cs = E := ⟨_, rfl⟩
  rw [hE2] at hE ⊢
  repeat' (first | refine sA ?_ | with_reducible refine W_tf rfl (fun h => ?_) (fun h => ?_) | ((with_reducible first | refine hK _ ?_ | refine hK _ _ ?_); clear hK K) | ((first | refine sB ?_ | (with_reducible first | refine ops_cons (fun K hK => ?_) | refine opsd_cons (fun K hK => ?_) | refine W_reg lv48FlB ?_ | refine W_drw lv48FlB (by kernel_rfl) ?_) | ((with_reducible refine opsd_nil ?_); refine And.intro (by kernel_rfl) ?_) | with_reducible refine callV_snap ?_ | with_reducible refine And.intro (fun h => ?_) (fun h => ?_) | with_reducible refine And.intro (by omega) ?_); (try simp only [go_sem, seval, reduceCtorEq, c1, c2, lv48FlB, Tryz.ntmps48, Tryz.results48, CkS])) | fail)
  refine W_loop (fun i : Nat => ⟨[(1, .ptr 0 0), (18, .d (.sl (mp.map encU))), (19, iv 8), (20, iv i)], [some (.box 38 [.d (.sl (al.map encDB)), .d (.sl (mp.map encU)), .d (.sl (cs.map encCl))])]⟩) (fun i => i ≤ 8 ∧ ∀ j (h1 : j < al.length) (h2 : j < mp.length), j < i → al[j] = false → mp[j] = 0) (fun i => 8 - i) 0 ⟨Nat.zero_le _, fun j _ _ h => absurd h (Nat.not_lt_zero _)⟩ [0] ?_ ?_
  · simp [go_sem]
  rintro i ⟨hi, hno⟩
  by_cases hlt : i < 8
  · have hki : (i : Int) < 8 := by omega
    have hia : i < al.length := by omega
    have him : i < mp.length := by omega
    have e0 : encU mp[i] = [.int .u64 (mp[i] : Int)] := rfl
    have stepc : (al[i] = false → mp[i] = 0) → ∀ j (h1 : j < al.length) (h2 : j < mp.length), j < i + 1 → al[j] = false → mp[j] = 0 := by
      intro hh j g1 g2 g3 g4
      by_cases hj : j = i
      · subst hj; exact hh g4
      · exact hno j g1 g2 (by omega) g4
    cases hab : al[i] with
    | true =>
      have ea : encDB al[i] = [.bool true] := by rw [hab]; rfl
      repeat' (first | refine sA ?_ | with_reducible refine W_tf rfl (fun h => ?_) (fun h => ?_) | ((with_reducible first | refine hK _ ?_ | refine hK _ _ ?_); clear hK K) | ((first | refine sB ?_ | (with_reducible first | refine ops_cons (fun K hK => ?_) | refine opsd_cons (fun K hK => ?_) | refine W_reg lv48FlB ?_ | refine W_drw lv48FlB (by kernel_rfl) ?_) | ((with_reducible refine opsd_nil ?_); refine And.intro (by kernel_rfl) ?_) | with_reducible refine callV_snap ?_ | with_reducible refine And.intro (fun h => ?_) (fun h => ?_) | with_reducible refine And.intro (by omega) ?_); (try simp only [go_sem, seval, reduceCtorEq, hki, ea, e0, lv48FlB, Tryz.ntmps48, Tryz.results48, CkS])) | fail)
      refine ⟨i + 1, [0], ⟨by omega, stepc (fun h => by rw [hab] at h; cases h)⟩, by omega, ?_⟩
      simp [go_sem]
    | false =>
      have ea : encDB al[i] = [.bool false] := by rw [hab]; rfl
      by_cases hm : mp[i] = 0
      · have hmi : (mp[i] : Int) = 0 := by omega
        repeat' (first | refine sA ?_ | with_reducible refine W_tf rfl (fun h => ?_) (fun h => ?_) | ((with_reducible first | refine hK _ ?_ | refine hK _ _ ?_); clear hK K) | ((first | refine sB ?_ | (with_reducible first | refine ops_cons (fun K hK => ?_) | refine opsd_cons (fun K hK => ?_) | refine W_reg lv48FlB ?_ | refine W_drw lv48FlB (by kernel_rfl) ?_) | ((with_reducible refine opsd_nil ?_); refine And.intro (by kernel_rfl) ?_) | with_reducible refine callV_snap ?_ | with_reducible refine And.intro (fun h => ?_) (fun h => ?_) | with_reducible refine And.intro (by omega) ?_); (try simp only [go_sem, seval, reduceCtorEq, hki, ea, e0, hmi, lv48FlB, Tryz.ntmps48, Tryz.results48, CkS])) | fail)
        refine ⟨i + 1, [0], ⟨by omega, stepc (fun _ => hm)⟩, by omega, ?_⟩
        simp [go_sem]
      · have hmi : ¬ (mp[i] : Int) = 0 := by omega
        rw [if_pos (dead_get hia him hab hm)] at hE
        rw [hE]
        repeat' (first | refine sA ?_ | with_reducible refine W_tf rfl (fun h => ?_) (fun h => ?_) | ((with_reducible first | refine hK _ ?_ | refine hK _ _ ?_); clear hK K) | ((first | refine sB ?_ | (with_reducible first | refine ops_cons (fun K hK => ?_) | refine opsd_cons (fun K hK => ?_) | refine W_reg lv48FlB ?_ | refine W_drw lv48FlB (by kernel_rfl) ?_) | ((with_reducible refine opsd_nil ?_); refine And.intro (by kernel_rfl) ?_) | with_reducible refine callV_snap ?_ | with_reducible refine And.intro (fun h => ?_) (fun h => ?_) | with_reducible refine And.intro (by omega) ?_); (try simp only [go_sem, seval, reduceCtorEq, hki, ea, e0, hmi, lv48FlB, Tryz.ntmps48, Tryz.results48, CkS])) | fail)
  · have hki : ¬ (i : Int) < 8 := by omega
    have hd : deadm al mp = false := dead_no (fun j g1 g2 g3 => hno j g1 g2 (by omega) g3)
    rw [hd, if_neg (by decide)] at hE
    repeat' (first | refine sA ?_ | with_reducible refine W_tf rfl (fun h => ?_) (fun h => ?_) | ((with_reducible first | refine hK _ ?_ | refine hK _ _ ?_); clear hK K) | ((first | refine sB ?_ | (with_reducible first | refine ops_cons (fun K hK => ?_) | refine opsd_cons (fun K hK => ?_) | refine W_reg lv48FlB ?_ | refine W_drw lv48FlB (by kernel_rfl) ?_) | ((with_reducible refine opsd_nil ?_); refine And.intro (by kernel_rfl) ?_) | with_reducible refine callV_snap ?_ | with_reducible refine And.intro (fun h => ?_) (fun h => ?_) | with_reducible refine And.intro (by omega) ?_); (try simp only [go_sem, seval, reduceCtorEq, hki, lv48FlB, Tryz.ntmps48, Tryz.results48, CkS])) | fail)
    refine W_loop (fun i : Nat => ⟨[(1, .ptr 0 0), (37, .d (.sl (cs.map encCl))), (38, iv cs.length), (39, iv i)], [some (.box 38 [.d (.sl (al.map encDB)), .d (.sl (mp.map encU)), .d (.sl (cs.map encCl))])]⟩) (fun i => i ≤ cs.length ∧ ckGo mp (prevC cs i) (cs.drop i) = E) (fun i => cs.length - i) 0 ⟨Nat.zero_le _, by simpa [prevC] using hE.symm⟩ [0] ?_ ?_
    · simp [go_sem]
    clear hno hE
    rintro i ⟨hi, hgo⟩
    by_cases hlt : i < cs.length
    · have hki : (i : Int) < cs.length := by omega
      rw [drop_get cs i hlt] at hgo
      have hps := prev_succ cs i hlt
      obtain ⟨⟨cp, cg, cw, cv⟩, hc⟩ : ∃ c, cs[i] = c := ⟨_, rfl⟩
      rw [hc] at hgo hps
      have e0 : encCl cs[i] = [.int .i64 cp, .int .i64 cg, .int .i64 cw, .int .u64 (cv : Int)] := by rw [hc]; rfl
      have bad : ∀ e : Int, e ≠ 0 → ck1 mp (cp, cg, cw, cv) = e → E = e := by
        intro e he h
        cases hq : prevC cs i with
        | none => rw [hq, ckGo, h, if_pos he] at hgo; exact hgo.symm
        | some b => rw [hq, ckGo, h, if_pos he] at hgo; exact hgo.symm
      by_cases hP : Prc cp
      case neg =>
        have d1 := decide_eq_false hP
        rw [bad 2 (by decide) (by unfold ck1; rw [if_pos (fun h => hP h.1)])]
        repeat' (first | refine sA ?_ | with_reducible refine W_tf rfl (fun h => ?_) (fun h => ?_) | ((with_reducible first | refine hK _ ?_ | refine hK _ _ ?_); clear hK K) | ((first | refine sB ?_ | (with_reducible first | refine ops_cons (fun K hK => ?_) | refine opsd_cons (fun K hK => ?_) | refine W_reg lv48FlB ?_ | refine W_drw lv48FlB (by kernel_rfl) ?_) | ((with_reducible refine opsd_nil ?_); refine And.intro (by kernel_rfl) ?_) | with_reducible refine callV_snap ?_ | ((with_reducible refine call_go prcS prc_ok ?_); refine ⟨alk, _, _, prc_at cp, ?_⟩) | with_reducible refine And.intro (fun h => ?_) (fun h => ?_) | with_reducible refine And.intro (by omega) ?_); (try simp only [go_sem, seval, reduceCtorEq, hki, e0, d1, lv48FlB, Tryz.ntmps48, Tryz.results48, CkS])) | fail)
      have d1 := decide_eq_true hP
      by_cases hG : Pgs cg
      case neg =>
        have d2 := decide_eq_false hG
        rw [bad 2 (by decide) (by unfold ck1; rw [if_pos (fun h => hG h.2.1)])]
        repeat' (first | refine sA ?_ | with_reducible refine W_tf rfl (fun h => ?_) (fun h => ?_) | ((with_reducible first | refine hK _ ?_ | refine hK _ _ ?_); clear hK K) | ((first | refine sB ?_ | (with_reducible first | refine ops_cons (fun K hK => ?_) | refine opsd_cons (fun K hK => ?_) | refine W_reg lv48FlB ?_ | refine W_drw lv48FlB (by kernel_rfl) ?_) | ((with_reducible refine opsd_nil ?_); refine And.intro (by kernel_rfl) ?_) | with_reducible refine callV_snap ?_ | ((with_reducible refine call_go prcS prc_ok ?_); refine ⟨alk, _, _, prc_at cp, ?_⟩) | ((with_reducible refine call_go pgsS pgs_ok ?_); refine ⟨alk, _, _, pgs_at cg, ?_⟩) | with_reducible refine And.intro (fun h => ?_) (fun h => ?_) | with_reducible refine And.intro (by omega) ?_); (try simp only [go_sem, seval, reduceCtorEq, hki, e0, d1, d2, lv48FlB, Tryz.ntmps48, Tryz.results48, CkS])) | fail)
      have d2 := decide_eq_true hG
      by_cases hW : Wrd cw
      case neg =>
        have d3 := decide_eq_false hW
        rw [bad 2 (by decide) (by unfold ck1; rw [if_pos (fun h => hW h.2.2)])]
        repeat' (first | refine sA ?_ | with_reducible refine W_tf rfl (fun h => ?_) (fun h => ?_) | ((with_reducible first | refine hK _ ?_ | refine hK _ _ ?_); clear hK K) | ((first | refine sB ?_ | (with_reducible first | refine ops_cons (fun K hK => ?_) | refine opsd_cons (fun K hK => ?_) | refine W_reg lv48FlB ?_ | refine W_drw lv48FlB (by kernel_rfl) ?_) | ((with_reducible refine opsd_nil ?_); refine And.intro (by kernel_rfl) ?_) | with_reducible refine callV_snap ?_ | ((with_reducible refine call_go prcS prc_ok ?_); refine ⟨alk, _, _, prc_at cp, ?_⟩) | ((with_reducible refine call_go pgsS pgs_ok ?_); refine ⟨alk, _, _, pgs_at cg, ?_⟩) | ((with_reducible refine call_go wrdS wrd_ok ?_); refine ⟨alk, _, _, wrd_at cw, ?_⟩) | with_reducible refine And.intro (fun h => ?_) (fun h => ?_) | with_reducible refine And.intro (by omega) ?_); (try simp only [go_sem, seval, reduceCtorEq, hki, e0, d1, d2, d3, lv48FlB, Tryz.ntmps48, Tryz.results48, CkS])) | fail)
      have d3 := decide_eq_true hW
      by_cases hV : cv = 0
      · have dv : (cv : Int) = 0 := by omega
        rw [bad 3 (by decide) (by unfold ck1; rw [if_neg (fun h => h ⟨hP, hG, hW⟩), if_pos hV])]
        repeat' (first | refine sA ?_ | with_reducible refine W_tf rfl (fun h => ?_) (fun h => ?_) | ((with_reducible first | refine hK _ ?_ | refine hK _ _ ?_); clear hK K) | ((first | refine sB ?_ | (with_reducible first | refine ops_cons (fun K hK => ?_) | refine opsd_cons (fun K hK => ?_) | refine W_reg lv48FlB ?_ | refine W_drw lv48FlB (by kernel_rfl) ?_) | ((with_reducible refine opsd_nil ?_); refine And.intro (by kernel_rfl) ?_) | with_reducible refine callV_snap ?_ | ((with_reducible refine call_go prcS prc_ok ?_); refine ⟨alk, _, _, prc_at cp, ?_⟩) | ((with_reducible refine call_go pgsS pgs_ok ?_); refine ⟨alk, _, _, pgs_at cg, ?_⟩) | ((with_reducible refine call_go wrdS wrd_ok ?_); refine ⟨alk, _, _, wrd_at cw, ?_⟩) | with_reducible refine And.intro (fun h => ?_) (fun h => ?_) | with_reducible refine And.intro (by omega) ?_); (try simp only [go_sem, seval, reduceCtorEq, hki, e0, d1, d2, d3, dv, lv48FlB, Tryz.ntmps48, Tryz.results48, CkS])) | fail)
      have dv : ¬ (cv : Int) = 0 := by omega
      obtain ⟨h5, h6⟩ := hG
      obtain ⟨h3, h4⟩ := hP
      obtain ⟨j, rfl⟩ : ∃ j : Nat, cp = (j : Int) + 1 := ⟨(cp - 1).toNat, by omega⟩
      obtain ⟨g, rfl⟩ := Int.eq_ofNat_of_zero_le h5
      have hj : j < mp.length := by omega
      have hp1 : (j : Int) + 1 - 1 = (j : Int) := by omega
      have hx := hu _ (List.getElem_mem hj)
      have hb := and_bit0 hx (g := g) (by omega)
      have eu : encU mp[j] = [.int .u64 (mp[j] : Int)] := rfl
      have hm : mpd mp ((j : Int) + 1) (g : Int) = mp[j].testBit g := by unfold mpd; rw [hp1]; simp [hj]
      cases ht : mp[j].testBit g with
      | false =>
        have hb' := hb.2 ht
        rw [bad 12 (by decide) (by unfold ck1; rw [if_neg (fun h => h ⟨⟨h3, h4⟩, ⟨h5, h6⟩, hW⟩), if_neg hV, if_pos (by dsimp only; rw [hm, ht])])]
        repeat' (first | refine sA ?_ | with_reducible refine W_tf rfl (fun h => ?_) (fun h => ?_) | ((with_reducible first | refine hK _ ?_ | refine hK _ _ ?_); clear hK K) | ((first | refine sB ?_ | (with_reducible first | refine ops_cons (fun K hK => ?_) | refine opsd_cons (fun K hK => ?_) | refine W_reg lv48FlB ?_ | refine W_drw lv48FlB (by kernel_rfl) ?_) | ((with_reducible refine opsd_nil ?_); refine And.intro (by kernel_rfl) ?_) | with_reducible refine callV_snap ?_ | ((with_reducible refine call_go prcS prc_ok ?_); refine ⟨alk, _, _, prc_at _, ?_⟩) | ((with_reducible refine call_go pgsS pgs_ok ?_); refine ⟨alk, _, _, pgs_at _, ?_⟩) | ((with_reducible refine call_go wrdS wrd_ok ?_); refine ⟨alk, _, _, wrd_at cw, ?_⟩) | ((with_reducible refine call_go pagesS pages_ok ?_); refine ⟨alk, _, _, pages_at g g (Nat.le_refl _) (by omega), ?_⟩) | with_reducible refine And.intro (fun h => ?_) (fun h => ?_) | with_reducible refine And.intro (by omega) ?_); (try simp only [go_sem, seval, reduceCtorEq, hki, e0, d1, d2, d3, dv, hp1, eu, hb', lv48FlB, Tryz.ntmps48, Tryz.results48, CkS])) | fail)
      | true =>
        have hb' : ¬ bits .and .u64 (mp[j] : Int) (pgM g g : Int) = 0 := fun h => by rw [hb.1 h] at ht; cases ht
        have hok : ck1 mp ((j : Int) + 1, (g : Int), cw, cv) = 0 := by unfold ck1; rw [if_neg (fun h => h ⟨⟨h3, h4⟩, ⟨h5, h6⟩, hW⟩), if_neg hV, if_neg (by dsimp only; rw [hm, ht]; simp)]
        by_cases h0 : i = 0
        · have h0i : ¬ (0 : Int) < (i : Int) := by omega
          have hpv : prevC cs i = none := by unfold prevC; rw [if_pos h0]
          rw [hpv, ckGo, hok, if_neg (by simp)] at hgo
          repeat' (first | refine sA ?_ | with_reducible refine W_tf rfl (fun h => ?_) (fun h => ?_) | ((with_reducible first | refine hK _ ?_ | refine hK _ _ ?_); clear hK K) | ((first | refine sB ?_ | (with_reducible first | refine ops_cons (fun K hK => ?_) | refine opsd_cons (fun K hK => ?_) | refine W_reg lv48FlB ?_ | refine W_drw lv48FlB (by kernel_rfl) ?_) | ((with_reducible refine opsd_nil ?_); refine And.intro (by kernel_rfl) ?_) | with_reducible refine callV_snap ?_ | ((with_reducible refine call_go prcS prc_ok ?_); refine ⟨alk, _, _, prc_at _, ?_⟩) | ((with_reducible refine call_go pgsS pgs_ok ?_); refine ⟨alk, _, _, pgs_at _, ?_⟩) | ((with_reducible refine call_go wrdS wrd_ok ?_); refine ⟨alk, _, _, wrd_at cw, ?_⟩) | ((with_reducible refine call_go pagesS pages_ok ?_); refine ⟨alk, _, _, pages_at g g (Nat.le_refl _) (by omega), ?_⟩) | with_reducible refine And.intro (fun h => ?_) (fun h => ?_) | with_reducible refine And.intro (by omega) ?_); (try simp only [go_sem, seval, reduceCtorEq, hki, h0i, e0, d1, d2, d3, dv, hp1, eu, hb', lv48FlB, Tryz.ntmps48, Tryz.results48, CkS])) | fail)
          refine ⟨i + 1, [0], ⟨by omega, by rw [hps]; exact hgo⟩, by omega, ?_⟩
          simp [go_sem]
        · have h0i : (0 : Int) < i := by omega
          have hi1 : (i : Int) - 1 = ((i - 1 : Nat) : Int) := by omega
          have hlt1 : i - 1 < cs.length := by omega
          obtain ⟨b, hbq⟩ : ∃ b, cs[i - 1] = b := ⟨_, rfl⟩
          have e1 : encCl cs[i - 1] = [.int .i64 b.1, .int .i64 b.2.1, .int .i64 b.2.2.1, .int .u64 (b.2.2.2 : Int)] := by rw [hbq]; rfl
          have hpv : prevC cs i = some b := by unfold prevC; rw [if_neg h0]; simp [hlt1, hbq]
          rw [hpv, ckGo, hok, if_neg (by simp)] at hgo
          have hcb := cmK_bef b ((j : Int) + 1, (g : Int), cw, cv)
          dsimp only at hcb
          by_cases hB : Bef b ((j : Int) + 1, (g : Int), cw, cv)
          · rw [if_pos hB] at hgo
            have hcm : ¬ 0 ≤ cmK b.1 b.2.1 b.2.2.1 ((j : Int) + 1) (g : Int) cw := fun h => hcb.1 h hB
            repeat' (first | refine sA ?_ | with_reducible refine W_tf rfl (fun h => ?_) (fun h => ?_) | ((with_reducible first | refine hK _ ?_ | refine hK _ _ ?_); clear hK K) | ((first | refine sB ?_ | (with_reducible first | refine ops_cons (fun K hK => ?_) | refine opsd_cons (fun K hK => ?_) | refine W_reg lv48FlB ?_ | refine W_drw lv48FlB (by kernel_rfl) ?_) | ((with_reducible refine opsd_nil ?_); refine And.intro (by kernel_rfl) ?_) | with_reducible refine callV_snap ?_ | ((with_reducible refine call_go prcS prc_ok ?_); refine ⟨alk, _, _, prc_at _, ?_⟩) | ((with_reducible refine call_go pgsS pgs_ok ?_); refine ⟨alk, _, _, pgs_at _, ?_⟩) | ((with_reducible refine call_go wrdS wrd_ok ?_); refine ⟨alk, _, _, wrd_at cw, ?_⟩) | ((with_reducible refine call_go pagesS pages_ok ?_); refine ⟨alk, _, _, pages_at g g (Nat.le_refl _) (by omega), ?_⟩) | ((with_reducible refine call_go keyOfS keyOf_ok ?_); refine ⟨alk, _, _, keyOf_at b, ?_⟩) | ((with_reducible refine call_go keyOfS keyOf_ok ?_); refine ⟨alk, _, _, keyOf_at ((j : Int) + 1, (g : Int), cw, cv), ?_⟩) | ((with_reducible refine call_go compareS compare_ok ?_); refine ⟨alk, _, _, compare_at _ _ _ _ _ _, ?_⟩) | with_reducible refine And.intro (fun h => ?_) (fun h => ?_) | with_reducible refine And.intro (by omega) ?_); (try simp only [go_sem, seval, reduceCtorEq, hki, h0i, hi1, e0, e1, d1, d2, d3, dv, hp1, eu, hb', hcm, lv48FlB, Tryz.ntmps48, Tryz.results48, CkS])) | fail)
            refine ⟨i + 1, [0], ⟨by omega, by rw [hps]; exact hgo⟩, by omega, ?_⟩
            simp [go_sem]
          · rw [if_neg hB] at hgo
            have hcm : 0 ≤ cmK b.1 b.2.1 b.2.2.1 ((j : Int) + 1) (g : Int) cw := hcb.2 hB
            rw [← hgo]
            repeat' (first | refine sA ?_ | with_reducible refine W_tf rfl (fun h => ?_) (fun h => ?_) | ((with_reducible first | refine hK _ ?_ | refine hK _ _ ?_); clear hK K) | ((first | refine sB ?_ | (with_reducible first | refine ops_cons (fun K hK => ?_) | refine opsd_cons (fun K hK => ?_) | refine W_reg lv48FlB ?_ | refine W_drw lv48FlB (by kernel_rfl) ?_) | ((with_reducible refine opsd_nil ?_); refine And.intro (by kernel_rfl) ?_) | with_reducible refine callV_snap ?_ | ((with_reducible refine call_go prcS prc_ok ?_); refine ⟨alk, _, _, prc_at _, ?_⟩) | ((with_reducible refine call_go pgsS pgs_ok ?_); refine ⟨alk, _, _, pgs_at _, ?_⟩) | ((with_reducible refine call_go wrdS wrd_ok ?_); refine ⟨alk, _, _, wrd_at cw, ?_⟩) | ((with_reducible refine call_go pagesS pages_ok ?_); refine ⟨alk, _, _, pages_at g g (Nat.le_refl _) (by omega), ?_⟩) | ((with_reducible refine call_go keyOfS keyOf_ok ?_); refine ⟨alk, _, _, keyOf_at b, ?_⟩) | ((with_reducible refine call_go keyOfS keyOf_ok ?_); refine ⟨alk, _, _, keyOf_at ((j : Int) + 1, (g : Int), cw, cv), ?_⟩) | ((with_reducible refine call_go compareS compare_ok ?_); refine ⟨alk, _, _, compare_at _ _ _ _ _ _, ?_⟩) | with_reducible refine And.intro (fun h => ?_) (fun h => ?_) | with_reducible refine And.intro (by omega) ?_); (try simp only [go_sem, seval, reduceCtorEq, hki, h0i, hi1, e0, e1, d1, d2, d3, dv, hp1, eu, hb', hcm, lv48FlB, Tryz.ntmps48, Tryz.results48, CkS])) | fail)
    · have hki : ¬ (i : Int) < cs.length := by omega
      rw [List.drop_eq_nil_of_le (by omega)] at hgo
      have hE0 : E = 0 := by
        cases hq : prevC cs i <;> rw [hq, ckGo] at hgo <;> exact hgo.symm
      rw [hE0]
      repeat' (first | refine sA ?_ | with_reducible refine W_tf rfl (fun h => ?_) (fun h => ?_) | ((with_reducible first | refine hK _ ?_ | refine hK _ _ ?_); clear hK K) | ((first | refine sB ?_ | (with_reducible first | refine ops_cons (fun K hK => ?_) | refine opsd_cons (fun K hK => ?_) | refine W_reg lv48FlB ?_ | refine W_drw lv48FlB (by kernel_rfl) ?_) | ((with_reducible refine opsd_nil ?_); refine And.intro (by kernel_rfl) ?_) | with_reducible refine callV_snap ?_ | with_reducible refine And.intro (fun h => ?_) (fun h => ?_) | with_reducible refine And.intro (by omega) ?_); (try simp only [go_sem, seval, reduceCtorEq, hki, lv48FlB, Tryz.ntmps48, Tryz.results48, CkS])) | fail)
end Go.Proofs.YtpocnjliigjidaaGreat
namespace Go.Proofs.YtpocnjliigjidaaGreat
open Go.RowKit
set_option maxRecDepth 100000
set_option linter.unusedSimpArgs false
set_option linter.unusedVariables false
set_option maxHeartbeats 8000000 in
theorem rCk_ok : Ok Tryz.prog 50 CkS := by
  refine fn_ok CkS Tryz.func50 rfl rfl ?_
  rintro args ins res outs ⟨al, mp, cs, hu, la, lm, lc, rfl, rfl, rfl, rfl⟩
  refine ⟨by simp [Tryz.ntmps50], fun w0 V Bo mu0 => ?_⟩
  by_cases h1 : al.length = 8
  case neg =>
    have c1 : ¬ (al.length : Int) = 8 := by omega
    rw [show flchk al mp cs = 3 by unfold flchk; rw [if_pos (.inl h1)]]
    repeat' (first | refine sA ?_ | with_reducible refine W_tf rfl (fun h => ?_) (fun h => ?_) | ((with_reducible first | refine hK _ ?_ | refine hK _ _ ?_); clear hK K) | ((first | refine sB ?_ | (with_reducible first | refine ops_cons (fun K hK => ?_) | refine opsd_cons (fun K hK => ?_) | refine W_reg lv50FlB ?_ | refine W_drw lv50FlB (by kernel_rfl) ?_) | ((with_reducible refine opsd_nil ?_); refine And.intro (by kernel_rfl) ?_) | with_reducible refine callV_snap ?_ | with_reducible refine And.intro (fun h => ?_) (fun h => ?_) | with_reducible refine And.intro (by omega) ?_); (try simp only [go_sem, seval, reduceCtorEq, c1, lv50FlB, Tryz.ntmps50, Tryz.results50, CkS])) | fail)
  by_cases h2 : mp.length = 8
  case neg =>
    have c1 : (al.length : Int) = 8 := by omega
    have c2 : ¬ (mp.length : Int) = 8 := by omega
    rw [show flchk al mp cs = 3 by unfold flchk; rw [if_pos (.inr h2)]]
    repeat' (first | refine sA ?_ | with_reducible refine W_tf rfl (fun h => ?_) (fun h => ?_) | ((with_reducible first | refine hK _ ?_ | refine hK _ _ ?_); clear hK K) | ((first | refine sB ?_ | (with_reducible first | refine ops_cons (fun K hK => ?_) | refine opsd_cons (fun K hK => ?_) | refine W_reg lv50FlB ?_ | refine W_drw lv50FlB (by kernel_rfl) ?_) | ((with_reducible refine opsd_nil ?_); refine And.intro (by kernel_rfl) ?_) | with_reducible refine callV_snap ?_ | with_reducible refine And.intro (fun h => ?_) (fun h => ?_) | with_reducible refine And.intro (by omega) ?_); (try simp only [go_sem, seval, reduceCtorEq, c1, c2, lv50FlB, Tryz.ntmps50, Tryz.results50, CkS])) | fail)
  have c1 : (al.length : Int) = 8 := by omega
  have c2 : (mp.length : Int) = 8 := by omega
  have hE : flchk al mp cs = if deadm al mp = true then 3 else ckGo mp none cs := by unfold flchk; rw [if_neg (by omega)]
  obtain ⟨E, hE2⟩ : ∃ E, flchk al mp cs = E := ⟨_, rfl⟩
  rw [hE2] at hE ⊢
  repeat' (first | refine sA ?_ | with_reducible refine W_tf rfl (fun h => ?_) (fun h => ?_) | ((with_reducible first | refine hK _ ?_ | refine hK _ _ ?_); clear hK K) | ((first | refine sB ?_ | (with_reducible first | refine ops_cons (fun K hK => ?_) | refine opsd_cons (fun K hK => ?_) | refine W_reg lv50FlB ?_ | refine W_drw lv50FlB (by kernel_rfl) ?_) | ((with_reducible refine opsd_nil ?_); refine And.intro (by kernel_rfl) ?_) | with_reducible refine callV_snap ?_ | with_reducible refine And.intro (fun h => ?_) (fun h => ?_) | with_reducible refine And.intro (by omega) ?_); (try simp only [go_sem, seval, reduceCtorEq, c1, c2, lv50FlB, Tryz.ntmps50, Tryz.results50, CkS])) | fail)
  refine W_loop (fun i : Nat => ⟨[(1, .ptr 0 0), (3, iv i)], [some (.box 38 [.d (.sl (al.map encDB)), .d (.sl (mp.map encU)), .d (.sl (cs.map encCl))])]⟩) (fun i => i ≤ 8 ∧ ∀ j (h1 : j < al.length) (h2 : j < mp.length), j < i → al[j] = false → mp[j] = 0) (fun i => 8 - i) 0 ⟨Nat.zero_le _, fun j _ _ h => absurd h (Nat.not_lt_zero _)⟩ [0] ?_ ?_
  · simp [go_sem]
  rintro i ⟨hi, hno⟩
  by_cases hlt : i < 8
  · have hki : (i : Int) < 8 := by omega
    have hia : i < al.length := by omega
    have him : i < mp.length := by omega
    have e0 : encU mp[i] = [.int .u64 (mp[i] : Int)] := rfl
    have stepc : (al[i] = false → mp[i] = 0) → ∀ j (h1 : j < al.length) (h2 : j < mp.length), j < i + 1 → al[j] = false → mp[j] = 0 := by
      intro hh j g1 g2 g3 g4
      by_cases hj : j = i
      · subst hj; exact hh g4
      · exact hno j g1 g2 (by omega) g4
    cases hab : al[i] with
    | true =>
      have ea : encDB al[i] = [.bool true] := by rw [hab]; rfl
      repeat' (first | refine sA ?_ | with_reducible refine W_tf rfl (fun h => ?_) (fun h => ?_) | ((with_reducible first | refine hK _ ?_ | refine hK _ _ ?_); clear hK K) | ((first | refine sB ?_ | (with_reducible first | refine ops_cons (fun K hK => ?_) | refine opsd_cons (fun K hK => ?_) | refine W_reg lv50FlB ?_ | refine W_drw lv50FlB (by kernel_rfl) ?_) | ((with_reducible refine opsd_nil ?_); refine And.intro (by kernel_rfl) ?_) | with_reducible refine callV_snap ?_ | with_reducible refine And.intro (fun h => ?_) (fun h => ?_) | with_reducible refine And.intro (by omega) ?_); (try simp only [go_sem, seval, reduceCtorEq, hki, ea, e0, lv50FlB, Tryz.ntmps50, Tryz.results50, CkS])) | fail)
      refine ⟨i + 1, [0], ⟨by omega, stepc (fun h => by rw [hab] at h; cases h)⟩, by omega, ?_⟩
      simp [go_sem]
    | false =>
      have ea : encDB al[i] = [.bool false] := by rw [hab]; rfl
      by_cases hm : mp[i] = 0
      · have hmi : (mp[i] : Int) = 0 := by omega
        repeat' (first | refine sA ?_ | with_reducible refine W_tf rfl (fun h => ?_) (fun h => ?_) | ((with_reducible first | refine hK _ ?_ | refine hK _ _ ?_); clear hK K) | ((first | refine sB ?_ | (with_reducible first | refine ops_cons (fun K hK => ?_) | refine opsd_cons (fun K hK => ?_) | refine W_reg lv50FlB ?_ | refine W_drw lv50FlB (by kernel_rfl) ?_) | ((with_reducible refine opsd_nil ?_); refine And.intro (by kernel_rfl) ?_) | with_reducible refine callV_snap ?_ | with_reducible refine And.intro (fun h => ?_) (fun h => ?_) | with_reducible refine And.intro (by omega) ?_); (try simp only [go_sem, seval, reduceCtorEq, hki, ea, e0, hmi, lv50FlB, Tryz.ntmps50, Tryz.results50, CkS])) | fail)
        refine ⟨i + 1, [0], ⟨by omega, stepc (fun _ => hm)⟩, by omega, ?_⟩
        simp [go_sem]
      · have hmi : ¬ (mp[i] : Int) = 0 := by omega
        rw [if_pos (dead_get hia him hab hm)] at hE
        rw [hE]
        repeat' (first | refine sA ?_ | with_reducible refine W_tf rfl (fun h => ?_) (fun h => ?_) | ((with_reducible first | refine hK _ ?_ | refine hK _ _ ?_); clear hK K) | ((first | refine sB ?_ | (with_reducible first | refine ops_cons (fun K hK => ?_) | refine opsd_cons (fun K hK => ?_) | refine W_reg lv50FlB ?_ | refine W_drw lv50FlB (by kernel_rfl) ?_) | ((with_reducible refine opsd_nil ?_); refine And.intro (by kernel_rfl) ?_) | with_reducible refine callV_snap ?_ | with_reducible refine And.intro (fun h => ?_) (fun h => ?_) | with_reducible refine And.intro (by omega) ?_); (try simp only [go_sem, seval, reduceCtorEq, hki, ea, e0, hmi, lv50FlB, Tryz.ntmps50, Tryz.results50, CkS])) | fail)
  · have hki : ¬ (i : Int) < 8 := by omega
    have hd : deadm al mp = false := dead_no (fun j g1 g2 g3 => hno j g1 g2 (by omega) g3)
    rw [hd, if_neg (by decide)] at hE
    repeat' (first | refine sA ?_ | with_reducible refine W_tf rfl (fun h => ?_) (fun h => ?_) | ((with_reducible first | refine hK _ ?_ | refine hK _ _ ?_); clear hK K) | ((first | refine sB ?_ | (with_reducible first | refine ops_cons (fun K hK => ?_) | refine opsd_cons (fun K hK => ?_) | refine W_reg lv50FlB ?_ | refine W_drw lv50FlB (by kernel_rfl) ?_) | ((with_reducible refine opsd_nil ?_); refine And.intro (by kernel_rfl) ?_) | with_reducible refine callV_snap ?_ | with_reducible refine And.intro (fun h => ?_) (fun h => ?_) | with_reducible refine And.intro (by omega) ?_); (try simp only [go_sem, seval, reduceCtorEq, hki, lv50FlB, Tryz.ntmps50, Tryz.results50, CkS])) | fail)
    refine W_loop (fun i : Nat => ⟨[(1, .ptr 0 0), (4, iv i)], [some (.box 38 [.d (.sl (al.map encDB)), .d (.sl (mp.map encU)), .d (.sl (cs.map encCl))])]⟩) (fun i => i ≤ cs.length ∧ ckGo mp (prevC cs i) (cs.drop i) = E) (fun i => cs.length - i) 0 ⟨Nat.zero_le _, by simpa [prevC] using hE.symm⟩ [0] ?_ ?_
    · simp [go_sem]
    clear hno hE
    rintro i ⟨hi, hgo⟩
    by_cases hlt : i < cs.length
    · have hki : (i : Int) < cs.length := by omega
      rw [drop_get cs i hlt] at hgo
      have hps := prev_succ cs i hlt
      obtain ⟨⟨cp, cg, cw, cv⟩, hc⟩ : ∃ c, cs[i] = c := ⟨_, rfl⟩
      rw [hc] at hgo hps
      have e0 : encCl cs[i] = [.int .i64 cp, .int .i64 cg, .int .i64 cw, .int .u64 (cv : Int)] := by rw [hc]; rfl
      have bad : ∀ e : Int, e ≠ 0 → ck1 mp (cp, cg, cw, cv) = e → E = e := by
        intro e he h
        cases hq : prevC cs i with
        | none => rw [hq, ckGo, h, if_pos he] at hgo; exact hgo.symm
        | some b => rw [hq, ckGo, h, if_pos he] at hgo; exact hgo.symm
      by_cases hP : Prc cp
      case neg =>
        have d1 := decide_eq_false hP
        rw [bad 2 (by decide) (by unfold ck1; rw [if_pos (fun h => hP h.1)])]
        repeat' (first | refine sA ?_ | with_reducible refine W_tf rfl (fun h => ?_) (fun h => ?_) | ((with_reducible first | refine hK _ ?_ | refine hK _ _ ?_); clear hK K) | ((first | refine sB ?_ | (with_reducible first | refine ops_cons (fun K hK => ?_) | refine opsd_cons (fun K hK => ?_) | refine W_reg lv50FlB ?_ | refine W_drw lv50FlB (by kernel_rfl) ?_) | ((with_reducible refine opsd_nil ?_); refine And.intro (by kernel_rfl) ?_) | with_reducible refine callV_snap ?_ | ((with_reducible refine call_go rprcS rprc_ok ?_); refine ⟨alk, _, _, rprc_at cp, ?_⟩) | with_reducible refine And.intro (fun h => ?_) (fun h => ?_) | with_reducible refine And.intro (by omega) ?_); (try simp only [go_sem, seval, reduceCtorEq, hki, e0, d1, lv50FlB, Tryz.ntmps50, Tryz.results50, CkS])) | fail)
      have d1 := decide_eq_true hP
      by_cases hG : Pgs cg
      case neg =>
        have d2 := decide_eq_false hG
        rw [bad 2 (by decide) (by unfold ck1; rw [if_pos (fun h => hG h.2.1)])]
        repeat' (first | refine sA ?_ | with_reducible refine W_tf rfl (fun h => ?_) (fun h => ?_) | ((with_reducible first | refine hK _ ?_ | refine hK _ _ ?_); clear hK K) | ((first | refine sB ?_ | (with_reducible first | refine ops_cons (fun K hK => ?_) | refine opsd_cons (fun K hK => ?_) | refine W_reg lv50FlB ?_ | refine W_drw lv50FlB (by kernel_rfl) ?_) | ((with_reducible refine opsd_nil ?_); refine And.intro (by kernel_rfl) ?_) | with_reducible refine callV_snap ?_ | ((with_reducible refine call_go rprcS rprc_ok ?_); refine ⟨alk, _, _, rprc_at cp, ?_⟩) | ((with_reducible refine call_go rpgsS rpgs_ok ?_); refine ⟨alk, _, _, rpgs_at cg, ?_⟩) | with_reducible refine And.intro (fun h => ?_) (fun h => ?_) | with_reducible refine And.intro (by omega) ?_); (try simp only [go_sem, seval, reduceCtorEq, hki, e0, d1, d2, lv50FlB, Tryz.ntmps50, Tryz.results50, CkS])) | fail)
      have d2 := decide_eq_true hG
      by_cases hW : Wrd cw
      case neg =>
        have d3 := decide_eq_false hW
        rw [bad 2 (by decide) (by unfold ck1; rw [if_pos (fun h => hW h.2.2)])]
        repeat' (first | refine sA ?_ | with_reducible refine W_tf rfl (fun h => ?_) (fun h => ?_) | ((with_reducible first | refine hK _ ?_ | refine hK _ _ ?_); clear hK K) | ((first | refine sB ?_ | (with_reducible first | refine ops_cons (fun K hK => ?_) | refine opsd_cons (fun K hK => ?_) | refine W_reg lv50FlB ?_ | refine W_drw lv50FlB (by kernel_rfl) ?_) | ((with_reducible refine opsd_nil ?_); refine And.intro (by kernel_rfl) ?_) | with_reducible refine callV_snap ?_ | ((with_reducible refine call_go rprcS rprc_ok ?_); refine ⟨alk, _, _, rprc_at cp, ?_⟩) | ((with_reducible refine call_go rpgsS rpgs_ok ?_); refine ⟨alk, _, _, rpgs_at cg, ?_⟩) | ((with_reducible refine call_go rwrdS rwrd_ok ?_); refine ⟨alk, _, _, rwrd_at cw, ?_⟩) | with_reducible refine And.intro (fun h => ?_) (fun h => ?_) | with_reducible refine And.intro (by omega) ?_); (try simp only [go_sem, seval, reduceCtorEq, hki, e0, d1, d2, d3, lv50FlB, Tryz.ntmps50, Tryz.results50, CkS])) | fail)
      have d3 := decide_eq_true hW
      by_cases hV : cv = 0
      · have dv : (cv : Int) = 0 := by omega
        rw [bad 3 (by decide) (by unfold ck1; rw [if_neg (fun h => h ⟨hP, hG, hW⟩), if_pos hV])]
        repeat' (first | refine sA ?_ | with_reducible refine W_tf rfl (fun h => ?_) (fun h => ?_) | ((with_reducible first | refine hK _ ?_ | refine hK _ _ ?_); clear hK K) | ((first | refine sB ?_ | (with_reducible first | refine ops_cons (fun K hK => ?_) | refine opsd_cons (fun K hK => ?_) | refine W_reg lv50FlB ?_ | refine W_drw lv50FlB (by kernel_rfl) ?_) | ((with_reducible refine opsd_nil ?_); refine And.intro (by kernel_rfl) ?_) | with_reducible refine callV_snap ?_ | ((with_reducible refine call_go rprcS rprc_ok ?_); refine ⟨alk, _, _, rprc_at cp, ?_⟩) | ((with_reducible refine call_go rpgsS rpgs_ok ?_); refine ⟨alk, _, _, rpgs_at cg, ?_⟩) | ((with_reducible refine call_go rwrdS rwrd_ok ?_); refine ⟨alk, _, _, rwrd_at cw, ?_⟩) | with_reducible refine And.intro (fun h => ?_) (fun h => ?_) | with_reducible refine And.intro (by omega) ?_); (try simp only [go_sem, seval, reduceCtorEq, hki, e0, d1, d2, d3, dv, lv50FlB, Tryz.ntmps50, Tryz.results50, CkS])) | fail)
      have dv : ¬ (cv : Int) = 0 := by omega
      obtain ⟨h5, h6⟩ := hG
      obtain ⟨h3, h4⟩ := hP
      obtain ⟨j, rfl⟩ : ∃ j : Nat, cp = (j : Int) + 1 := ⟨(cp - 1).toNat, by omega⟩
      obtain ⟨g, rfl⟩ := Int.eq_ofNat_of_zero_le h5
      have hj : j < mp.length := by omega
      have hp1 : (j : Int) + 1 - 1 = (j : Int) := by omega
      have hx := hu _ (List.getElem_mem hj)
      have hb := and_bit0 hx (g := g) (by omega)
      have eu : encU mp[j] = [.int .u64 (mp[j] : Int)] := rfl
      have hm : mpd mp ((j : Int) + 1) (g : Int) = mp[j].testBit g := by unfold mpd; rw [hp1]; simp [hj]
      cases ht : mp[j].testBit g with
      | false =>
        have hb' : mpd mp ((j : Int) + 1) (g : Int) = false := by rw [hm, ht]
        rw [bad 12 (by decide) (by unfold ck1; rw [if_neg (fun h => h ⟨⟨h3, h4⟩, ⟨h5, h6⟩, hW⟩), if_neg hV, if_pos (by dsimp only; rw [hm, ht])])]
        repeat' (first | refine sA ?_ | with_reducible refine W_tf rfl (fun h => ?_) (fun h => ?_) | ((with_reducible first | refine hK _ ?_ | refine hK _ _ ?_); clear hK K) | ((first | refine sB ?_ | (with_reducible first | refine ops_cons (fun K hK => ?_) | refine opsd_cons (fun K hK => ?_) | refine W_reg lv50FlB ?_ | refine W_drw lv50FlB (by kernel_rfl) ?_) | ((with_reducible refine opsd_nil ?_); refine And.intro (by kernel_rfl) ?_) | with_reducible refine callV_snap ?_ | ((with_reducible refine call_go rprcS rprc_ok ?_); refine ⟨alk, _, _, rprc_at _, ?_⟩) | ((with_reducible refine call_go rpgsS rpgs_ok ?_); refine ⟨alk, _, _, rpgs_at _, ?_⟩) | ((with_reducible refine call_go rwrdS rwrd_ok ?_); refine ⟨alk, _, _, rwrd_at cw, ?_⟩) | ((with_reducible refine call_go rmapS rmap_ok ?_); refine ⟨alk, _, _, rmap_at al mp cs _ _ h2 hu ⟨h3, h4⟩ ⟨h5, h6⟩, ?_⟩) | with_reducible refine And.intro (fun h => ?_) (fun h => ?_) | with_reducible refine And.intro (by omega) ?_); (try simp only [go_sem, seval, reduceCtorEq, hki, e0, d1, d2, d3, dv, hp1, eu, hb', lv50FlB, Tryz.ntmps50, Tryz.results50, CkS])) | fail)
      | true =>
        have hb' : mpd mp ((j : Int) + 1) (g : Int) = true := by rw [hm, ht]
        have hok : ck1 mp ((j : Int) + 1, (g : Int), cw, cv) = 0 := by unfold ck1; rw [if_neg (fun h => h ⟨⟨h3, h4⟩, ⟨h5, h6⟩, hW⟩), if_neg hV, if_neg (by dsimp only; rw [hm, ht]; simp)]
        by_cases h0 : i = 0
        · have h0i : ¬ (0 : Int) < (i : Int) := by omega
          have hpv : prevC cs i = none := by unfold prevC; rw [if_pos h0]
          rw [hpv, ckGo, hok, if_neg (by simp)] at hgo
          repeat' (first | refine sA ?_ | with_reducible refine W_tf rfl (fun h => ?_) (fun h => ?_) | ((with_reducible first | refine hK _ ?_ | refine hK _ _ ?_); clear hK K) | ((first | refine sB ?_ | (with_reducible first | refine ops_cons (fun K hK => ?_) | refine opsd_cons (fun K hK => ?_) | refine W_reg lv50FlB ?_ | refine W_drw lv50FlB (by kernel_rfl) ?_) | ((with_reducible refine opsd_nil ?_); refine And.intro (by kernel_rfl) ?_) | with_reducible refine callV_snap ?_ | ((with_reducible refine call_go rprcS rprc_ok ?_); refine ⟨alk, _, _, rprc_at _, ?_⟩) | ((with_reducible refine call_go rpgsS rpgs_ok ?_); refine ⟨alk, _, _, rpgs_at _, ?_⟩) | ((with_reducible refine call_go rwrdS rwrd_ok ?_); refine ⟨alk, _, _, rwrd_at cw, ?_⟩) | ((with_reducible refine call_go rmapS rmap_ok ?_); refine ⟨alk, _, _, rmap_at al mp cs _ _ h2 hu ⟨h3, h4⟩ ⟨h5, h6⟩, ?_⟩) | with_reducible refine And.intro (fun h => ?_) (fun h => ?_) | with_reducible refine And.intro (by omega) ?_); (try simp only [go_sem, seval, reduceCtorEq, hki, h0i, e0, d1, d2, d3, dv, hp1, eu, hb', lv50FlB, Tryz.ntmps50, Tryz.results50, CkS])) | fail)
          refine ⟨i + 1, [0], ⟨by omega, by rw [hps]; exact hgo⟩, by omega, ?_⟩
          simp [go_sem]
        · have h0i : (0 : Int) < i := by omega
          have hi1 : (i : Int) - 1 = ((i - 1 : Nat) : Int) := by omega
          have hlt1 : i - 1 < cs.length := by omega
          obtain ⟨b, hbq⟩ : ∃ b, cs[i - 1] = b := ⟨_, rfl⟩
          have e1 : encCl cs[i - 1] = [.int .i64 b.1, .int .i64 b.2.1, .int .i64 b.2.2.1, .int .u64 (b.2.2.2 : Int)] := by rw [hbq]; rfl
          have hpv : prevC cs i = some b := by unfold prevC; rw [if_neg h0]; simp [hlt1, hbq]
          rw [hpv, ckGo, hok, if_neg (by simp)] at hgo
          have hcb := cmK_bef b ((j : Int) + 1, (g : Int), cw, cv)
          dsimp only at hcb
          by_cases hB : Bef b ((j : Int) + 1, (g : Int), cw, cv)
          · rw [if_pos hB] at hgo
            have hcm := decide_eq_true hB
            repeat' (first | refine sA ?_ | with_reducible refine W_tf rfl (fun h => ?_) (fun h => ?_) | ((with_reducible first | refine hK _ ?_ | refine hK _ _ ?_); clear hK K) | ((first | refine sB ?_ | (with_reducible first | refine ops_cons (fun K hK => ?_) | refine opsd_cons (fun K hK => ?_) | refine W_reg lv50FlB ?_ | refine W_drw lv50FlB (by kernel_rfl) ?_) | ((with_reducible refine opsd_nil ?_); refine And.intro (by kernel_rfl) ?_) | with_reducible refine callV_snap ?_ | ((with_reducible refine call_go rprcS rprc_ok ?_); refine ⟨alk, _, _, rprc_at _, ?_⟩) | ((with_reducible refine call_go rpgsS rpgs_ok ?_); refine ⟨alk, _, _, rpgs_at _, ?_⟩) | ((with_reducible refine call_go rwrdS rwrd_ok ?_); refine ⟨alk, _, _, rwrd_at cw, ?_⟩) | ((with_reducible refine call_go rmapS rmap_ok ?_); refine ⟨alk, _, _, rmap_at al mp cs _ _ h2 hu ⟨h3, h4⟩ ⟨h5, h6⟩, ?_⟩) | ((with_reducible refine call_go befS bef_ok ?_); refine ⟨alk, _, _, bef_at b ((j : Int) + 1, (g : Int), cw, cv), ?_⟩) | with_reducible refine And.intro (fun h => ?_) (fun h => ?_) | with_reducible refine And.intro (by omega) ?_); (try simp only [go_sem, seval, reduceCtorEq, hki, h0i, hi1, e0, e1, d1, d2, d3, dv, hp1, eu, hb', hcm, lv50FlB, Tryz.ntmps50, Tryz.results50, CkS])) | fail)
            refine ⟨i + 1, [0], ⟨by omega, by rw [hps]; exact hgo⟩, by omega, ?_⟩
            simp [go_sem]
          · rw [if_neg hB] at hgo
            have hcm := decide_eq_false hB
            rw [← hgo]
            repeat' (first | refine sA ?_ | with_reducible refine W_tf rfl (fun h => ?_) (fun h => ?_) | ((with_reducible first | refine hK _ ?_ | refine hK _ _ ?_); clear hK K) | ((first | refine sB ?_ | (with_reducible first | refine ops_cons (fun K hK => ?_) | refine opsd_cons (fun K hK => ?_) | refine W_reg lv50FlB ?_ | refine W_drw lv50FlB (by kernel_rfl) ?_) | ((with_reducible refine opsd_nil ?_); refine And.intro (by kernel_rfl) ?_) | with_reducible refine callV_snap ?_ | ((with_reducible refine call_go rprcS rprc_ok ?_); refine ⟨alk, _, _, rprc_at _, ?_⟩) | ((with_reducible refine call_go rpgsS rpgs_ok ?_); refine ⟨alk, _, _, rpgs_at _, ?_⟩) | ((with_reducible refine call_go rwrdS rwrd_ok ?_); refine ⟨alk, _, _, rwrd_at cw, ?_⟩) | ((with_reducible refine call_go rmapS rmap_ok ?_); refine ⟨alk, _, _, rmap_at al mp cs _ _ h2 hu ⟨h3, h4⟩ ⟨h5, h6⟩, ?_⟩) | ((with_reducible refine call_go befS bef_ok ?_); refine ⟨alk, _, _, bef_at b ((j : Int) + 1, (g : Int), cw, cv), ?_⟩) | with_reducible refine And.intro (fun h => ?_) (fun h => ?_) | with_reducible refine And.intro (by omega) ?_); (try simp only [go_sem, seval, reduceCtorEq, hki, h0i, hi1, e0, e1, d1, d2, d3, dv, hp1, eu, hb', hcm, lv50FlB, Tryz.ntmps50, Tryz.results50, CkS])) | fail)
    · have hki : ¬ (i : Int) < cs.length := by omega
      rw [List.drop_eq_nil_of_le (by omega)] at hgo
      have hE0 : E = 0 := by
        cases hq : prevC cs i <;> rw [hq, ckGo] at hgo <;> exact hgo.symm
      rw [hE0]
      repeat' (first | refine sA ?_ | with_reducible refine W_tf rfl (fun h => ?_) (fun h => ?_) | ((with_reducible first | refine hK _ ?_ | refine hK _ _ ?_); clear hK K) | ((first | refine sB ?_ | (with_reducible first | refine ops_cons (fun K hK => ?_) | refine opsd_cons (fun K hK => ?_) | refine W_reg lv50FlB ?_ | refine W_drw lv50FlB (by kernel_rfl) ?_) | ((with_reducible refine opsd_nil ?_); refine And.intro (by kernel_rfl) ?_) | with_reducible refine callV_snap ?_ | with_reducible refine And.intro (fun h => ?_) (fun h => ?_) | with_reducible refine And.intro (by omega) ?_); (try simp only [go_sem, seval, reduceCtorEq, hki, lv50FlB, Tryz.ntmps50, Tryz.results50, CkS])) | fail)
end Go.Proofs.YtpocnjliigjidaaGreat
