import Derived.Test.YtpocnjliigjidaaGreatFlG
/- A flat memory: the binary search among the cells, by the engine. -/
namespace Go.Proofs.YtpocnjliigjidaaGreat
open Go.RowKit
set_option maxRecDepth 100000
set_option linter.unusedSimpArgs false
set_option linter.unusedVariables false
abbrev lv116FlI : List (Nat × List Nat) := [(0, [1, 2, 3, 4]), (1, [1, 2, 3, 4, 10]), (2, [1, 2, 3, 4, 10, 19]), (3, [8, 9]), (4, [4, 11, 12]), (5, [4, 11, 33]), (6, [8, 9]), (7, [8, 9])]
abbrev lv127FlI : List (Nat × List Nat) := [(0, [1, 2, 3, 4]), (1, [1, 2, 3, 4, 10]), (2, [1, 2, 3, 4, 10, 26]), (3, [1, 2, 3, 4, 10]), (4, [1, 2, 3, 4, 10, 28]), (5, [8, 9]), (6, [3, 10, 11]), (7, [8, 9])]
abbrev lv147FlI : List (Nat × List Nat) := [(0, [0, 2, 4]), (1, [0, 2, 4, 8]), (2, [0, 2, 4, 8, 9, 10]), (3, [0, 2, 4, 8, 9, 10, 17]), (4, [0, 2, 4, 8, 9, 10, 11]), (5, [0, 2, 4, 8, 9, 10, 11, 31]), (6, [0, 2, 4, 8, 9, 10]), (7, [0, 2, 4, 8, 9, 10]), (8, [6, 7])]
def rdcS : Spec := { rel := fun args ins res outs => ∃ (c : Cl) (p g w : Int), args = [cellA c, keyA p g w] ∧ ins = [] ∧ res = iv (cmK c.1 c.2.1 c.2.2.1 p g w) ∧ outs = [] }
theorem rdc_at (c : Cl) (p g w : Int) : rdcS.rel [cellA c, keyA p g w] [] (iv (cmK c.1 c.2.1 c.2.2.1 p g w)) [] := ⟨c, p, g, w, rfl, rfl, rfl, rfl⟩
theorem rdc_ok : Ok Tryz.prog 148 rdcS := by
  refine fn_ok rdcS Tryz.func148 rfl rfl ?_
  rintro args ins res outs ⟨c, p, g, w, rfl, rfl, rfl, rfl⟩
  refine ⟨by simp [Tryz.ntmps148], fun w0 V Bo mu0 => ?_⟩
  repeat' (first | refine sA ?_ | ((with_reducible first | refine hK _ ?_ | refine hK _ _ ?_); clear hK K) | ((first | refine sB ?_ | (with_reducible first | refine ops_cons (fun K hK => ?_) | refine opsd_cons (fun K hK => ?_) | refine W_reg [(0, [2, 3]), (1, [4])] ?_ | refine W_drw [(0, [2, 3]), (1, [4])] (by kernel_rfl) ?_) | ((with_reducible refine opsd_nil ?_); refine And.intro (by kernel_rfl) ?_) | with_reducible refine callV_snap ?_ | ((with_reducible refine call_go keyOfS keyOf_ok ?_); refine ⟨alk, _, _, keyOf_at c, ?_⟩) | ((with_reducible refine call_go compareS compare_ok ?_); refine ⟨alk, _, _, compare_at _ _ _ _ _ _, ?_⟩) | with_reducible refine And.intro (fun h => ?_) (fun h => ?_) | with_reducible refine And.intro (by omega) ?_); (try simp only [go_sem, seval, reduceCtorEq, Tryz.ntmps148, Tryz.results148, rdcS])) | fail)
def kc (c : Cl) (p g w : Int) : Int := cmK c.1 c.2.1 c.2.2.1 p g w
def AtK (cs : List Cl) (p g w : Int) (k : Nat) : Prop := k ≤ cs.length ∧ (∀ j (h : j < cs.length), j < k → kc cs[j] p g w < 0) ∧ (∀ j (h : j < cs.length), k ≤ j → 0 ≤ kc cs[j] p g w)
def bsS : Spec := { rel := fun args ins res outs => ∃ (cs : List Cl) (p g w : Int) (k : Nat) (b : Bool), cs.length ≤ 1000000 ∧ AtK cs p g w k ∧ (b = true ↔ ∃ h : k < cs.length, kc cs[k] p g w = 0) ∧ args = [.d (.sl (cs.map encCl)), keyA p g w, .fn 148 []] ∧ ins = [] ∧ res = .tup [iv k, bv b] ∧ outs = [] }
theorem bs_at (cs : List Cl) (p g w : Int) (k : Nat) (b : Bool) (h : cs.length ≤ 1000000) (ha : AtK cs p g w k) (hb : b = true ↔ ∃ h : k < cs.length, kc cs[k] p g w = 0) : bsS.rel [.d (.sl (cs.map encCl)), keyA p g w, .fn 148 []] [] (.tup [iv k, bv b]) [] := ⟨cs, p, g, w, k, b, h, ha, hb, rfl, rfl, rfl, rfl⟩
set_option maxHeartbeats 2000000 in
theorem bs_ok : Ok Tryz.prog 147 bsS := by
  refine fn_ok bsS Tryz.func147 rfl rfl ?_
  rintro args ins res outs ⟨l, p, g, w, k, b, hl, ⟨hp, hlo, hhi⟩, hb, rfl, rfl, rfl, rfl⟩
  refine ⟨by simp [Tryz.ntmps147], fun w0 V Bo mu0 => ?_⟩
  repeat' (first | refine sA ?_ | with_reducible refine W_tf rfl (fun h => ?_) (fun h => ?_) | ((with_reducible first | refine hK _ ?_ | refine hK _ _ ?_); clear hK K) | ((first | refine sB ?_ | (with_reducible first | refine ops_cons (fun K hK => ?_) | refine opsd_cons (fun K hK => ?_) | refine W_reg lv147FlI ?_ | refine W_drw lv147FlI (by kernel_rfl) ?_) | ((with_reducible refine opsd_nil ?_); refine And.intro (by kernel_rfl) ?_) | with_reducible refine callV_snap ?_ | with_reducible refine And.intro (fun h => ?_) (fun h => ?_) | with_reducible refine And.intro (by omega) ?_); (try simp only [go_sem, seval, reduceCtorEq, lv147FlI, Tryz.ntmps147, Tryz.results147, bsS])) | fail)
  refine W_loop (fun q : Nat × Nat => ⟨[(0, .d (.sl (l.map encCl))), (2, .fn 148 []), (4, .ptr 0 0), (8, iv l.length), (9, iv q.1), (10, iv q.2)], [some (.box 115 [iv p, iv g, iv w])]⟩) (fun q => q.1 ≤ k ∧ k ≤ q.2 ∧ q.2 ≤ l.length) (fun q => q.2 - q.1) (0, l.length) ⟨Nat.zero_le _, hp, Nat.le_refl _⟩ [0] ?_ ?_
  · simp [go_sem]
  rintro ⟨i, j⟩ ⟨h1, h2, h3⟩
  dsimp only at h1 h2 h3
  by_cases hij : i < j
  · have hij' : (i : Int) < j := by omega
    have hh : ((i : Int) + j) / 2 = (((i + j) / 2 : Nat) : Int) := by omega
    have hh2 : ((i : Int) + j) / 2 ^ 1 = (((i + j) / 2 : Nat) : Int) := by omega
    have hlt : (i + j) / 2 < l.length := by omega
    generalize hm : (i + j) / 2 = m at *
    obtain ⟨⟨cp, cg, cw, cv⟩, hc0⟩ : ∃ c, l[m] = c := ⟨_, rfl⟩
    have e0 : encCl l[m] = [.int .i64 cp, .int .i64 cg, .int .i64 cw, .int .u64 (cv : Int)] := by rw [hc0]; rfl
    have hk : kc l[m] p g w = cmK cp cg cw p g w := by rw [hc0]; rfl
    by_cases hc : kc l[m] p g w < 0
    · have hc' : cmK cp cg cw p g w < 0 := by omega
      repeat' (first | refine sA ?_ | with_reducible refine W_tf rfl (fun h => ?_) (fun h => ?_) | ((with_reducible first | refine hK _ ?_ | refine hK _ _ ?_); clear hK K) | ((first | refine sB ?_ | (with_reducible first | refine ops_cons (fun K hK => ?_) | refine opsd_cons (fun K hK => ?_) | refine W_reg lv147FlI ?_ | refine W_drw lv147FlI (by kernel_rfl) ?_) | ((with_reducible refine opsd_nil ?_); refine And.intro (by kernel_rfl) ?_) | with_reducible refine callV_snap ?_ | ((with_reducible refine call_go rdcS rdc_ok ?_); refine ⟨alk, _, _, rdc_at (cp, cg, cw, cv) p g w, ?_⟩) | with_reducible refine And.intro (fun h => ?_) (fun h => ?_) | with_reducible refine And.intro (by omega) ?_); (try simp only [go_sem, seval, reduceCtorEq, e0, hij', hh, hh2, hc', lv147FlI, Tryz.ntmps147, Tryz.results147, bsS])) | fail)
      have hmp : m < k := by
        rcases Nat.lt_or_ge m k with h | h
        · exact h
        · have := hhi m hlt h; omega
      refine ⟨(m + 1, j), [0], ⟨hmp, h2, h3⟩, by dsimp only; omega, ?_⟩
      simp [go_sem]
    · have hc' : ¬ cmK cp cg cw p g w < 0 := by omega
      repeat' (first | refine sA ?_ | with_reducible refine W_tf rfl (fun h => ?_) (fun h => ?_) | ((with_reducible first | refine hK _ ?_ | refine hK _ _ ?_); clear hK K) | ((first | refine sB ?_ | (with_reducible first | refine ops_cons (fun K hK => ?_) | refine opsd_cons (fun K hK => ?_) | refine W_reg lv147FlI ?_ | refine W_drw lv147FlI (by kernel_rfl) ?_) | ((with_reducible refine opsd_nil ?_); refine And.intro (by kernel_rfl) ?_) | with_reducible refine callV_snap ?_ | ((with_reducible refine call_go rdcS rdc_ok ?_); refine ⟨alk, _, _, rdc_at (cp, cg, cw, cv) p g w, ?_⟩) | with_reducible refine And.intro (fun h => ?_) (fun h => ?_) | with_reducible refine And.intro (by omega) ?_); (try simp only [go_sem, seval, reduceCtorEq, e0, hij', hh, hh2, hc', lv147FlI, Tryz.ntmps147, Tryz.results147, bsS])) | fail)
      have hmp : k ≤ m := by
        rcases Nat.lt_or_ge m k with h | h
        · exact absurd (hlo m hlt h) hc
        · exact h
      refine ⟨(i, m), [0], ⟨h1, hmp, by dsimp only; omega⟩, by dsimp only; omega, ?_⟩
      simp [go_sem]
  · have hij' : ¬ (i : Int) < j := by omega
    obtain rfl : i = k := by omega
    by_cases hlt : i < l.length
    · have hki : (i : Int) < l.length := by omega
      obtain ⟨⟨cp, cg, cw, cv⟩, hc0⟩ : ∃ c, l[i] = c := ⟨_, rfl⟩
      have e0 : encCl l[i] = [.int .i64 cp, .int .i64 cg, .int .i64 cw, .int .u64 (cv : Int)] := by rw [hc0]; rfl
      have hk : kc l[i] p g w = cmK cp cg cw p g w := by rw [hc0]; rfl
      by_cases hx : kc l[i] p g w = 0
      · have hx' : cmK cp cg cw p g w = 0 := by omega
        have hbt : b = true := hb.2 ⟨hlt, hx⟩
        repeat' (first | refine sA ?_ | with_reducible refine W_tf rfl (fun h => ?_) (fun h => ?_) | ((with_reducible first | refine hK _ ?_ | refine hK _ _ ?_); clear hK K) | ((first | refine sB ?_ | (with_reducible first | refine ops_cons (fun K hK => ?_) | refine opsd_cons (fun K hK => ?_) | refine W_reg lv147FlI ?_ | refine W_drw lv147FlI (by kernel_rfl) ?_) | ((with_reducible refine opsd_nil ?_); refine And.intro (by kernel_rfl) ?_) | with_reducible refine callV_snap ?_ | ((with_reducible refine call_go rdcS rdc_ok ?_); refine ⟨alk, _, _, rdc_at (cp, cg, cw, cv) p g w, ?_⟩) | with_reducible refine And.intro (fun h => ?_) (fun h => ?_) | with_reducible refine And.intro (by omega) ?_); (try simp only [go_sem, seval, reduceCtorEq, e0, hij', hki, hx', hbt, lv147FlI, Tryz.ntmps147, Tryz.results147, bsS])) | fail)
      · have hx' : ¬ cmK cp cg cw p g w = 0 := by omega
        have hbt : b = false := by
          cases b with
          | false => rfl
          | true => obtain ⟨_, h⟩ := hb.1 rfl; exact absurd h hx
        repeat' (first | refine sA ?_ | with_reducible refine W_tf rfl (fun h => ?_) (fun h => ?_) | ((with_reducible first | refine hK _ ?_ | refine hK _ _ ?_); clear hK K) | ((first | refine sB ?_ | (with_reducible first | refine ops_cons (fun K hK => ?_) | refine opsd_cons (fun K hK => ?_) | refine W_reg lv147FlI ?_ | refine W_drw lv147FlI (by kernel_rfl) ?_) | ((with_reducible refine opsd_nil ?_); refine And.intro (by kernel_rfl) ?_) | with_reducible refine callV_snap ?_ | ((with_reducible refine call_go rdcS rdc_ok ?_); refine ⟨alk, _, _, rdc_at (cp, cg, cw, cv) p g w, ?_⟩) | with_reducible refine And.intro (fun h => ?_) (fun h => ?_) | with_reducible refine And.intro (by omega) ?_); (try simp only [go_sem, seval, reduceCtorEq, e0, hij', hki, hx', hbt, lv147FlI, Tryz.ntmps147, Tryz.results147, bsS])) | fail)
    · have hki : ¬ (i : Int) < l.length := by omega
      have hbt : b = false := by
        cases b with
        | false => rfl
        | true => obtain ⟨h, _⟩ := hb.1 rfl; exact absurd h hlt
      repeat' (first | refine sA ?_ | with_reducible refine W_tf rfl (fun h => ?_) (fun h => ?_) | ((with_reducible first | refine hK _ ?_ | refine hK _ _ ?_); clear hK K) | ((first | refine sB ?_ | (with_reducible first | refine ops_cons (fun K hK => ?_) | refine opsd_cons (fun K hK => ?_) | refine W_reg lv147FlI ?_ | refine W_drw lv147FlI (by kernel_rfl) ?_) | ((with_reducible refine opsd_nil ?_); refine And.intro (by kernel_rfl) ?_) | with_reducible refine callV_snap ?_ | with_reducible refine And.intro (fun h => ?_) (fun h => ?_) | with_reducible refine And.intro (by omega) ?_); (try simp only [go_sem, seval, reduceCtorEq, hij', hki, hbt, lv147FlI, Tryz.ntmps147, Tryz.results147, bsS])) | fail)
end Go.Proofs.YtpocnjliigjidaaGreat
namespace Go.Proofs.YtpocnjliigjidaaGreat
open Go.RowKit
set_option maxRecDepth 100000
set_option linter.unusedSimpArgs false
set_option linter.unusedVariables false
theorem bef_trans {a b c : Cl} (h1 : Bef a b) (h2 : Bef b c) : Bef a c := by unfold Bef at *; omega
theorem ckGo_next {mp : List Nat} {a b : Cl} {r : List Cl} (h : ckGo mp (some a) (b :: r) = 0) : Bef a b ∧ ckGo mp (some b) r = 0 := by
  rw [ckGo] at h
  by_cases h1 : ck1 mp b = 0
  · rw [if_neg (by simpa using h1)] at h
    by_cases h2 : Bef a b
    · rw [if_pos h2] at h; exact ⟨h2, h⟩
    · rw [if_neg h2] at h; cases h
  · rw [if_pos h1] at h; exact absurd h h1
theorem ckGo_sort {mp : List Nat} : ∀ (cs : List Cl) (a : Cl), ckGo mp (some a) cs = 0 → (∀ c ∈ cs, Bef a c) ∧ cs.Pairwise Bef
  | [], _, _ => by simp
  | b :: r, a, h => by
    obtain ⟨h1, h2⟩ := ckGo_next h
    obtain ⟨g1, g2⟩ := ckGo_sort r b h2
    refine ⟨fun c hc => ?_, List.pairwise_cons.2 ⟨g1, g2⟩⟩
    rcases List.mem_cons.1 hc with rfl | hc
    · exact h1
    · exact bef_trans h1 (g1 c hc)
theorem ckGo_pw {mp : List Nat} {cs : List Cl} (h : ckGo mp none cs = 0) : cs.Pairwise Bef := by
  cases cs with
  | nil => simp
  | cons a r =>
    rw [ckGo] at h
    by_cases h1 : ck1 mp a = 0
    · rw [if_neg (by simpa using h1)] at h
      obtain ⟨g1, g2⟩ := ckGo_sort r a h
      exact List.pairwise_cons.2 ⟨g1, g2⟩
    · rw [if_pos h1] at h; exact absurd h h1
theorem kc_neg {c : Cl} {p g w : Int} : kc c p g w < 0 ↔ Bef c (p, g, w, 0) := by
  have := cmK_bef c (p, g, w, 0)
  dsimp only at this
  unfold kc
  constructor
  · intro h
    rcases Classical.em (Bef c (p, g, w, 0)) with h2 | h2
    · exact h2
    · have := this.2 h2; omega
  · intro h
    rcases Int.lt_or_le (cmK c.1 c.2.1 c.2.2.1 p g w) 0 with h2 | h2
    · exact h2
    · exact absurd h (this.1 h2)
theorem kc_zero {c : Cl} {p g w : Int} : kc c p g w = 0 ↔ c.1 = p ∧ c.2.1 = g ∧ c.2.2.1 = w := by
  unfold kc cmK cm3
  constructor
  · intro h
    by_cases h1 : c.1 < p
    · simp [h1] at h
    · by_cases h2 : p < c.1
      · simp [h1, h2] at h
      · by_cases h3 : c.2.1 < g
        · simp [h1, h2, h3] at h
        · by_cases h4 : g < c.2.1
          · simp [h1, h2, h3, h4] at h
          · by_cases h5 : c.2.2.1 < w
            · simp [h1, h2, h3, h4, h5] at h
            · by_cases h6 : w < c.2.2.1
              · simp [h1, h2, h3, h4, h5, h6] at h
              · omega
  · rintro ⟨rfl, rfl, rfl⟩
    simp
def posK (cs : List Cl) (p g w : Int) : Nat := (cs.takeWhile fun c => decide (kc c p g w < 0)).length
theorem posK_at {cs : List Cl} (hs : cs.Pairwise Bef) (p g w : Int) : AtK cs p g w (posK cs p g w) := by
  unfold AtK posK
  induction cs with
  | nil => simp
  | cons a r ih =>
    obtain ⟨h1, h2⟩ := List.pairwise_cons.1 hs
    obtain ⟨i1, i2, i3⟩ := ih h2
    by_cases ha : kc a p g w < 0
    · rw [List.takeWhile_cons_of_pos (by simpa using ha)]
      refine ⟨by simp; omega, fun j hj hlt => ?_, fun j hj hle => ?_⟩
      · cases j with
        | zero => exact ha
        | succ j => exact i2 j (by simpa using hj) (by simp at hlt; omega)
      · cases j with
        | zero => simp at hle
        | succ j => exact i3 j (by simpa using hj) (by simp at hle; omega)
    · rw [List.takeWhile_cons_of_neg (by simpa using ha)]
      refine ⟨Nat.zero_le _, fun j hj hlt => absurd hlt (Nat.not_lt_zero _), fun j hj _ => ?_⟩
      cases j with
      | zero => simp only [List.getElem_cons_zero]; omega
      | succ j =>
        simp only [List.getElem_cons_succ]
        have hjr : j < r.length := by simpa using hj
        have hb := h1 _ (List.getElem_mem hjr)
        rcases Int.lt_or_le (kc (r[j]'hjr) p g w) 0 with h | h
        · exact absurd (kc_neg.2 (bef_trans hb (kc_neg.1 h))) ha
        · exact h
theorem fold_get (p g : Int) (w : Nat) (hw : w < 8) (v : Nat) : ∀ (cs : List Cl) (C : List Nat), C.length = 8 → (∀ c ∈ cs, Wrd c.2.2.1) → (∀ c ∈ cs, kc c p g w = 0 → c.2.2.2 = v) →
    (cs.foldl (pgF p g) C).length = 8 ∧ ((∃ c ∈ cs, kc c p g w = 0) → (cs.foldl (pgF p g) C)[w]? = some v) ∧ ((¬ ∃ c ∈ cs, kc c p g w = 0) → (cs.foldl (pgF p g) C)[w]? = C[w]?)
  | [], C, hC, _, _ => ⟨hC, by simp, by simp⟩
  | a :: r, C, hC, hW, hv => by
    have hW' := hW a (by simp)
    have hlen : (pgF p g C a).length = 8 := by unfold pgF; split <;> simp [hC]
    obtain ⟨g1, g2, g3⟩ := fold_get p g w hw v r (pgF p g C a) hlen (fun c hc => hW c (by simp [hc])) (fun c hc => hv c (by simp [hc]))
    rw [List.foldl_cons]
    refine ⟨g1, fun hex => ?_, fun hno => ?_⟩
    · by_cases hr : ∃ c ∈ r, kc c p g w = 0
      · exact g2 hr
      · obtain ⟨c, hc, hk⟩ := hex
        rcases List.mem_cons.1 hc with rfl | hc
        · rw [g3 hr]
          obtain ⟨k1, k2, k3⟩ := kc_zero.1 hk
          have hvv := hv c (by simp) hk
          unfold pgF
          rw [if_pos ⟨k1, k2⟩, k3, Int.toNat_natCast, hvv]
          rw [List.getElem?_set_self (by omega)]
        · exact absurd ⟨c, hc, hk⟩ hr
    · have hr : ¬ ∃ c ∈ r, kc c p g w = 0 := fun ⟨c, hc, hk⟩ => hno ⟨c, by simp [hc], hk⟩
      rw [g3 hr]
      unfold pgF
      split
      · rename_i hpg
        have hne : a.2.2.1.toNat ≠ w := by
          intro he
          exact hno ⟨a, by simp, kc_zero.2 ⟨hpg.1, hpg.2, by have := hW'.1; omega⟩⟩
        rw [List.getElem?_set_ne hne]
      · rfl
theorem key_uniq {cs : List Cl} (hs : cs.Pairwise Bef) {p g w : Int} {i j : Nat} (hi : i < cs.length) (hj : j < cs.length) (h1 : kc cs[i] p g w = 0) (h2 : kc cs[j] p g w = 0) : i = j := by
  obtain ⟨a1, a2, a3⟩ := kc_zero.1 h1
  obtain ⟨b1, b2, b3⟩ := kc_zero.1 h2
  rcases Nat.lt_trichotomy i j with h | h | h
  · have := List.pairwise_iff_getElem.1 hs i j hi hj h
    unfold Bef at this; omega
  · exact h
  · have := List.pairwise_iff_getElem.1 hs j i hj hi h
    unfold Bef at this; omega
def rdV (cs : List Cl) (p g : Int) (w : Nat) : Nat := (pgC cs p g)[w]?.getD 0
theorem rdV_hit {cs : List Cl} (hs : cs.Pairwise Bef) (hW : ∀ c ∈ cs, Wrd c.2.2.1) {p g : Int} {w : Nat} (hw : w < 8) {k : Nat} (hk : k < cs.length) (h : kc cs[k] p g w = 0) : rdV cs p g w = cs[k].2.2.2 := by
  have := (fold_get p g w hw cs[k].2.2.2 cs [0, 0, 0, 0, 0, 0, 0, 0] rfl hW (fun c hc hkc => by
    obtain ⟨j, hj, rfl⟩ := List.getElem_of_mem hc
    have := key_uniq hs hj hk hkc h
    subst this; rfl)).2.1 ⟨_, List.getElem_mem hk, h⟩
  unfold rdV pgC
  rw [this]; rfl
theorem rdV_miss {cs : List Cl} (hs : cs.Pairwise Bef) (hW : ∀ c ∈ cs, Wrd c.2.2.1) {p g : Int} {w : Nat} (hw : w < 8) (h : ¬ ∃ hh : posK cs p g w < cs.length, kc cs[posK cs p g w] p g w = 0) : rdV cs p g w = 0 := by
  have hno : ¬ ∃ c ∈ cs, kc c p g w = 0 := by
    rintro ⟨c, hc, hk⟩
    obtain ⟨j, hj, rfl⟩ := List.getElem_of_mem hc
    obtain ⟨a1, a2, a3⟩ := posK_at hs p g w
    rcases Nat.lt_trichotomy j (posK cs p g w) with hlt | heq | hgt
    · have := a2 j hj hlt; omega
    · exact h ⟨by omega, by subst heq; exact hk⟩
    · have hpl : posK cs p g w < cs.length := by omega
      have h3 := a3 _ hpl (Nat.le_refl _)
      have hb := List.pairwise_iff_getElem.1 hs _ j hpl hj hgt
      obtain ⟨b1, b2, b3⟩ := kc_zero.1 hk
      have hneg : kc cs[posK cs p g w] p g w < 0 := kc_neg.2 (by unfold Bef at *; dsimp only; omega)
      omega
  have := (fold_get p g w hw 0 cs [0, 0, 0, 0, 0, 0, 0, 0] rfl hW (fun c hc hkc => absurd ⟨c, hc, hkc⟩ hno)).2.2 hno
  unfold rdV pgC
  rw [this]
  have : w = 0 ∨ w = 1 ∨ w = 2 ∨ w = 3 ∨ w = 4 ∨ w = 5 ∨ w = 6 ∨ w = 7 := by omega
  rcases this with rfl | rfl | rfl | rfl | rfl | rfl | rfl | rfl <;> rfl
end Go.Proofs.YtpocnjliigjidaaGreat
namespace Go.Proofs.YtpocnjliigjidaaGreat
open Go.RowKit
set_option maxRecDepth 100000
set_option linter.unusedSimpArgs false
set_option linter.unusedVariables false
def RdS : Spec := { rel := fun args ins res outs => ∃ (al : List Bool) (mp : List Nat) (cs : List Cl) (p g w : Int), U64 mp ∧ al.length ≤ 1000000 ∧ mp.length ≤ 1000000 ∧ cs.length ≤ 1000000 ∧ args = [fm al mp cs, iv p, iv g, iv w] ∧ ins = [] ∧ res = .tup [wv ((if mapE al mp cs p g w = 0 then rdV cs p g w.toNat else 0 : Nat) : Int), iv (mapE al mp cs p g w)] ∧ outs = [] }
abbrev rRdS : Spec := RdS
theorem Rd_at (al : List Bool) (mp : List Nat) (cs : List Cl) (p g w : Int) (h : U64 mp) (h1 : al.length ≤ 1000000) (h2 : mp.length ≤ 1000000) (h3 : cs.length ≤ 1000000) : RdS.rel [fm al mp cs, iv p, iv g, iv w] [] (.tup [wv ((if mapE al mp cs p g w = 0 then rdV cs p g w.toNat else 0 : Nat) : Int), iv (mapE al mp cs p g w)]) [] := ⟨al, mp, cs, p, g, w, h, h1, h2, h3, rfl, rfl, rfl, rfl⟩
theorem rRd_at (al : List Bool) (mp : List Nat) (cs : List Cl) (p g w : Int) (h : U64 mp) (h1 : al.length ≤ 1000000) (h2 : mp.length ≤ 1000000) (h3 : cs.length ≤ 1000000) : rRdS.rel [fm al mp cs, iv p, iv g, iv w] [] (.tup [wv ((if mapE al mp cs p g w = 0 then rdV cs p g w.toNat else 0 : Nat) : Int), iv (mapE al mp cs p g w)]) [] := Rd_at al mp cs p g w h h1 h2 h3
set_option maxHeartbeats 2000000 in
theorem Rd_ok : Ok Tryz.prog 116 RdS := by
  refine fn_ok RdS Tryz.func116 rfl rfl ?_
  rintro args ins res outs ⟨al, mp, cs, p, g, w, hu, la, lm, lc, rfl, rfl, rfl, rfl⟩
  refine ⟨by simp [Tryz.ntmps116], fun w0 V Bo mu0 => ?_⟩
  have M0 := mapd_at al mp cs p g w hu la lm lc
  have hz := @mapE_zero al mp cs p g w
  generalize mapE al mp cs p g w = E at *
  have mapd_at : mapdS.rel [fm al mp cs, iv p, iv g, iv w] [] (iv E) [] := M0
  by_cases h0 : E = 0
  case neg =>
    rw [if_neg h0]
    repeat' (first | refine sA ?_ | with_reducible refine W_tf rfl (fun h => ?_) (fun h => ?_) | ((with_reducible first | refine hK _ ?_ | refine hK _ _ ?_); clear hK K) | ((first | refine sB ?_ | (with_reducible first | refine ops_cons (fun K hK => ?_) | refine W_reg lv116FlI ?_) | with_reducible refine callV_snap ?_ | ((with_reducible refine call_go mapdS mapd_ok ?_); refine ⟨alk, _, _, mapd_at , ?_⟩) | with_reducible refine And.intro (fun h => ?_) (fun h => ?_) | with_reducible refine And.intro (by omega) ?_); (try simp only [go_sem, seval, reduceCtorEq, h0, lv116FlI, Tryz.ntmps116, Tryz.results116, RdS])) | fail)
  subst h0
  rw [if_pos rfl]
  obtain ⟨z1, z2, ⟨w0', w1'⟩, z4⟩ := hz rfl
  have hgo := flchk_go (lvs_zero z1).1
  have hs := ckGo_pw hgo
  have hW : ∀ c ∈ cs, Wrd c.2.2.1 := fun c hc => (ck1_zero (ckGo_mem cs none hgo c hc)).2.2.1
  obtain ⟨n, rfl⟩ := Int.eq_ofNat_of_zero_le w0'
  have hn : n < 8 := by omega
  rw [Int.toNat_natCast]
  by_cases hh : ∃ hh : posK cs p g (n : Int) < cs.length, kc cs[posK cs p g (n : Int)] p g (n : Int) = 0
  · have B0 := bs_at cs p g (n : Int) (posK cs p g (n : Int)) true lc (posK_at hs p g n) ⟨fun _ => hh, fun _ => rfl⟩
    obtain ⟨hk, hkc⟩ := hh
    rw [rdV_hit hs hW hn hk hkc]
    generalize posK cs p g (n : Int) = k at *
    have bs_at : bsS.rel [.d (.sl (cs.map encCl)), keyA p g (n : Int), .fn 148 []] [] (.tup [iv k, bv true]) [] := B0
    obtain ⟨⟨cp, cg, cw, cv⟩, hc0⟩ : ∃ c, cs[k] = c := ⟨_, rfl⟩
    have e0 : encCl cs[k] = [.int .i64 cp, .int .i64 cg, .int .i64 cw, .int .u64 (cv : Int)] := by rw [hc0]; rfl
    rw [hc0]
    repeat' (first | refine sA ?_ | with_reducible refine W_tf rfl (fun h => ?_) (fun h => ?_) | ((with_reducible first | refine hK _ ?_ | refine hK _ _ ?_); clear hK K) | ((first | refine sB ?_ | (with_reducible first | refine ops_cons (fun K hK => ?_) | refine W_reg lv116FlI ?_) | with_reducible refine callV_snap ?_ | ((with_reducible refine call_go mapdS mapd_ok ?_); refine ⟨alk, _, _, mapd_at , ?_⟩) | ((with_reducible refine call_go bsS bs_ok ?_); refine ⟨alk, _, _, bs_at , ?_⟩) | with_reducible refine And.intro (fun h => ?_) (fun h => ?_) | with_reducible refine And.intro (by omega) ?_); (try simp only [go_sem, seval, reduceCtorEq, e0, lv116FlI, Tryz.ntmps116, Tryz.results116, RdS])) | fail)
  · have B0 := bs_at cs p g (n : Int) (posK cs p g (n : Int)) false lc (posK_at hs p g n) ⟨fun h => Bool.noConfusion h, fun h => absurd h hh⟩
    rw [rdV_miss hs hW hn hh]
    generalize posK cs p g (n : Int) = k at *
    have bs_at : bsS.rel [.d (.sl (cs.map encCl)), keyA p g (n : Int), .fn 148 []] [] (.tup [iv k, bv false]) [] := B0
    repeat' (first | refine sA ?_ | with_reducible refine W_tf rfl (fun h => ?_) (fun h => ?_) | ((with_reducible first | refine hK _ ?_ | refine hK _ _ ?_); clear hK K) | ((first | refine sB ?_ | (with_reducible first | refine ops_cons (fun K hK => ?_) | refine W_reg lv116FlI ?_) | with_reducible refine callV_snap ?_ | ((with_reducible refine call_go mapdS mapd_ok ?_); refine ⟨alk, _, _, mapd_at , ?_⟩) | ((with_reducible refine call_go bsS bs_ok ?_); refine ⟨alk, _, _, bs_at , ?_⟩) | with_reducible refine And.intro (fun h => ?_) (fun h => ?_) | with_reducible refine And.intro (by omega) ?_); (try simp only [go_sem, seval, reduceCtorEq, lv116FlI, Tryz.ntmps116, Tryz.results116, RdS])) | fail)
theorem ctA_get {C : List Nat} {w : Nat} {K : AV → Prop} (h : w < C.length) (hk : K (wv (C[w] : Int))) : ∃ x, (List.drop w (ctA C))[0]? = some x ∧ K x := by
  refine ⟨wv (C[w] : Int), ?_, hk⟩
  unfold ctA
  simp [h]
theorem Pg_at (al : List Bool) (mp : List Nat) (cs : List Cl) (p g : Int) (h : U64 mp) (h1 : al.length ≤ 1000000) (h2 : mp.length ≤ 1000000) (h3 : cs.length ≤ 1000000) : PgS.rel [fm al mp cs, iv p, iv g] [] (.tup [.agg (ctA (if mapE al mp cs p g 0 = 0 then pgC cs p g else [0, 0, 0, 0, 0, 0, 0, 0])), iv (mapE al mp cs p g 0)]) [] := ⟨al, mp, cs, p, g, h, h1, h2, h3, rfl, rfl, rfl, rfl⟩
theorem pgC_len {cs : List Cl} (hW : ∀ c ∈ cs, Wrd c.2.2.1) (p g : Int) : (pgC cs p g).length = 8 := by
  have : ∀ (l : List Cl) (C : List Nat), C.length = 8 → (l.foldl (pgF p g) C).length = 8 := by
    intro l
    induction l with
    | nil => intro C h; exact h
    | cons a r ih => intro C h; rw [List.foldl_cons]; exact ih _ (by unfold pgF; split <;> simp [h])
  exact this cs _ rfl
theorem mapE_word {al : List Bool} {mp : List Nat} {cs : List Cl} {p g w : Int} (hw : Wrd w) : mapE al mp cs p g w = mapE al mp cs p g 0 := by
  have h0 : Wrd 0 := by unfold Wrd; decide
  unfold mapE
  have e : (Pgs g ∧ Wrd w) = (Pgs g ∧ Wrd 0) := by simp [hw, h0]
  simp only [e]
set_option maxHeartbeats 2000000 in
theorem rRd_ok : Ok Tryz.prog 127 RdS := by
  refine fn_ok RdS Tryz.func127 rfl rfl ?_
  rintro args ins res outs ⟨al, mp, cs, p, g, w, hu, la, lm, lc, rfl, rfl, rfl, rfl⟩
  refine ⟨by simp [Tryz.ntmps127], fun w0 V Bo mu0 => ?_⟩
  have L0 := livg_at al mp cs p hu la lm lc
  obtain ⟨E, hE⟩ : ∃ E, lvsE al mp cs [p] = E := ⟨_, rfl⟩
  rw [hE] at L0
  have livg_at : livgS.rel [fm al mp cs, iv p] [] (iv E) [] := L0
  by_cases h0 : E = 0
  case neg =>
    have hM : mapE al mp cs p g w = E := by unfold mapE; rw [hE, if_pos h0]
    rw [hM, if_neg h0]
    repeat' (first | refine sA ?_ | with_reducible refine W_tf rfl (fun h => ?_) (fun h => ?_) | ((with_reducible first | refine hK _ ?_ | refine hK _ _ ?_); clear hK K) | ((first | refine sB ?_ | (with_reducible first | refine ops_cons (fun K hK => ?_) | refine W_reg lv127FlI ?_) | with_reducible refine callV_snap ?_ | ((with_reducible refine call_go livgS livg_ok ?_); refine ⟨alk, _, _, livg_at , ?_⟩) | with_reducible refine And.intro (fun h => ?_) (fun h => ?_) | with_reducible refine And.intro (by omega) ?_); (try simp only [go_sem, seval, reduceCtorEq, h0, lv127FlI, Tryz.ntmps127, Tryz.results127, RdS])) | fail)
  subst h0
  by_cases hG : Pgs g
  case neg =>
    have d1 := decide_eq_false hG
    have hM : mapE al mp cs p g w = 2 := by unfold mapE; rw [hE, if_neg (by decide), if_pos (fun h => hG h.1)]
    rw [hM, if_neg (by decide)]
    repeat' (first | refine sA ?_ | with_reducible refine W_tf rfl (fun h => ?_) (fun h => ?_) | ((with_reducible first | refine hK _ ?_ | refine hK _ _ ?_); clear hK K) | ((first | refine sB ?_ | (with_reducible first | refine ops_cons (fun K hK => ?_) | refine W_reg lv127FlI ?_) | with_reducible refine callV_snap ?_ | ((with_reducible refine call_go livgS livg_ok ?_); refine ⟨alk, _, _, livg_at , ?_⟩) | ((with_reducible refine call_go rpgsS rpgs_ok ?_); refine ⟨alk, _, _, rpgs_at g, ?_⟩) | with_reducible refine And.intro (fun h => ?_) (fun h => ?_) | with_reducible refine And.intro (by omega) ?_); (try simp only [go_sem, seval, reduceCtorEq, d1, lv127FlI, Tryz.ntmps127, Tryz.results127, RdS])) | fail)
  have d1 := decide_eq_true hG
  by_cases hW : Wrd w
  case neg =>
    have d2 := decide_eq_false hW
    have hM : mapE al mp cs p g w = 2 := by unfold mapE; rw [hE, if_neg (by decide), if_pos (fun h => hW h.2)]
    rw [hM, if_neg (by decide)]
    repeat' (first | refine sA ?_ | with_reducible refine W_tf rfl (fun h => ?_) (fun h => ?_) | ((with_reducible first | refine hK _ ?_ | refine hK _ _ ?_); clear hK K) | ((first | refine sB ?_ | (with_reducible first | refine ops_cons (fun K hK => ?_) | refine W_reg lv127FlI ?_) | with_reducible refine callV_snap ?_ | ((with_reducible refine call_go livgS livg_ok ?_); refine ⟨alk, _, _, livg_at , ?_⟩) | ((with_reducible refine call_go rpgsS rpgs_ok ?_); refine ⟨alk, _, _, rpgs_at g, ?_⟩) | ((with_reducible refine call_go rwrdS rwrd_ok ?_); refine ⟨alk, _, _, rwrd_at w, ?_⟩) | with_reducible refine And.intro (fun h => ?_) (fun h => ?_) | with_reducible refine And.intro (by omega) ?_); (try simp only [go_sem, seval, reduceCtorEq, d1, d2, lv127FlI, Tryz.ntmps127, Tryz.results127, RdS])) | fail)
  have d2 := decide_eq_true hW
  have P0 := Pg_at al mp cs p g hu la lm lc
  rw [mapE_word hW]
  obtain ⟨w0', w1'⟩ := hW
  obtain ⟨n, rfl⟩ := Int.eq_ofNat_of_zero_le w0'
  have hn : n < 8 := by omega
  rw [Int.toNat_natCast]
  have hWs : ∀ c ∈ cs, Wrd c.2.2.1 := fun c hc => (ck1_zero (ckGo_mem cs none (flchk_go (lvs_zero hE).1) c hc)).2.2.1
  have hlen := pgC_len hWs p g
  have hval : rdV cs p g n = (pgC cs p g)[n]'(by omega) := by unfold rdV; simp [hlen, hn]
  generalize mapE al mp cs p g 0 = M at *
  obtain ⟨C, hC, hC8, hCn⟩ : ∃ C, (if M = 0 then pgC cs p g else [0, 0, 0, 0, 0, 0, 0, 0]) = C ∧ C.length = 8 ∧ ∀ h : n < C.length, C[n] = if M = 0 then rdV cs p g n else 0 := by
    by_cases hm : M = 0
    · exact ⟨_, by rw [if_pos hm], hlen, fun h => by rw [if_pos hm, hval]⟩
    · refine ⟨_, by rw [if_neg hm], rfl, fun h => ?_⟩
      rw [if_neg hm]
      have : n = 0 ∨ n = 1 ∨ n = 2 ∨ n = 3 ∨ n = 4 ∨ n = 5 ∨ n = 6 ∨ n = 7 := by omega
      rcases this with rfl | rfl | rfl | rfl | rfl | rfl | rfl | rfl <;> rfl
  rw [hC] at P0
  have hnC : n < C.length := by omega
  rw [← hCn hnC]
  have rPg_at : rPgS.rel [fm al mp cs, iv p, iv g] [] (.tup [.agg (ctA C), iv M]) [] := P0
  have hCl : (ctA C).length = 8 := by rw [ctA_len, hC8]
  repeat' (first | refine sA ?_ | with_reducible refine W_tf rfl (fun h => ?_) (fun h => ?_) | ((with_reducible first | refine hK _ ?_ | refine hK _ _ ?_); clear hK K) | ((with_reducible refine ctA_get hnC ?_); (try simp only [go_sem, seval, reduceCtorEq])) | ((first | refine sB ?_ | (with_reducible first | refine ops_cons (fun K hK => ?_) | refine W_reg lv127FlI ?_) | with_reducible refine callV_snap ?_ | ((with_reducible refine call_go livgS livg_ok ?_); refine ⟨alk, _, _, livg_at , ?_⟩) | ((with_reducible refine call_go rpgsS rpgs_ok ?_); refine ⟨alk, _, _, rpgs_at g, ?_⟩) | ((with_reducible refine call_go rwrdS rwrd_ok ?_); refine ⟨alk, _, _, rwrd_at _, ?_⟩) | ((with_reducible refine call_go rPgS rPg_ok ?_); refine ⟨alk, _, _, rPg_at , ?_⟩) | with_reducible refine And.intro (fun h => ?_) (fun h => ?_) | with_reducible refine And.intro (by omega) ?_); (try simp only [go_sem, seval, reduceCtorEq, d1, d2, Int.toNat_natCast, Nat.mul_one, hCl, ctA_ren, lv127FlI, Tryz.ntmps127, Tryz.results127, RdS])) | fail)
end Go.Proofs.YtpocnjliigjidaaGreat
