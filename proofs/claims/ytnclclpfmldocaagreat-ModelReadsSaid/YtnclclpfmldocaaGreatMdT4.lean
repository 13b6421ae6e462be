import Derived.Test.YtnclclpfmldocaaGreatMdQ
import Derived.Test.YtnclclpfmldocaaGreatMdM

/- A trace without forks: a read has the value of the last write behind the last mapping. -/
namespace Go.Proofs.YtnclclpfmldocaaGreat
open Go.RowKit
set_option maxRecDepth 100000
set_option linter.unusedSimpArgs false
set_option linter.unusedVariables false

abbrev lv4MdT4 : List (Nat × List Nat) := [(0, [0]), (1, [3, 5]), (2, [3, 19]), (3, [2]), (4, [3, 6]), (5, [3, 6, 23]), (6, [3, 6]), (7, [3, 6, 7]), (8, [3, 6, 7, 32]), (9, [3, 6, 7, 8, 9]), (10, [3, 6, 7, 8, 9, 10]), (11, [3, 6, 7, 8, 9, 10, 40]), (12, [3, 6, 7, 8, 9, 10]), (13, [3, 6, 7, 8, 9, 10, 11]), (14, [3, 6, 7, 8, 9, 10, 11, 51]), (15, [3, 6, 7, 8, 9, 10, 11, 68]), (16, [3, 6, 7, 8, 9, 10, 11]), (17, [3, 6, 7, 8, 9, 10]), (18, [3, 6, 98]), (19, [2]), (20, [2])]
/-- looking back from the newest outcome -/
def lk (p g w : Int) : List Oc → Option Nat
  | [] => none
  | x :: r => if x.p = p ∧ x.k = 4 ∧ x.g = g ∧ x.w = w then some x.v else if x.p = p ∧ x.k = 1 ∧ x.g ≤ g ∧ g ≤ x.o then some 0 else lk p g w r
theorem lk_skip {p g w : Int} {x : Oc} {r : List Oc} (h1 : ¬ (x.p = p ∧ x.k = 4 ∧ x.g = g ∧ x.w = w)) (h2 : ¬ (x.p = p ∧ x.k = 1 ∧ x.g ≤ g ∧ g ≤ x.o)) : lk p g w (x :: r) = lk p g w r := by
  rw [lk, if_neg h1, if_neg h2]
def LkI (s : Sy) (r : List Oc) : Prop := ∀ k g w : Nat, k < 8 → g < 64 → w < 8 → mapE s.m.1 s.m.2.1 s.m.2.2 ((k : Int) + 1) g w = 0 → lk ((k : Int) + 1) g w r = some (rdV s.m.2.2 ((k : Int) + 1) g w)
theorem mapE_z {s : FSt} (h : Vl s) {k g w : Nat} (hk : k < 8) (hg : g < 64) (hw : w < 8) : mapE s.1 s.2.1 s.2.2 ((k : Int) + 1) g w = 0 ↔ s.1[k]?.getD false = true ∧ (s.2.1[k]?.getD 0).testBit g = true := by
  rw [mapE_eq h hk (g := (g : Int)) (w := (w : Int)) ⟨by omega, by omega⟩ ⟨by omega, by omega⟩]
  by_cases ha : s.1[k]?.getD false = true
  · rw [if_pos ha, Int.toNat_natCast]
    by_cases hb : (s.2.1[k]?.getD 0).testBit g = true
    · rw [if_pos hb]; exact ⟨fun _ => ⟨ha, hb⟩, fun _ => rfl⟩
    · rw [if_neg hb]; exact ⟨fun h => absurd h (by decide), fun h => absurd h.2 hb⟩
  · rw [if_neg ha]; exact ⟨fun h => absurd h (by decide), fun h => absurd h.1 ha⟩
theorem lk_step {s s' : Sy} {x : Oc} {r : List Oc} (hs : Vs s) (h : ocE x = 0) (h5 : x.k ≠ 5) (hn : nx s x = some s') (hI : LkI s r) : LkI s' (x :: r) := by
  obtain ⟨k1, k2, p1, p2, hf, hu⟩ := oc_kind h
  obtain ⟨hq, hp⟩ := ix_lt p1 p2
  have hL := opO_loc h h5
  have hs' := (nx_vs hs h hn).v
  intro k g w hk hg hw hm
  unfold nx at hn
  by_cases h9 : x.k = 9
  · rw [if_pos h9] at hn
    by_cases hc : s.W[ix x.p]?.getD 0 = 0 ∧ s.L < x.t
    case neg => rw [if_neg hc] at hn; cases hn
    rw [if_pos hc] at hn
    injection hn with hn
    subst hn
    rw [lk_skip (by omega) (by omega)]
    exact hI k g w hk hg hw hm
  rw [if_neg h9] at hn
  by_cases hc : s.W[ix x.p]?.getD 0 = x.t ∧ (opO x s.m).2 = 0
  case neg => rw [if_neg hc] at hn; cases hn
  rw [if_pos hc] at hn
  injection hn with hn
  subst hn
  have h0 := hc.2
  dsimp only at hm hs' ⊢
  have keep : vw (opO x s.m).1 k = vw s.m k → ¬ (x.p = (k : Int) + 1 ∧ x.k = 4 ∧ x.g = g ∧ x.w = w) → ¬ (x.p = (k : Int) + 1 ∧ x.k = 1 ∧ x.g ≤ g ∧ (g : Int) ≤ x.o) → lk ((k : Int) + 1) g w (x :: r) = some (rdV (opO x s.m).1.2.2 ((k : Int) + 1) g w) := by
    intro hv n1 n2
    obtain ⟨v1, v2, v3⟩ := vw_iff.1 hv
    rw [lk_skip n1 n2, hI k g w hk hg hw ((mapE_z hs.v hk hg hw).2 (by rw [← v1, ← v2]; exact (mapE_z hs' hk hg hw).1 hm))]
    rw [rdV_ext hs' hs.v hw fun u _ => zc_mem v3 _]
  by_cases hkq : k = ix x.p
  case neg => exact keep (hL.oth hs.v h0 k hk hkq) (by omega) (by omega)
  subst hkq
  rw [mapE_z hs' hk hg hw] at hm
  by_cases c1 : x.k = 1
  · have e : opO x s.m = oMp (ix x.p) x.g x.o s.m := by unfold opO; rw [if_pos c1]
    rw [e] at h0 hm hs' ⊢
    rw [oMp_eq hs.v hq] at h0 hm hs' ⊢
    by_cases ha : s.m.1[ix x.p]?.getD false = true
    case neg => rw [if_neg ha] at h0; exact absurd h0 (by decide)
    rw [if_pos ha] at h0 hm hs' ⊢
    by_cases hb : x.g < 0 ∨ x.o < x.g ∨ 64 ≤ x.o
    case pos => rw [if_pos hb] at h0; exact absurd h0 (by decide)
    rw [if_neg hb] at h0 hm hs' ⊢
    by_cases hh : hasB (s.m.2.1[ix x.p]?.getD 0) x.g.toNat x.o.toNat = true
    case pos => rw [if_pos hh] at h0; exact absurd h0 (by decide)
    rw [if_neg hh] at hm hs' ⊢
    dsimp only at hm hs' ⊢
    rw [get_set (by rw [hs.v.lm]; exact hq), if_pos rfl, Nat.testBit_or, pgM_bit (by omega)] at hm
    by_cases hin : x.g ≤ g ∧ (g : Int) ≤ x.o
    · rw [lk, if_neg (by omega), if_pos ⟨hp.symm, c1, hin.1, hin.2⟩]
      rw [rdV_none hs.v hw]
      intro u hu hmem
      obtain ⟨_, _, _, _, hd⟩ := ck1_iff.1 (hs.v.ck _ hmem)
      rw [mpd_eq, Int.toNat_natCast] at hd
      exact hh (hasB_iff.2 ⟨g, by omega, by omega, hd⟩)
    · rw [lk_skip (by omega) (by omega), hI _ g w hk hg hw ((mapE_z hs.v hk hg hw).2 ⟨ha, ?_⟩)]
      rw [decide_eq_false (by omega), Bool.or_false] at hm
      exact hm.2
  by_cases c2 : x.k = 2
  · have e : opO x s.m = oUn (ix x.p) x.g x.o s.m := by unfold opO; rw [if_neg c1, if_pos c2]
    rw [e] at h0 hm hs' ⊢
    rw [oUn_eq hs.v hq] at h0 hm hs' ⊢
    by_cases ha : s.m.1[ix x.p]?.getD false = true
    case neg => rw [if_neg ha] at h0; exact absurd h0 (by decide)
    rw [if_pos ha] at h0 hm hs' ⊢
    by_cases hb : x.g < 0 ∨ x.o < x.g ∨ 64 ≤ x.o
    case pos => rw [if_pos hb] at h0; exact absurd h0 (by decide)
    rw [if_neg hb] at h0 hm hs' ⊢
    by_cases hh : allB (s.m.2.1[ix x.p]?.getD 0) x.g.toNat x.o.toNat = false
    case pos => rw [if_pos hh] at h0; exact absurd h0 (by decide)
    rw [if_neg hh] at hm hs' ⊢
    dsimp only at hm hs' ⊢
    rw [get_set (by rw [hs.v.lm]; exact hq), if_pos rfl, clr_bit _ _ _ (pgM_lt (by omega) (by omega)) (u64_get hs.v.u _), pgM_bit (by omega), Bool.and_eq_true] at hm
    have hb2 := hm.2.2
    simp only [Bool.not_eq_true', decide_eq_false_iff_not] at hb2
    rw [lk_skip (by omega) (by omega), hI _ g w hk hg hw ((mapE_z hs.v hk hg hw).2 ⟨ha, hm.2.1⟩)]
    rw [rdV_ext (s := s.m) hs.v hs' hw fun u _ => ?_]
    dsimp only
    rw [mem_woC]
    exact ⟨fun h => ⟨h, fun hh => hb2 (by dsimp only at hh; omega)⟩, fun h => h.1⟩
  by_cases c4 : x.k = 4
  · have e : opO x s.m = oWr (ix x.p) x.g x.w x.v s.m := by unfold opO; rw [if_neg c1, if_neg c2, if_neg (by omega), if_pos c4]
    unfold fitO at hf
    rw [if_neg (by omega), if_pos (by omega)] at hf
    have hd := of_decide_eq_true hf
    obtain ⟨a, hA⟩ := Int.eq_ofNat_of_zero_le hd.1
    obtain ⟨b, hB⟩ := Int.eq_ofNat_of_zero_le hd.2.2.1
    rw [e, hA, hB] at h0
    obtain ⟨⟨w1, w2⟩, w3, w4, w5⟩ := wr_law hs.v hq (by omega) (by omega) h0
    obtain ⟨r1, r2⟩ := w5 (ix x.p) g w hk hg hw
    rw [e, hA, hB] at hm ⊢
    by_cases hgw : g = a ∧ w = b
    · rw [r1 ⟨rfl, hgw.1, hgw.2⟩, lk, if_pos ⟨hp.symm, c4, by omega, by omega⟩]
    · rw [r2 (by omega), lk_skip (by omega) (by omega)]
      rw [w1, w2] at hm
      exact hI _ g w hk hg hw ((mapE_z hs.v hk hg hw).2 hm)
  by_cases c6 : x.k = 6
  · have e : opO x s.m = oSp (ix x.p) s.m := by unfold opO; rw [if_neg c1, if_neg c2, if_neg (by omega), if_neg c4, if_neg h5, if_pos c6]
    exfalso
    rw [e, oSp_eq hs.v hq] at h0 hm
    by_cases ha : s.m.1[ix x.p]?.getD false = true
    case pos => rw [if_pos ha] at h0; exact absurd h0 (by decide)
    rw [if_neg ha] at hm
    dsimp only at hm
    rw [hs.v.dd _ hq (by simpa using ha)] at hm
    simp at hm
  by_cases c7 : x.k = 7 ∨ x.k = 10
  · have e : opO x s.m = oEx (ix x.p) s.m := by unfold opO; rw [if_neg c1, if_neg c2, if_neg (by omega), if_neg c4, if_neg h5, if_neg c6, if_neg (by omega), if_neg (by omega)]
    exfalso
    rw [e, oEx_eq hs.v hq] at h0 hm
    by_cases ha : s.m.1[ix x.p]?.getD false = true
    case neg => rw [if_neg ha] at h0; exact absurd h0 (by decide)
    rw [if_pos ha] at hm
    dsimp only at hm
    rw [get_set (by rw [hs.v.la]; exact hq), if_pos rfl] at hm
    exact absurd hm.1 (by decide)
  have e : (opO x s.m).1 = s.m := by
    unfold opO
    rw [if_neg c1, if_neg c2]
    by_cases c3 : x.k = 3
    · rw [if_pos c3]
    · rw [if_neg c3, if_neg c4, if_neg h5, if_neg c6]
      by_cases c8 : x.k = 8
      · rw [if_pos c8]
      · rw [if_neg c8, if_pos (by omega)]
  exact keep (by rw [e]) (by omega) (by omega)
theorem lk_run : ∀ (a : List Oc) {s t : Sy} {r : List Oc}, Vs s → (∀ x ∈ a, ocE x = 0) → (∀ x ∈ a, x.k ≠ 5) → run s a = some t → LkI s r → LkI t (a.reverse ++ r)
  | [], s, t, r, _, _, _, h, hI => by injection h with h; subst h; exact hI
  | x :: a, s, t, r, hs, ho, h5, h, hI => by
    rw [run] at h
    cases hn : nx s x with
    | none => rw [hn] at h; cases h
    | some u =>
      rw [hn] at h
      have h1 := lk_step hs (ho x (by simp)) (h5 x (by simp)) hn hI
      have := lk_run a (nx_vs hs (ho x (by simp)) hn) (fun y hy => ho y (by simp [hy])) (fun y hy => h5 y (by simp [hy])) h h1
      simpa using this
theorem lk_nil : LkI sy0 [] := by
  intro k g w hk hg hw h
  exfalso
  rw [mapE_z sy0_vs.v hk hg hw] at h
  have : sy0.m.1[k]?.getD false = false := by
    show al0[k]?.getD false = false
    rcases (show k = 0 ∨ k = 1 ∨ k = 2 ∨ k = 3 ∨ k = 4 ∨ k = 5 ∨ k = 6 ∨ k = 7 by omega) with rfl | rfl | rfl | rfl | rfl | rfl | rfl | rfl <;> rfl
  rw [this] at h
  exact absurd h.1 (by decide)
/-- the law of reads -/
theorem reads {b : Nat} {a : List Oc × Sy} (h : Mk b false a) {i : Nat} (hi : i < a.1.length) (h3 : a.1[i].k = 3) : lk a.1[i].p a.1[i].g a.1[i].w (a.1.take i).reverse = some a.1[i].v := by
  have hm : a.1[i] ∈ a.1 := List.getElem_mem hi
  have h0 := h.o _ hm
  obtain ⟨u, hu, hd⟩ := run_take h.r i
  have ht : ∀ x ∈ a.1.take i, x ∈ a.1 := fun x hx => List.mem_of_mem_take hx
  have hI := lk_run (a.1.take i) sy0_vs (fun x hx => h.o x (ht x hx)) (fun x hx => h.n rfl x (ht x hx)) hu lk_nil
  have hv := run_vs sy0_vs (fun x hx => h.o x (ht x hx)) hu
  rw [List.append_nil] at hI
  rw [List.drop_eq_getElem_cons hi, run] at hd
  generalize a.1[i] = x at *
  obtain ⟨k1, k2, p1, p2, hf, hu'⟩ := oc_kind h0
  obtain ⟨hq, hp⟩ := ix_lt p1 p2
  cases hn : nx u x with
  | none => rw [hn] at hd; cases hd
  | some v =>
    unfold nx at hn
    rw [if_neg (by omega)] at hn
    by_cases hc : u.W[ix x.p]?.getD 0 = x.t ∧ (opO x u.m).2 = 0
    case neg => rw [if_neg hc] at hn; cases hn
    have e : opO x u.m = (u.m, if mapE u.m.1 u.m.2.1 u.m.2.2 ((ix x.p : Int) + 1) x.g x.w = 0 ∧ rdV u.m.2.2 ((ix x.p : Int) + 1) x.g x.w.toNat = x.v then 0 else 2) := by unfold opO; rw [if_neg (by omega), if_neg (by omega), if_pos h3]
    have h2 := hc.2
    rw [e] at h2
    dsimp only at h2
    by_cases hcc : mapE u.m.1 u.m.2.1 u.m.2.2 ((ix x.p : Int) + 1) x.g x.w = 0 ∧ rdV u.m.2.2 ((ix x.p : Int) + 1) x.g x.w.toNat = x.v
    case neg => rw [if_neg hcc] at h2; exact absurd h2 (by decide)
    unfold fitO at hf
    rw [if_neg (by omega), if_pos (by omega)] at hf
    have hd' := of_decide_eq_true hf
    obtain ⟨A, hA⟩ := Int.eq_ofNat_of_zero_le hd'.1
    obtain ⟨B, hB⟩ := Int.eq_ofNat_of_zero_le hd'.2.2.1
    have := hI (ix x.p) A B hq (by omega) (by omega) (by rw [← hA, ← hB]; exact hcc.1)
    rw [hA, hB, ← hp, this]
    have h4 := hcc.2
    rw [hA, hB, Int.toNat_natCast] at h4
    rw [h4]
end Go.Proofs.YtnclclpfmldocaaGreat

/- ModelReads, by the engine. -/
namespace Go.Proofs.YtnclclpfmldocaaGreat
open Go.RowKit
set_option maxRecDepth 100000
set_option linter.unusedSimpArgs false
set_option linter.unusedVariables false

def hitW (p g w : Int) (x : Oc) : Prop := x.p = p ∧ x.k = 4 ∧ x.g = g ∧ x.w = w
def hitM (p g : Int) (x : Oc) : Prop := x.p = p ∧ x.k = 1 ∧ x.g ≤ g ∧ g ≤ x.o
theorem lk_hit : ∀ {r : List Oc} {p g w : Int} {v : Nat}, lk p g w r = some v → ∃ h, ∃ hl : h < r.length, ((hitW p g w r[h] ∧ v = r[h].v) ∨ (¬ hitW p g w r[h] ∧ hitM p g r[h] ∧ v = 0)) ∧ ∀ j (hj : j < r.length), j < h → ¬ hitW p g w r[j] ∧ ¬ hitM p g r[j]
  | [], p, g, w, v, h => by cases h
  | x :: r, p, g, w, v, h => by
    rw [lk] at h
    by_cases h1 : hitW p g w x
    · rw [if_pos (show x.p = p ∧ x.k = 4 ∧ x.g = g ∧ x.w = w from h1)] at h
      injection h with h
      exact ⟨0, by simp, .inl ⟨h1, h.symm⟩, fun j _ hj => by omega⟩
    · have h1' : ¬ (x.p = p ∧ x.k = 4 ∧ x.g = g ∧ x.w = w) := h1
      rw [if_neg h1'] at h
      by_cases h2 : hitM p g x
      · rw [if_pos (show x.p = p ∧ x.k = 1 ∧ x.g ≤ g ∧ g ≤ x.o from h2)] at h
        injection h with h
        exact ⟨0, by simp, .inr ⟨h1, h2, h.symm⟩, fun j _ hj => by omega⟩
      · have h2' : ¬ (x.p = p ∧ x.k = 1 ∧ x.g ≤ g ∧ g ≤ x.o) := h2
        rw [if_neg h2'] at h
        obtain ⟨q, hq, hh, hn⟩ := lk_hit h
        refine ⟨q + 1, by simpa using hq, by simpa using hh, fun j hj hjq => ?_⟩
        cases j with
        | zero => exact ⟨h1, h2⟩
        | succ j => exact hn j (by simpa using hj) (by omega)
/-- looking back in a list -/
theorem back_hit {L : List Oc} {i : Nat} {p g w : Int} {v : Nat} (hi : i ≤ L.length) (h : lk p g w (L.take i).reverse = some v) : ∃ q, ∃ hq : q < i, ((hitW p g w L[i - 1 - q] ∧ v = L[i - 1 - q].v) ∨ (¬ hitW p g w L[i - 1 - q] ∧ hitM p g L[i - 1 - q] ∧ v = 0)) ∧ ∀ j (hj : j < q), ¬ hitW p g w L[i - 1 - j] ∧ ¬ hitM p g L[i - 1 - j] := by
  obtain ⟨q, hq, hh, hn⟩ := lk_hit h
  have hlen : (L.take i).reverse.length = i := by rw [List.length_reverse, List.length_take]; omega
  have e : ∀ j (hj : j < (L.take i).reverse.length), (L.take i).reverse[j] = L[i - 1 - j]'(by omega) := fun j hj => by
    rw [List.getElem_reverse, List.getElem_take]
    congr 1
    rw [List.length_take]; omega
  rw [e q hq] at hh
  refine ⟨q, by omega, hh, fun j hj => ?_⟩
  have := hn j (by omega) hj
  rw [e j (by omega)] at this
  exact this
def rdsS : Spec := { al := true, rel := fun args ins res outs => ∃ (l : List Int), args = [dI l] ∧ ins = [] ∧ res = bv true ∧ outs = [] }
set_option maxHeartbeats 8000000 in
theorem rds_ok : Ok Tryz.prog 4 rdsS := by
  refine fn_ok rdsS Tryz.func4 rfl rfl ?_
  rintro args ins res outs ⟨l, rfl, rfl, rfl, rfl⟩
  refine ⟨by simp [Tryz.ntmps4], fun w0 V Bo mu0 => ?_⟩
  have M0 := madeF_at l 60 0 false (by decide) (by decide)
  obtain ⟨hM, hMl, _⟩ := mk_mad 0 false (l.take 60)
  have h60 : (madO 0 false (l.take 60)).1.length ≤ 60 := by rw [List.length_take] at hMl; omega
  generalize madO 0 false (l.take 60) = a at *
  have madeF_at : madeFS.rel [dI l, iv 60, iv 0, bv false] [] (.tup [ocL a.1, syA a.2, bv true]) [] := M0
  have hrd := fun i (hi : i < a.1.length) (h3 : a.1[i].k = 3) => back_hit (by omega) (reads hM hi h3)
  repeat' (first
    | (with_reducible first | refine W_seq ?_ | refine W_condT rfl ?_ | refine W_condF rfl ?_ | refine W_tf rfl (fun h => ?_) (fun h => ?_) | refine W_block ?_ | refine endQ_ret ?_ | refine endQ_normal ?_)
    | ((with_reducible first | refine hK _ ?_ | refine hK _ _ ?_); clear hK K)
    | ((first | (with_reducible first | refine ops_cons (fun K hK => ?_) | refine ops_nil ?_ | refine fit_i64 (by omega) ?_ | refine fit_any ?_) | with_reducible refine callV_snap ?_ | ((with_reducible refine call_go madeFS madeF_ok ?_); refine ⟨(by first | exact alOk_nil _ | exact alOk_f rfl), _, _, madeF_at , ?_⟩) | (with_reducible first | refine idx_map (by omega) ?_ | refine W_reg lv4MdT4 ?_ | refine W_skip ?_ | refine W_exit ?_ | refine W_ret ?_ | refine end_at0 ?_) | (with_reducible refine And.intro (fun h => ?_) (fun h => ?_)) | (with_reducible refine And.intro (by omega) ?_)); (try simp only [go_sem, seval, reduceCtorEq, lv4MdT4, Tryz.ntmps4, Tryz.results4, rdsS]))
    | fail)
  obtain ⟨L, hL⟩ : ∃ L, a.1 = L := ⟨_, rfl⟩
  rw [hL] at h60
  simp only [hL] at hrd
  rw [hL]
  clear M0 madeF_at hM hMl
  refine W_loop (fun i : Nat => ⟨[(3, ocL L), (6, iv (i : Int))], []⟩) (fun i => i ≤ L.length) (fun i => L.length - i) 0 (Nat.zero_le _) [] ?_ ?_
  · simp [go_sem]
  intro i hi
  by_cases hlt : i < L.length
  case neg =>
    have hki : ¬ (i : Int) < L.length := by omega
    repeat' (first
      | (with_reducible first | refine W_seq ?_ | refine W_condT rfl ?_ | refine W_condF rfl ?_ | refine W_tf rfl (fun h => ?_) (fun h => ?_) | refine W_block ?_ | refine endQ_ret ?_ | refine endQ_normal ?_)
      | ((with_reducible first | refine hK _ ?_ | refine hK _ _ ?_); clear hK K)
      | ((first | (with_reducible first | refine ops_cons (fun K hK => ?_) | refine ops_nil ?_ | refine fit_i64 (by omega) ?_ | refine fit_any ?_) | with_reducible refine callV_snap ?_ | ((with_reducible refine call_go awkS awk_ok ?_); refine ⟨(by first | exact alOk_nil _ | exact alOk_f rfl), _, _, awk_at , ?_⟩) | (with_reducible first | refine idx_map (by omega) ?_ | refine W_reg lv4MdT4 ?_ | refine W_skip ?_ | refine W_exit ?_ | refine W_ret ?_ | refine end_at0 ?_) | (with_reducible refine And.intro (fun h => ?_) (fun h => ?_)) | (with_reducible refine And.intro (by omega) ?_)); (try simp only [go_sem, seval, reduceCtorEq, hki, lv4MdT4, Tryz.ntmps4, Tryz.results4, rdsS]))
      | fail)
  have hki : (i : Int) < L.length := by omega
  have hr0 := hrd i hlt
  obtain ⟨x, hx⟩ : ∃ x, L[i] = x := ⟨_, rfl⟩
  have e0 : encOc L[i] = [.int .i64 x.k, .int .i64 x.p, .int .i64 x.o, .int .i64 x.g, .int .i64 x.w, .int .u64 (x.t : Int), .int .u64 (x.v : Int)] := by rw [hx]; rfl
  rw [hx] at hr0
  by_cases h3 : x.k = 3
  case neg =>
    repeat' (first
      | (with_reducible first | refine W_seq ?_ | refine W_condT rfl ?_ | refine W_condF rfl ?_ | refine W_tf rfl (fun h => ?_) (fun h => ?_) | refine W_block ?_ | refine endQ_ret ?_ | refine endQ_normal ?_)
      | ((with_reducible first | refine hK _ ?_ | refine hK _ _ ?_); clear hK K)
      | ((first | (with_reducible first | refine ops_cons (fun K hK => ?_) | refine ops_nil ?_ | refine fit_i64 (by omega) ?_ | refine fit_any ?_) | with_reducible refine callV_snap ?_ | (with_reducible first | refine idx_map (by omega) ?_ | refine W_reg lv4MdT4 ?_ | refine W_skip ?_ | refine W_exit ?_ | refine W_ret ?_ | refine end_at0 ?_) | (with_reducible refine And.intro (fun h => ?_) (fun h => ?_)) | (with_reducible refine And.intro (by omega) ?_)); (try simp only [go_sem, seval, reduceCtorEq, hki, e0, h3, lv4MdT4, Tryz.ntmps4, Tryz.results4, rdsS]))
      | fail)
    refine ⟨i + 1, [], by omega, by omega, ?_⟩
    simp [go_sem]
  obtain ⟨q, hq, hh, hn⟩ := hr0 h3
  clear hr0 hrd
  repeat' (first
    | (with_reducible first | refine W_seq ?_ | refine W_condT rfl ?_ | refine W_condF rfl ?_ | refine W_tf rfl (fun h => ?_) (fun h => ?_) | refine W_block ?_ | refine endQ_ret ?_ | refine endQ_normal ?_)
    | ((with_reducible first | refine hK _ ?_ | refine hK _ _ ?_); clear hK K)
    | ((first | (with_reducible first | refine ops_cons (fun K hK => ?_) | refine ops_nil ?_ | refine fit_i64 (by omega) ?_ | refine fit_any ?_) | with_reducible refine callV_snap ?_ | (with_reducible first | refine idx_map (by omega) ?_ | refine W_reg lv4MdT4 ?_ | refine W_skip ?_ | refine W_exit ?_ | refine W_ret ?_ | refine end_at0 ?_) | (with_reducible refine And.intro (fun h => ?_) (fun h => ?_)) | (with_reducible refine And.intro (by omega) ?_)); (try simp only [go_sem, seval, reduceCtorEq, hki, e0, h3, lv4MdT4, Tryz.ntmps4, Tryz.results4, rdsS]))
    | fail)
  refine W_loop (fun n : Nat => ⟨[(3, ocL L), (6, iv (i : Int)), (7, .ptr 0 0), (8, wv ((if n ≤ q then 0 else x.v : Nat) : Int)), (9, bv (decide (q < n))), (10, iv ((i : Int) - 1 - (n : Int)))], [some (.box 36 [iv 3, iv x.p, iv x.o, iv x.g, iv x.w, wv (x.t : Int), wv (x.v : Int)])]⟩) (fun n => n ≤ q + 1) (fun n => q + 1 - n) 0 (Nat.zero_le _) [0] ?_ ?_
  · simp [go_sem]
  intro n hn1
  by_cases hnq : n ≤ q
  case neg =>
    have e1 : decide (q < n) = true := decide_eq_true (by omega)
    have e2 : (if n ≤ q then 0 else x.v) = x.v := if_neg hnq
    repeat' (first
      | (with_reducible first | refine W_seq ?_ | refine W_condT rfl ?_ | refine W_condF rfl ?_ | refine W_tf rfl (fun h => ?_) (fun h => ?_) | refine W_block ?_ | refine endQ_ret ?_ | refine endQ_normal ?_)
      | ((with_reducible first | refine hK _ ?_ | refine hK _ _ ?_); clear hK K)
      | ((first | (with_reducible first | refine ops_cons (fun K hK => ?_) | refine ops_nil ?_ | refine fit_i64 (by omega) ?_ | refine fit_any ?_) | with_reducible refine callV_snap ?_ | (with_reducible first | refine idx_map (by omega) ?_ | refine W_reg lv4MdT4 ?_ | refine W_skip ?_ | refine W_exit ?_ | refine W_ret ?_ | refine end_at0 ?_) | (with_reducible refine And.intro (fun h => ?_) (fun h => ?_)) | (with_reducible refine And.intro (by omega) ?_)); (try simp only [go_sem, seval, reduceCtorEq, hki, e1, e2, lv4MdT4, Tryz.ntmps4, Tryz.results4, rdsS]))
      | fail)
    all_goals
      refine ⟨i + 1, [], by omega, by omega, ?_⟩
      simp [go_sem]
  have e1 : decide (q < n) = false := decide_eq_false (by omega)
  have e2 : (if n ≤ q then 0 else x.v) = 0 := if_pos hnq
  have hj0 : (0 : Int) ≤ (i : Int) - 1 - (n : Int) := by omega
  obtain ⟨j, hj⟩ : ∃ j : Nat, (i : Int) - 1 - (n : Int) = (j : Int) := ⟨i - 1 - n, by omega⟩
  have hji : j = i - 1 - n := by omega
  have hjl : j < L.length := by omega
  have hjL : (j : Int) < L.length := by omega
  have hjj : (j : Int) - 1 = (i : Int) - 1 - ((n : Int) + 1) := by omega
  have hcase : (n < q ∧ ¬ hitW x.p x.g x.w L[j] ∧ ¬ hitM x.p x.g L[j]) ∨ (n = q ∧ ((hitW x.p x.g x.w L[j] ∧ x.v = L[j].v) ∨ (¬ hitW x.p x.g x.w L[j] ∧ hitM x.p x.g L[j] ∧ x.v = 0))) := by
    by_cases hnq' : n = q
    · subst hnq'; subst hji; exact .inr ⟨rfl, hh⟩
    · subst hji; exact .inl ⟨by omega, hn n (by omega)⟩
  obtain ⟨y, hy⟩ : ∃ y, L[j] = y := ⟨_, rfl⟩
  have f0 : encOc L[j] = [.int .i64 y.k, .int .i64 y.p, .int .i64 y.o, .int .i64 y.g, .int .i64 y.w, .int .u64 (y.t : Int), .int .u64 (y.v : Int)] := by rw [hy]; rfl
  rw [hy] at hcase
  clear hh hn hji e0 hx
  unfold hitW hitM at hcase
  repeat' (first
    | (with_reducible first | refine W_seq ?_ | refine W_condT rfl ?_ | refine W_condF rfl ?_ | refine W_tf rfl (fun h => ?_) (fun h => ?_) | refine W_block ?_ | refine endQ_ret ?_ | refine endQ_normal ?_)
    | ((with_reducible first | refine hK _ ?_ | refine hK _ _ ?_); clear hK K)
    | ((first | (with_reducible first | refine ops_cons (fun K hK => ?_) | refine ops_nil ?_ | refine fit_i64 (by omega) ?_ | refine fit_any ?_) | with_reducible refine callV_snap ?_ | (with_reducible first | refine idx_map (by omega) ?_ | refine W_reg lv4MdT4 ?_ | refine W_skip ?_ | refine W_exit ?_ | refine W_ret ?_ | refine end_at0 ?_) | (with_reducible refine And.intro (fun h => ?_) (fun h => ?_)) | (with_reducible refine And.intro (by omega) ?_)); (try simp only [go_sem, seval, reduceCtorEq, hki, hjL, f0, e1, e2, hj, lv4MdT4, Tryz.ntmps4, Tryz.results4, rdsS]))
    | fail)
  all_goals first
    | (exfalso; omega)
    | (have d : decide (q < n + 1) = true := decide_eq_true (by omega)
       have g : (if n + 1 ≤ q then 0 else x.v) = y.v := by rw [if_neg (by omega)]; omega
       refine ⟨n + 1, [0], by omega, by omega, ?_⟩
       simp only [d, g]
       simp [go_sem]
       omega)
    | (have d : decide (q < n + 1) = true := decide_eq_true (by omega)
       have g : (if n + 1 ≤ q then 0 else x.v) = 0 := by rw [if_neg (by omega)]; omega
       refine ⟨n + 1, [0], by omega, by omega, ?_⟩
       simp only [d, g]
       simp [go_sem]
       omega)
    | (have d : decide (q < n + 1) = false := decide_eq_false (by omega)
       have g : (if n + 1 ≤ q then 0 else x.v) = 0 := if_pos (by omega)
       refine ⟨n + 1, [0], by omega, by omega, ?_⟩
       simp only [d, g]
       simp [go_sem]
       omega)
end Go.Proofs.YtnclclpfmldocaaGreat
