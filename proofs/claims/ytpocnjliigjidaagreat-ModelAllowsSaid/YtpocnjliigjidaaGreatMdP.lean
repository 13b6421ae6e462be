import Derived.Test.YtpocnjliigjidaaGreatFlAI
import Derived.Test.YtpocnjliigjidaaGreatMdC
/- A flat memory: valid memories, what a process sees, what an operation of another leaves alone, what reads say behind a write. -/
namespace Go.Proofs.YtpocnjliigjidaaGreat
open Go.RowKit
set_option maxRecDepth 100000
set_option linter.unusedSimpArgs false
set_option linter.unusedVariables false
structure Vl (s : FSt) : Prop where
  la : s.1.length = 8
  lm : s.2.1.length = 8
  u : U64 s.2.1
  dd : ∀ k, k < 8 → s.1[k]?.getD false = false → s.2.1[k]?.getD 0 = 0
  ck : ∀ c ∈ s.2.2, ck1 s.2.1 c = 0
  sr : Srt s.2.2
def vw (s : FSt) (k : Nat) : Bool × Nat × List Cl := (s.1[k]?.getD false, s.2.1[k]?.getD 0, zC s.2.2 ((k : Int) + 1))
theorem ckGo_of {mp : List Nat} : ∀ (cs : List Cl) (b : Option Cl), (∀ c ∈ cs, ck1 mp c = 0) → Srt cs → (∀ x y, b = some x → y ∈ cs → Bef x y) → ckGo mp b cs = 0
  | [], b, _, _, _ => by cases b <;> rfl
  | c :: r, b, h, hs, hb => by
    obtain ⟨s1, s2⟩ := List.pairwise_cons.1 hs
    have ih := ckGo_of r (some c) (fun d hd => h d (by simp [hd])) s2 (fun x y e hy => by injection e with e; subst e; exact s1 y hy)
    have h0 := h c (by simp)
    cases b with
    | none => rw [ckGo, if_neg (by simpa using h0), ih]
    | some x => rw [ckGo, if_neg (by simpa using h0), if_pos (hb x c rfl (by simp)), ih]
theorem vl_chk {s : FSt} (h : Vl s) : flchk s.1 s.2.1 s.2.2 = 0 := by
  unfold flchk
  rw [if_neg (by have := h.la; have := h.lm; omega), if_neg, ckGo_of _ _ h.ck h.sr (fun _ _ e => by cases e)]
  intro hd
  unfold deadm at hd
  obtain ⟨x, hx, hb⟩ := List.any_eq_true.1 hd
  obtain ⟨i, hi, he⟩ := List.mem_iff_getElem.1 hx
  simp only [List.length_zip, h.la, h.lm, Nat.min_self] at hi
  have ha : i < s.1.length := by rw [h.la]; exact hi
  have hm : i < s.2.1.length := by rw [h.lm]; exact hi
  rw [List.getElem_zip] at he
  subst he
  simp only [Bool.and_eq_true, Bool.not_eq_true', decide_eq_true_eq] at hb
  have := h.dd i hi (by simp [ha, hb.1])
  rw [List.getElem?_eq_getElem hm] at this
  exact hb.2 (by simpa using this)
theorem chk_vl {s : FSt} (hu : U64 s.2.1) (h : flchk s.1 s.2.1 s.2.2 = 0) : Vl s := by
  obtain ⟨la, lm⟩ := flchk_len h
  refine ⟨la, lm, hu, fun k hk ha => ?_, flchk_pgs h, flchk_srt h⟩
  rcases Nat.eq_zero_or_pos (s.2.1[k]?.getD 0) with h0 | h0
  · exact h0
  · exfalso
    have hka : k < s.1.length := by omega
    have hkm : k < s.2.1.length := by omega
    rw [List.getElem?_eq_getElem hka] at ha
    rw [List.getElem?_eq_getElem hkm] at h0
    simp only [Option.getD_some] at ha h0
    have hd : deadm s.1 s.2.1 = true := by
      unfold deadm
      refine List.any_eq_true.2 ⟨(s.1[k], s.2.1[k]), List.mem_iff_getElem.2 ⟨k, by simp; omega, by simp⟩, ?_⟩
      rw [ha]
      simp only [Bool.not_false, Bool.true_and, decide_eq_true_eq]
      omega
    unfold flchk at h
    rw [if_neg (by omega), if_pos hd] at h
    cases h
theorem get_set {α : Type} {l : List α} {k : Nat} (hk : k < l.length) (x d : α) (j : Nat) : (l.set k x)[j]?.getD d = if j = k then x else l[j]?.getD d := by
  rw [List.getElem?_set]
  by_cases h : j = k
  · subst h; simp [hk]
  · rw [if_neg (fun e => h e.symm), if_neg h]
theorem ck1_iff {mp : List Nat} {c : Cl} : ck1 mp c = 0 ↔ Prc c.1 ∧ Pgs c.2.1 ∧ Wrd c.2.2.1 ∧ c.2.2.2 ≠ 0 ∧ mpd mp c.1 c.2.1 = true := by
  constructor
  · exact ck1_zero
  · rintro ⟨h1, h2, h3, h4, h5⟩
    unfold ck1
    rw [if_neg (fun h => h ⟨h1, h2, h3⟩), if_neg h4, h5, if_neg (by decide)]
theorem mpd_eq (mp : List Nat) (k : Nat) (g : Int) : mpd mp ((k : Int) + 1) g = (mp[k]?.getD 0).testBit g.toNat := by
  unfold mpd
  rw [show ((k : Int) + 1 - 1).toNat = k by omega]
theorem alv_eq (al : List Bool) (k : Nat) : alv al ((k : Int) + 1) = al[k]?.getD false := by
  unfold alv
  rw [show ((k : Int) + 1 - 1).toNat = k by omega]
theorem zc_ext {A B : List Cl} {p : Int} (hA : Srt A) (hB : Srt B) (h : ∀ x : Int × Int × Nat, (p, x) ∈ A ↔ (p, x) ∈ B) : zC A p = zC B p := srt_ext (zC_srt hA p) (zC_srt hB p) fun c => by rw [mem_zC, mem_zC, h c.2]
theorem zc_mem {A B : List Cl} {p : Int} (h : zC A p = zC B p) (x : Int × Int × Nat) : (p, x) ∈ A ↔ (p, x) ∈ B := by
  have e : ((0, x) : Cl) ∈ zC A p ↔ ((0, x) : Cl) ∈ zC B p := by rw [h]
  rw [mem_zC, mem_zC] at e
  simpa using e
theorem mem_woC {cs : List Cl} {p f t : Int} {x : Cl} : x ∈ woC cs p f t ↔ x ∈ cs ∧ ¬ (x.1 = p ∧ f ≤ x.2.1 ∧ x.2.1 ≤ t) := by
  unfold woC inR
  rw [List.mem_filter]
  simp only [Bool.not_eq_true', Bool.and_eq_false_iff, decide_eq_false_iff_not]
  exact and_congr_right fun _ => by omega
theorem woC_srt' {cs : List Cl} (h : Srt cs) (p f t : Int) : Srt (woC cs p f t) := h.sublist List.filter_sublist
theorem mem_wrC {cs : List Cl} {c x : Cl} : x ∈ wrC cs c ↔ (x ∈ cs ∧ ck3 x ≠ ck3 c) ∨ (x = c ∧ c.2.2.2 ≠ 0) := by
  have hr : ∀ x, x ∈ rmK cs (ck3 c) ↔ x ∈ cs ∧ ck3 x ≠ ck3 c := fun x => by unfold rmK; rw [List.mem_filter]; simp
  unfold wrC
  by_cases h : c.2.2.2 = 0
  · rw [if_pos h, hr]; simp [h]
  · rw [if_neg h, (putC_perm _ _).mem_iff, List.mem_cons, hr]
    constructor
    · rintro (e | e)
      · exact .inr ⟨e, h⟩
      · exact .inl e
    · rintro (e | e)
      · exact .inr e
      · exact .inl e.1
theorem lvs_eq {s : FSt} (h : Vl s) {k : Nat} (hk : k < 8) : lvsE s.1 s.2.1 s.2.2 [(k : Int) + 1] = if s.1[k]?.getD false = true then 0 else 11 := by
  unfold lvsE
  rw [vl_chk h, if_neg (by decide)]
  simp only [List.any_cons, List.any_nil, Bool.or_false, alv_eq]
  rw [decide_eq_true (show Prc ((k : Int) + 1) from ⟨by omega, by omega⟩), if_neg (by decide)]
  cases s.1[k]?.getD false <;> rfl
structure LocF (F : FSt → FSt × Int) (k : Nat) : Prop where
  val : ∀ {s}, Vl s → (F s).2 = 0 → Vl (F s).1
  oth : ∀ {s}, Vl s → (F s).2 = 0 → ∀ j, j < 8 → j ≠ k → vw (F s).1 j = vw s j
  loc : ∀ {s t}, Vl s → Vl t → vw s k = vw t k → (F s).2 = (F t).2 ∧ ((F s).2 = 0 → vw (F s).1 k = vw (F t).1 k)
  err : ∀ {s}, Vl s → (F s).2 = 0 ∨ (F s).2 = 7 ∨ (F s).2 = 11 ∨ (F s).2 = 6 ∨ (F s).2 = 12 ∨ (F s).2 = 2
end Go.Proofs.YtpocnjliigjidaaGreat
namespace Go.Proofs.YtpocnjliigjidaaGreat
open Go.RowKit
set_option maxRecDepth 100000
set_option linter.unusedSimpArgs false
set_option linter.unusedVariables false
def oSp (k : Nat) (s : FSt) : FSt × Int := spnF s.1 s.2.1 s.2.2 ((k : Int) + 1)
def oEx (k : Nat) (s : FSt) : FSt × Int := extF s.1 s.2.1 s.2.2 ((k : Int) + 1)
def oMp (k : Nat) (f t : Int) (s : FSt) : FSt × Int := mapF s.1 s.2.1 s.2.2 ((k : Int) + 1) f t
def oUn (k : Nat) (f t : Int) (s : FSt) : FSt × Int := unmF s.1 s.2.1 s.2.2 ((k : Int) + 1) f t
def oWr (k : Nat) (g w : Int) (v : Nat) (s : FSt) : FSt × Int := wrtF s.1 s.2.1 s.2.2 ((k : Int) + 1) g w v
theorem vw_iff {s t : FSt} {j i : Nat} : vw s j = vw t i ↔ s.1[j]?.getD false = t.1[i]?.getD false ∧ s.2.1[j]?.getD 0 = t.2.1[i]?.getD 0 ∧ zC s.2.2 ((j : Int) + 1) = zC t.2.2 ((i : Int) + 1) := by
  unfold vw
  simp only [Prod.mk.injEq]
theorem u64_set {m : List Nat} (h : U64 m) {x : Nat} (hx : x < 18446744073709551616) (k : Nat) : U64 (m.set k x) := fun y hy => by
  rcases List.mem_or_eq_of_mem_set hy with hy | rfl
  · exact h y hy
  · exact hx
theorem u64_get {m : List Nat} (h : U64 m) (k : Nat) : m[k]?.getD 0 < 18446744073709551616 := by
  by_cases hk : k < m.length
  · rw [List.getElem?_eq_getElem hk]; exact h _ (List.getElem_mem hk)
  · rw [List.getElem?_eq_none (by omega)]; exact (by decide)
theorem oSp_eq {s : FSt} (h : Vl s) {k : Nat} (hk : k < 8) : oSp k s = if s.1[k]?.getD false = true then (nilF, 7) else ((s.1.set k true, s.2.1, s.2.2), 0) := by
  unfold oSp spnF
  rw [ask_zero (vl_chk h) hk, if_neg (by decide), alv_eq, ix_succ]
theorem oSp_loc {k : Nat} (hk : k < 8) : LocF (oSp k) k where
  val {s} h h0 := by
    rw [oSp_eq h hk] at h0 ⊢
    by_cases ha : s.1[k]?.getD false = true
    · rw [if_pos ha] at h0; exact absurd h0 (by decide)
    · rw [if_neg ha]
      refine ⟨by simp [h.la], h.lm, h.u, fun j hj hb => ?_, h.ck, h.sr⟩
      dsimp only at hb
      rw [get_set (by rw [h.la]; exact hk)] at hb
      by_cases hjk : j = k
      · rw [if_pos hjk] at hb; cases hb
      · rw [if_neg hjk] at hb; exact h.dd j hj hb
  oth {s} h h0 j hj hjk := by
    rw [oSp_eq h hk] at h0 ⊢
    by_cases ha : s.1[k]?.getD false = true
    · rw [if_pos ha] at h0; exact absurd h0 (by decide)
    · rw [if_neg ha, vw_iff]
      dsimp only
      rw [get_set (by rw [h.la]; exact hk), if_neg hjk]
      exact ⟨rfl, rfl, rfl⟩
  loc {s t} hs ht hv := by
    obtain ⟨v1, v2, v3⟩ := vw_iff.1 hv
    rw [oSp_eq hs hk, oSp_eq ht hk, v1]
    by_cases ha : t.1[k]?.getD false = true
    · rw [if_pos ha, if_pos ha]; exact ⟨rfl, fun h => absurd h (by decide)⟩
    · rw [if_neg ha, if_neg ha]
      refine ⟨rfl, fun _ => vw_iff.2 ?_⟩
      dsimp only
      rw [get_set (by rw [hs.la]; exact hk), get_set (by rw [ht.la]; exact hk), if_pos rfl, if_pos rfl]
      exact ⟨rfl, v2, v3⟩
  err {s} h := by
    rw [oSp_eq h hk]
    split <;> simp
theorem oEx_eq {s : FSt} (h : Vl s) {k : Nat} (hk : k < 8) : oEx k s = if s.1[k]?.getD false = true then ((s.1.set k false, s.2.1.set k 0, woC s.2.2 ((k : Int) + 1) 0 63), 0) else (nilF, 11) := by
  unfold oEx extF
  rw [lvs_eq h hk, ix_succ]
  by_cases ha : s.1[k]?.getD false = true
  · rw [if_pos ha, if_pos ha, if_neg (by decide)]
  · rw [if_neg ha, if_neg ha, if_pos (by decide)]
theorem oEx_loc {k : Nat} (hk : k < 8) : LocF (oEx k) k where
  val {s} h h0 := by
    rw [oEx_eq h hk] at h0 ⊢
    by_cases ha : s.1[k]?.getD false = true
    case neg => rw [if_neg ha] at h0; exact absurd h0 (by decide)
    rw [if_pos ha]
    refine ⟨by simp [h.la], by simp [h.lm], u64_set h.u (by decide) k, fun j hj hb => ?_, fun c hc => ?_, woC_srt' h.sr _ _ _⟩
    · dsimp only at hb ⊢
      rw [get_set (by rw [h.la]; exact hk)] at hb
      rw [get_set (by rw [h.lm]; exact hk)]
      by_cases hjk : j = k
      · rw [if_pos hjk]
      · rw [if_neg hjk] at hb ⊢; exact h.dd j hj hb
    · obtain ⟨c1, c2⟩ := mem_woC.1 hc
      obtain ⟨k1, k2, k3, k4, k5⟩ := ck1_iff.1 (h.ck c c1)
      obtain ⟨i, hi, hi8⟩ := prc_ix k1
      rw [ck1_iff]
      refine ⟨k1, k2, k3, k4, ?_⟩
      rw [hi, mpd_eq] at k5 ⊢
      dsimp only
      have hik : i ≠ k := fun e => c2 ⟨by rw [hi, e], k2.1, by have := k2.2; omega⟩
      rw [get_set (by rw [h.lm]; exact hk), if_neg hik]
      exact k5
  oth {s} h h0 j hj hjk := by
    rw [oEx_eq h hk] at h0 ⊢
    by_cases ha : s.1[k]?.getD false = true
    case neg => rw [if_neg ha] at h0; exact absurd h0 (by decide)
    rw [if_pos ha, vw_iff]
    dsimp only
    rw [get_set (by rw [h.la]; exact hk), if_neg hjk, get_set (by rw [h.lm]; exact hk), if_neg hjk]
    refine ⟨rfl, rfl, zc_ext (woC_srt' h.sr _ _ _) h.sr fun x => ?_⟩
    rw [mem_woC]
    exact ⟨fun h => h.1, fun h => ⟨h, fun hh => by have := hh.1; dsimp only at this; omega⟩⟩
  loc {s t} hs ht hv := by
    obtain ⟨v1, v2, v3⟩ := vw_iff.1 hv
    rw [oEx_eq hs hk, oEx_eq ht hk, v1]
    by_cases ha : t.1[k]?.getD false = true
    case neg => rw [if_neg ha, if_neg ha]; exact ⟨rfl, fun h => absurd h (by decide)⟩
    rw [if_pos ha, if_pos ha]
    refine ⟨rfl, fun _ => vw_iff.2 ?_⟩
    dsimp only
    rw [get_set (by rw [hs.la]; exact hk), get_set (by rw [ht.la]; exact hk), if_pos rfl, if_pos rfl, get_set (by rw [hs.lm]; exact hk), get_set (by rw [ht.lm]; exact hk), if_pos rfl, if_pos rfl]
    exact ⟨rfl, rfl, zc_ext (woC_srt' hs.sr _ _ _) (woC_srt' ht.sr _ _ _) fun x => by rw [mem_woC, mem_woC, zc_mem v3]⟩
  err {s} h := by
    rw [oEx_eq h hk]
    split <;> simp
theorem rng_eq {s : FSt} (h : Vl s) {k : Nat} (hk : k < 8) (f t : Int) : rngE s.1 s.2.1 s.2.2 ((k : Int) + 1) f t = if s.1[k]?.getD false = true then (if f < 0 ∨ t < f ∨ 64 ≤ t then 2 else 0) else 11 := by
  unfold rngE
  rw [lvs_eq h hk]
  by_cases ha : s.1[k]?.getD false = true
  · rw [if_pos ha, if_neg (by decide), if_pos ha]
  · rw [if_neg ha, if_pos (by decide), if_neg ha]
theorem mpE_eq {s : FSt} (h : Vl s) {k : Nat} (hk : k < 8) (g w : Int) : mapE s.1 s.2.1 s.2.2 ((k : Int) + 1) g w = if s.1[k]?.getD false = true then (if ¬ (Pgs g ∧ Wrd w) then 2 else if (s.2.1[k]?.getD 0).testBit g.toNat = false then 12 else 0) else 11 := by
  unfold mapE
  rw [lvs_eq h hk, mpd_eq]
  by_cases ha : s.1[k]?.getD false = true
  · rw [if_pos ha, if_neg (by decide), if_pos ha]
  · rw [if_neg ha, if_pos (by decide), if_neg ha]
theorem oMp_eq {s : FSt} (h : Vl s) {k : Nat} (hk : k < 8) (f t : Int) : oMp k f t s = if s.1[k]?.getD false = true then (if f < 0 ∨ t < f ∨ 64 ≤ t then (nilF, 2) else if hasB (s.2.1[k]?.getD 0) f.toNat t.toNat = true then (nilF, 7) else ((s.1, s.2.1.set k (s.2.1[k]?.getD 0 ||| pgM f.toNat t.toNat), s.2.2), 0)) else (nilF, 11) := by
  unfold oMp mapF
  rw [rng_eq h hk, ix_succ]
  by_cases ha : s.1[k]?.getD false = true
  · by_cases hb : f < 0 ∨ t < f ∨ 64 ≤ t
    · rw [if_pos ha, if_pos hb, if_pos (by decide), if_pos ha, if_pos hb]
    · rw [if_pos ha, if_neg hb, if_neg (by decide), if_pos ha, if_neg hb]
  · rw [if_neg ha, if_pos (by decide), if_neg ha]
theorem oMp_loc {k : Nat} (hk : k < 8) (f t : Int) : LocF (oMp k f t) k where
  val {s} h h0 := by
    rw [oMp_eq h hk] at h0 ⊢
    by_cases ha : s.1[k]?.getD false = true
    case neg => rw [if_neg ha] at h0; exact absurd h0 (by decide)
    rw [if_pos ha] at h0 ⊢
    by_cases hb : f < 0 ∨ t < f ∨ 64 ≤ t
    case pos => rw [if_pos hb] at h0; exact absurd h0 (by decide)
    rw [if_neg hb] at h0 ⊢
    by_cases hc : hasB (s.2.1[k]?.getD 0) f.toNat t.toNat = true
    case pos => rw [if_pos hc] at h0; exact absurd h0 (by decide)
    rw [if_neg hc]
    refine ⟨h.la, by simp [h.lm], u64_set h.u (Nat.or_lt_two_pow (n := 64) (u64_get h.u k) (pgM_lt (by omega) (by omega))) k, fun j hj hb => ?_, fun c hc => ?_, h.sr⟩
    · dsimp only at hb ⊢
      rw [get_set (by rw [h.lm]; exact hk)]
      by_cases hjk : j = k
      · subst hjk; rw [ha] at hb; cases hb
      · rw [if_neg hjk]; exact h.dd j hj hb
    · obtain ⟨k1, k2, k3, k4, k5⟩ := ck1_iff.1 (h.ck c hc)
      obtain ⟨i, hi, hi8⟩ := prc_ix k1
      rw [ck1_iff]
      refine ⟨k1, k2, k3, k4, ?_⟩
      rw [hi, mpd_eq] at k5 ⊢
      dsimp only
      rw [get_set (by rw [h.lm]; exact hk)]
      by_cases hik : i = k
      · subst hik; rw [if_pos rfl, Nat.testBit_or, k5]; rfl
      · rw [if_neg hik]; exact k5
  oth {s} h h0 j hj hjk := by
    rw [oMp_eq h hk] at h0 ⊢
    by_cases ha : s.1[k]?.getD false = true
    case neg => rw [if_neg ha] at h0; exact absurd h0 (by decide)
    rw [if_pos ha] at h0 ⊢
    by_cases hb : f < 0 ∨ t < f ∨ 64 ≤ t
    case pos => rw [if_pos hb] at h0; exact absurd h0 (by decide)
    rw [if_neg hb] at h0 ⊢
    by_cases hc : hasB (s.2.1[k]?.getD 0) f.toNat t.toNat = true
    case pos => rw [if_pos hc] at h0; exact absurd h0 (by decide)
    rw [if_neg hc, vw_iff]
    dsimp only
    rw [get_set (by rw [h.lm]; exact hk), if_neg hjk]
    exact ⟨rfl, rfl, rfl⟩
  loc {s t'} hs ht hv := by
    obtain ⟨v1, v2, v3⟩ := vw_iff.1 hv
    rw [oMp_eq hs hk, oMp_eq ht hk, v1, v2]
    by_cases ha : t'.1[k]?.getD false = true
    case neg => rw [if_neg ha, if_neg ha]; exact ⟨rfl, fun h => absurd h (by decide)⟩
    rw [if_pos ha, if_pos ha]
    by_cases hb : f < 0 ∨ t < f ∨ 64 ≤ t
    case pos => rw [if_pos hb, if_pos hb]; exact ⟨rfl, fun h => absurd h (by decide)⟩
    rw [if_neg hb, if_neg hb]
    by_cases hc : hasB (t'.2.1[k]?.getD 0) f.toNat t.toNat = true
    case pos => rw [if_pos hc, if_pos hc]; exact ⟨rfl, fun h => absurd h (by decide)⟩
    rw [if_neg hc, if_neg hc]
    refine ⟨rfl, fun _ => vw_iff.2 ?_⟩
    dsimp only
    rw [get_set (by rw [hs.lm]; exact hk), get_set (by rw [ht.lm]; exact hk), if_pos rfl, if_pos rfl]
    exact ⟨v1, rfl, v3⟩
  err {s} h := by
    rw [oMp_eq h hk]
    split
    · split
      · simp
      · split <;> simp
    · simp
theorem oUn_eq {s : FSt} (h : Vl s) {k : Nat} (hk : k < 8) (f t : Int) : oUn k f t s = if s.1[k]?.getD false = true then (if f < 0 ∨ t < f ∨ 64 ≤ t then (nilF, 2) else if allB (s.2.1[k]?.getD 0) f.toNat t.toNat = false then (nilF, 6) else ((s.1, s.2.1.set k (clr (s.2.1[k]?.getD 0) (pgM f.toNat t.toNat)), woC s.2.2 ((k : Int) + 1) f t), 0)) else (nilF, 11) := by
  unfold oUn unmF
  rw [rng_eq h hk, ix_succ]
  by_cases ha : s.1[k]?.getD false = true
  · by_cases hb : f < 0 ∨ t < f ∨ 64 ≤ t
    · rw [if_pos ha, if_pos hb, if_pos (by decide), if_pos ha, if_pos hb]
    · rw [if_pos ha, if_neg hb, if_neg (by decide), if_pos ha, if_neg hb]
  · rw [if_neg ha, if_pos (by decide), if_neg ha]
theorem oUn_loc {k : Nat} (hk : k < 8) (f t : Int) : LocF (oUn k f t) k where
  val {s} h h0 := by
    rw [oUn_eq h hk] at h0 ⊢
    by_cases ha : s.1[k]?.getD false = true
    case neg => rw [if_neg ha] at h0; exact absurd h0 (by decide)
    rw [if_pos ha] at h0 ⊢
    by_cases hb : f < 0 ∨ t < f ∨ 64 ≤ t
    case pos => rw [if_pos hb] at h0; exact absurd h0 (by decide)
    rw [if_neg hb] at h0 ⊢
    by_cases hc : allB (s.2.1[k]?.getD 0) f.toNat t.toNat = false
    case pos => rw [if_pos hc] at h0; exact absurd h0 (by decide)
    rw [if_neg hc]
    refine ⟨h.la, by simp [h.lm], u64_set h.u (clr_lt _ (u64_get h.u k)) k, fun j hj hb => ?_, fun c hc => ?_, woC_srt' h.sr _ _ _⟩
    · dsimp only at hb ⊢
      rw [get_set (by rw [h.lm]; exact hk)]
      by_cases hjk : j = k
      · subst hjk; rw [ha] at hb; cases hb
      · rw [if_neg hjk]; exact h.dd j hj hb
    · obtain ⟨c1, c2⟩ := mem_woC.1 hc
      obtain ⟨k1, k2, k3, k4, k5⟩ := ck1_iff.1 (h.ck c c1)
      obtain ⟨i, hi, hi8⟩ := prc_ix k1
      rw [ck1_iff]
      refine ⟨k1, k2, k3, k4, ?_⟩
      rw [hi, mpd_eq] at k5 ⊢
      dsimp only
      rw [get_set (by rw [h.lm]; exact hk)]
      by_cases hik : i = k
      · subst hik
        rw [if_pos rfl, clr_bit _ _ _ (pgM_lt (by omega) (by omega)) (u64_get h.u i), k5, pgM_bit (by omega)]
        have hn : ¬ (f.toNat ≤ c.2.1.toNat ∧ c.2.1.toNat ≤ t.toNat) := fun hh => c2 ⟨hi, by have := k2.1; omega, by have := k2.1; omega⟩
        rw [decide_eq_false hn]
        rfl
      · rw [if_neg hik]; exact k5
  oth {s} h h0 j hj hjk := by
    rw [oUn_eq h hk] at h0 ⊢
    by_cases ha : s.1[k]?.getD false = true
    case neg => rw [if_neg ha] at h0; exact absurd h0 (by decide)
    rw [if_pos ha] at h0 ⊢
    by_cases hb : f < 0 ∨ t < f ∨ 64 ≤ t
    case pos => rw [if_pos hb] at h0; exact absurd h0 (by decide)
    rw [if_neg hb] at h0 ⊢
    by_cases hc : allB (s.2.1[k]?.getD 0) f.toNat t.toNat = false
    case pos => rw [if_pos hc] at h0; exact absurd h0 (by decide)
    rw [if_neg hc, vw_iff]
    dsimp only
    rw [get_set (by rw [h.lm]; exact hk), if_neg hjk]
    refine ⟨rfl, rfl, zc_ext (woC_srt' h.sr _ _ _) h.sr fun x => ?_⟩
    rw [mem_woC]
    exact ⟨fun h => h.1, fun h => ⟨h, fun hh => by have := hh.1; dsimp only at this; omega⟩⟩
  loc {s t'} hs ht hv := by
    obtain ⟨v1, v2, v3⟩ := vw_iff.1 hv
    rw [oUn_eq hs hk, oUn_eq ht hk, v1, v2]
    by_cases ha : t'.1[k]?.getD false = true
    case neg => rw [if_neg ha, if_neg ha]; exact ⟨rfl, fun h => absurd h (by decide)⟩
    rw [if_pos ha, if_pos ha]
    by_cases hb : f < 0 ∨ t < f ∨ 64 ≤ t
    case pos => rw [if_pos hb, if_pos hb]; exact ⟨rfl, fun h => absurd h (by decide)⟩
    rw [if_neg hb, if_neg hb]
    by_cases hc : allB (t'.2.1[k]?.getD 0) f.toNat t.toNat = false
    case pos => rw [if_pos hc, if_pos hc]; exact ⟨rfl, fun h => absurd h (by decide)⟩
    rw [if_neg hc, if_neg hc]
    refine ⟨rfl, fun _ => vw_iff.2 ?_⟩
    dsimp only
    rw [get_set (by rw [hs.lm]; exact hk), get_set (by rw [ht.lm]; exact hk), if_pos rfl, if_pos rfl]
    exact ⟨v1, rfl, zc_ext (woC_srt' hs.sr _ _ _) (woC_srt' ht.sr _ _ _) fun x => by rw [mem_woC, mem_woC, zc_mem v3]⟩
  err {s} h := by
    rw [oUn_eq h hk]
    split
    · split
      · simp
      · split <;> simp
    · simp
theorem oWr_eq {s : FSt} (h : Vl s) {k : Nat} (hk : k < 8) (g w : Int) (v : Nat) : oWr k g w v s = if s.1[k]?.getD false = true then (if ¬ (Pgs g ∧ Wrd w) then (nilF, 2) else if (s.2.1[k]?.getD 0).testBit g.toNat = false then (nilF, 12) else ((s.1, s.2.1, wrC s.2.2 ((k : Int) + 1, g, w, v)), 0)) else (nilF, 11) := by
  unfold oWr wrtF
  rw [mpE_eq h hk]
  by_cases ha : s.1[k]?.getD false = true
  · by_cases hb : ¬ (Pgs g ∧ Wrd w)
    · rw [if_pos ha, if_pos hb, if_pos (by decide), if_pos ha, if_pos hb]
    · by_cases hc : (s.2.1[k]?.getD 0).testBit g.toNat = false
      · rw [if_pos ha, if_neg hb, if_pos hc, if_pos (by decide), if_pos ha, if_neg hb, if_pos hc]
      · rw [if_pos ha, if_neg hb, if_neg hc, if_neg (by decide), if_pos ha, if_neg hb, if_neg hc]
  · rw [if_neg ha, if_pos (by decide), if_neg ha]
theorem oWr_loc {k : Nat} (hk : k < 8) (g w : Int) (v : Nat) : LocF (oWr k g w v) k where
  val {s} h h0 := by
    rw [oWr_eq h hk] at h0 ⊢
    by_cases ha : s.1[k]?.getD false = true
    case neg => rw [if_neg ha] at h0; exact absurd h0 (by decide)
    rw [if_pos ha] at h0 ⊢
    by_cases hb : Pgs g ∧ Wrd w
    case neg => rw [if_pos hb] at h0; exact absurd h0 (by decide)
    rw [if_neg (fun h => h hb)] at h0 ⊢
    by_cases hc : (s.2.1[k]?.getD 0).testBit g.toNat = false
    case pos => rw [if_pos hc] at h0; exact absurd h0 (by decide)
    rw [if_neg hc]
    refine ⟨h.la, h.lm, h.u, h.dd, fun c hm => ?_, wrC_srt h.sr _⟩
    rcases mem_wrC.1 hm with ⟨h1, _⟩ | ⟨rfl, h2⟩
    · exact h.ck c h1
    · rw [ck1_iff]
      refine ⟨⟨by dsimp only; omega, by dsimp only; omega⟩, hb.1, hb.2, h2, ?_⟩
      dsimp only
      rw [mpd_eq]
      simpa using hc
  oth {s} h h0 j hj hjk := by
    rw [oWr_eq h hk] at h0 ⊢
    by_cases ha : s.1[k]?.getD false = true
    case neg => rw [if_neg ha] at h0; exact absurd h0 (by decide)
    rw [if_pos ha] at h0 ⊢
    by_cases hb : Pgs g ∧ Wrd w
    case neg => rw [if_pos hb] at h0; exact absurd h0 (by decide)
    rw [if_neg (fun h => h hb)] at h0 ⊢
    by_cases hc : (s.2.1[k]?.getD 0).testBit g.toNat = false
    case pos => rw [if_pos hc] at h0; exact absurd h0 (by decide)
    rw [if_neg hc, vw_iff]
    refine ⟨rfl, rfl, zc_ext (wrC_srt h.sr _) h.sr fun x => ?_⟩
    rw [mem_wrC]
    have hne : ((j : Int) + 1) ≠ ((k : Int) + 1) := by omega
    constructor
    · rintro (h1 | h1)
      · exact h1.1
      · exact absurd (congrArg (·.1) h1.1) hne
    · intro h1
      exact .inl ⟨h1, fun e => hne (congrArg (·.1) e)⟩
  loc {s t} hs ht hv := by
    obtain ⟨v1, v2, v3⟩ := vw_iff.1 hv
    rw [oWr_eq hs hk, oWr_eq ht hk, v1, v2]
    by_cases ha : t.1[k]?.getD false = true
    case neg => rw [if_neg ha, if_neg ha]; exact ⟨rfl, fun h => absurd h (by decide)⟩
    rw [if_pos ha, if_pos ha]
    by_cases hb : Pgs g ∧ Wrd w
    case neg => rw [if_pos hb, if_pos hb]; exact ⟨rfl, fun h => absurd h (by decide)⟩
    have hb' : ¬ ¬ (Pgs g ∧ Wrd w) := fun h => h hb
    rw [if_neg hb', if_neg hb']
    by_cases hc : (t.2.1[k]?.getD 0).testBit g.toNat = false
    case pos => rw [if_pos hc, if_pos hc]; exact ⟨rfl, fun h => absurd h (by decide)⟩
    rw [if_neg hc, if_neg hc]
    exact ⟨rfl, fun _ => vw_iff.2 ⟨v1, v2, zc_ext (wrC_srt hs.sr _) (wrC_srt ht.sr _) fun x => by rw [mem_wrC, mem_wrC, zc_mem v3]⟩⟩
  err {s} h := by
    rw [oWr_eq h hk]
    split
    · split
      · simp
      · split <;> simp
    · simp
end Go.Proofs.YtpocnjliigjidaaGreat
namespace Go.Proofs.YtpocnjliigjidaaGreat
open Go.RowKit
set_option maxRecDepth 100000
set_option linter.unusedSimpArgs false
set_option linter.unusedVariables false
theorem inc_len {N : Nat} : ∀ (l : List Nat) (a : Nat), l.Pairwise (· < ·) → (∀ x ∈ l, a ≤ x ∧ x < N) → a ≤ N → l.length + a ≤ N
  | [], a, _, _, h => by simpa using h
  | x :: l, a, hp, hx, h => by
    obtain ⟨p1, p2⟩ := List.pairwise_cons.1 hp
    have h0 := hx x (by simp)
    have := inc_len l (x + 1) p2 (fun y hy => ⟨p1 y hy, (hx y (by simp [hy])).2⟩) (by omega)
    rw [List.length_cons]; omega
theorem vl_len {s : FSt} (h : Vl s) : s.2.2.length ≤ 4096 := by
  have key := inc_len (N := 4096) (s.2.2.map fun c : Cl => (((c.1 - 1) * 64 + c.2.1) * 8 + c.2.2.1).toNat) 0 ?_ (fun x hx => ?_) (by decide)
  · simpa using key
  · rw [List.pairwise_map]
    refine List.Pairwise.imp_of_mem (fun {a b} ha hb hab => ?_) h.sr
    obtain ⟨⟨a1, a2⟩, ⟨a3, a4⟩, ⟨a5, a6⟩, _⟩ := ck1_iff.1 (h.ck a ha)
    obtain ⟨⟨b1, b2⟩, ⟨b3, b4⟩, ⟨b5, b6⟩, _⟩ := ck1_iff.1 (h.ck b hb)
    unfold Bef at hab
    omega
  · obtain ⟨c, hc, rfl⟩ := List.mem_map.1 hx
    obtain ⟨⟨a1, a2⟩, ⟨a3, a4⟩, ⟨a5, a6⟩, _⟩ := ck1_iff.1 (h.ck c hc)
    omega
def oFk (k j : Nat) (s : FSt) : FSt × Int := frkF s.1 s.2.1 s.2.2 ((k : Int) + 1) ((j : Int) + 1)
theorem frk_eq {s : FSt} (h : Vl s) {k j : Nat} (hk : k < 8) (hj : j < 8) : frkE s.1 s.2.1 s.2.2 ((k : Int) + 1) ((j : Int) + 1) = if s.1[k]?.getD false = false then 11 else if k = j then 2 else if s.1[j]?.getD false = true then 7 else 0 := by
  have hp : ¬ ¬ (Prc ((k : Int) + 1) ∧ Prc ((j : Int) + 1)) := fun hh => hh ⟨⟨by omega, by omega⟩, ⟨by omega, by omega⟩⟩
  unfold frkE
  rw [vl_chk h, if_neg (show ¬ (0 : Int) ≠ 0 by decide), if_neg hp, alv_eq, alv_eq]
  by_cases ha : s.1[k]?.getD false = false
  · rw [if_pos ha, if_pos ha]
  · by_cases hkj : k = j
    · rw [if_neg ha, if_neg ha, if_pos (show (k : Int) + 1 = (j : Int) + 1 by omega), if_pos hkj]
    · rw [if_neg ha, if_neg ha, if_neg (show ¬ (k : Int) + 1 = (j : Int) + 1 by omega), if_neg hkj]
theorem oFk_eq {s : FSt} (h : Vl s) {k j : Nat} (hk : k < 8) (hj : j < 8) : oFk k j s = if s.1[k]?.getD false = false then (nilF, 11) else if k = j then (nilF, 2) else if s.1[j]?.getD false = true then (nilF, 7) else ((s.1.set j true, s.2.1.set j (s.2.1[k]?.getD 0), forkC s.2.2 ((k : Int) + 1) ((j : Int) + 1)), 0) := by
  unfold oFk frkF
  rw [frk_eq h hk hj, ix_succ, ix_succ]
  by_cases ha : s.1[k]?.getD false = false
  · rw [if_pos ha, if_pos (by decide), if_pos ha]
  · by_cases hkj : k = j
    · rw [if_neg ha, if_pos hkj, if_pos (by decide), if_neg ha, if_pos hkj]
    · by_cases hb : s.1[j]?.getD false = true
      · rw [if_neg ha, if_neg hkj, if_pos hb, if_pos (by decide), if_neg ha, if_neg hkj, if_pos hb]
      · rw [if_neg ha, if_neg hkj, if_neg hb, if_neg (by decide), if_neg ha, if_neg hkj, if_neg hb]
theorem no_cells {s : FSt} (h : Vl s) {j : Nat} (hj : j < 8) (hb : ¬ s.1[j]?.getD false = true) : ∀ c ∈ s.2.2, c.1 ≠ (j : Int) + 1 := by
  intro c hc e
  obtain ⟨_, _, _, _, k5⟩ := ck1_iff.1 (h.ck c hc)
  rw [e, mpd_eq, h.dd j hj (by simpa using hb)] at k5
  simp at k5
theorem mem_forkC {cs : List Cl} (h : Srt cs) {p q : Int} (hq : ∀ c ∈ cs, c.1 ≠ q) {x : Cl} : x ∈ forkC cs p q ↔ x ∈ cs ∨ (x.1 = q ∧ (p, x.2) ∈ cs) := by
  rw [(fork_srt h hq).2.mem_iff, List.mem_append, List.mem_map]
  constructor
  · rintro (hx | ⟨d, hd, rfl⟩)
    · exact .inl hx
    · obtain ⟨d1, d2⟩ := List.mem_filter.1 hd
      have : d.1 = p := by simpa using d2
      subst this
      exact .inr ⟨rfl, d1⟩
  · rintro (hx | ⟨h1, h2⟩)
    · exact .inl hx
    · obtain ⟨x1, x2⟩ := x
      dsimp only at h1
      subst h1
      exact .inr ⟨(p, x2), List.mem_filter.2 ⟨h2, by simp⟩, rfl⟩
theorem oFk_val {s : FSt} (h : Vl s) {k j : Nat} (hk : k < 8) (hj : j < 8) (h0 : (oFk k j s).2 = 0) : Vl (oFk k j s).1 := by
  rw [oFk_eq h hk hj] at h0 ⊢
  by_cases ha : s.1[k]?.getD false = false
  case pos => rw [if_pos ha] at h0; exact absurd h0 (by decide)
  rw [if_neg ha] at h0 ⊢
  by_cases hkj : k = j
  case pos => rw [if_pos hkj] at h0; exact absurd h0 (by decide)
  rw [if_neg hkj] at h0 ⊢
  by_cases hb : s.1[j]?.getD false = true
  case pos => rw [if_pos hb] at h0; exact absurd h0 (by decide)
  rw [if_neg hb]
  have hn := no_cells h hj hb
  refine ⟨by simp [h.la], by simp [h.lm], u64_set h.u (u64_get h.u k) j, fun i hi hbi => ?_, fun c hc => ?_, (fork_srt h.sr hn).1⟩
  · dsimp only at hbi ⊢
    rw [get_set (by rw [h.la]; exact hj)] at hbi
    rw [get_set (by rw [h.lm]; exact hj)]
    by_cases hij : i = j
    · rw [if_pos hij] at hbi; cases hbi
    · rw [if_neg hij] at hbi ⊢; exact h.dd i hi hbi
  · rw [ck1_iff]
    rcases (mem_forkC h.sr hn).1 hc with hc | ⟨c1, c2⟩
    · obtain ⟨k1, k2, k3, k4, k5⟩ := ck1_iff.1 (h.ck c hc)
      obtain ⟨i, hi, hi8⟩ := prc_ix k1
      refine ⟨k1, k2, k3, k4, ?_⟩
      have hij : i ≠ j := fun e => hn c hc (by rw [hi, e])
      rw [hi, mpd_eq] at k5 ⊢
      dsimp only
      rw [get_set (by rw [h.lm]; exact hj), if_neg hij]
      exact k5
    · obtain ⟨k1, k2, k3, k4, k5⟩ := ck1_iff.1 (h.ck _ c2)
      dsimp only at k1 k2 k3 k4 k5
      refine ⟨by rw [c1]; exact ⟨by omega, by omega⟩, k2, k3, k4, ?_⟩
      rw [c1, mpd_eq]
      rw [mpd_eq] at k5
      dsimp only
      rw [get_set (by rw [h.lm]; exact hj), if_pos rfl]
      exact k5
theorem kU64 (l : List Nat) (h : l.all (fun n => decide (n < 18446744073709551616)) = true) : U64 l := fun n hn => by simpa using List.all_eq_true.1 h n hn
theorem rdV_ext {s t : FSt} (hs : Vl s) (ht : Vl t) {p q g : Int} {w : Nat} (hw : w < 8) (h : ∀ u, u ≠ 0 → ((p, g, (w : Int), u) ∈ s.2.2 ↔ (q, g, (w : Int), u) ∈ t.2.2)) : rdV s.2.2 p g w = rdV t.2.2 q g w := by
  by_cases h1 : rdV s.2.2 p g w = 0
  · by_cases h2 : rdV t.2.2 q g w = 0
    · rw [h1, h2]
    · have e := (h _ h2).2 ((rdV_iff (vl_chk ht) hw h2).1 rfl)
      rw [(rdV_iff (vl_chk hs) hw h2).2 e]
  · have e := (h _ h1).1 ((rdV_iff (vl_chk hs) hw h1).1 rfl)
    exact ((rdV_iff (vl_chk ht) hw h1).2 e).symm
end Go.Proofs.YtpocnjliigjidaaGreat
namespace Go.Proofs.YtpocnjliigjidaaGreat
open Go.RowKit
set_option maxRecDepth 100000
set_option linter.unusedSimpArgs false
set_option linter.unusedVariables false
def opO (x : Oc) (s : FSt) : FSt × Int :=
  if x.k = 1 then oMp (ix x.p) x.g x.o s
  else if x.k = 2 then oUn (ix x.p) x.g x.o s
  else if x.k = 3 then (s, if mapE s.1 s.2.1 s.2.2 ((ix x.p : Int) + 1) x.g x.w = 0 ∧ rdV s.2.2 ((ix x.p : Int) + 1) x.g x.w.toNat = x.v then 0 else 2)
  else if x.k = 4 then oWr (ix x.p) x.g x.w x.v s
  else if x.k = 5 then oFk (ix x.p) (ix x.o) s
  else if x.k = 6 then oSp (ix x.p) s
  else if x.k = 8 then (s, if mapE s.1 s.2.1 s.2.2 ((ix x.p : Int) + 1) x.g x.w = 12 then 0 else 2)
  else if x.k = 11 then (s, if s.1[ix x.p]?.getD false = true then 0 else 11)
  else oEx (ix x.p) s
structure Sy where
  m : FSt
  W : List Nat
  L : Nat
def nx (s : Sy) (x : Oc) : Option Sy :=
  if x.k = 9 then (if s.W[ix x.p]?.getD 0 = 0 ∧ s.L < x.t then some ⟨s.m, s.W.set (ix x.p) x.t, x.t⟩ else none)
  else if s.W[ix x.p]?.getD 0 = x.t ∧ (opO x s.m).2 = 0 then some ⟨(opO x s.m).1, s.W.set (ix x.p) 0, s.L⟩ else none
def twc (W : List Nat) : Bool := (List.range W.length).any fun i => decide (W[i]?.getD 0 ≠ 0) && (W.take i).contains (W[i]?.getD 0)
def sye (s : Sy) : Int := if flchk s.m.1 s.m.2.1 s.m.2.2 ≠ 0 then flchk s.m.1 s.m.2.1 s.m.2.2 else if s.W.length ≠ 8 then 3 else if mxT < s.L then 2 else if s.W.any (fun w => decide (s.L < w)) = true then 2 else if twc s.W = true then 7 else 0
structure Vs (s : Sy) : Prop where
  v : Vl s.m
  lw : s.W.length = 8
  lt : s.L ≤ mxT
  le : ∀ k : Nat, s.W[k]?.getD 0 ≤ s.L
  ne : ∀ i j : Nat, i ≠ j → s.W[i]?.getD 0 ≠ 0 → s.W[i]?.getD 0 ≠ s.W[j]?.getD 0
theorem getD_mem {l : List Nat} {k : Nat} (h : l[k]?.getD 0 ≠ 0) : k < l.length ∧ l[k]?.getD 0 ∈ l := by
  by_cases hk : k < l.length
  · rw [List.getElem?_eq_getElem hk]; exact ⟨hk, List.getElem_mem hk⟩
  · rw [List.getElem?_eq_none (by omega)] at h; exact absurd rfl h
theorem twc_false {W : List Nat} : twc W = false ↔ ∀ i j : Nat, i ≠ j → W[i]?.getD 0 ≠ 0 → W[i]?.getD 0 ≠ W[j]?.getD 0 := by
  constructor
  · intro h i j hij h0 e
    have key : ∀ a b : Nat, a < b → W[a]?.getD 0 ≠ 0 → W[a]?.getD 0 = W[b]?.getD 0 → False := by
      intro a b hab ha he
      have hb := getD_mem (he ▸ ha)
      have : twc W = true := by
        unfold twc
        refine List.any_eq_true.2 ⟨b, by simpa using hb.1, ?_⟩
        rw [← he]
        simp only [Bool.and_eq_true, decide_eq_true_eq, List.contains_iff_mem]
        refine ⟨ha, ?_⟩
        have hal := (getD_mem ha).1
        rw [List.getElem?_eq_getElem hal, Option.getD_some, List.mem_take_iff_getElem]
        exact ⟨a, by omega, rfl⟩
      rw [h] at this; cases this
    rcases Nat.lt_or_gt_of_ne hij with hlt | hlt
    · exact key i j hlt h0 e
    · exact key j i hlt (e ▸ h0) e.symm
  · intro h
    cases ht : twc W with
    | false => rfl
    | true =>
      exfalso
      unfold twc at ht
      obtain ⟨i, hi, hb⟩ := List.any_eq_true.1 ht
      simp only [Bool.and_eq_true, decide_eq_true_eq, List.contains_iff_mem] at hb
      obtain ⟨h0, hm⟩ := hb
      obtain ⟨j, hj, e⟩ := List.mem_take_iff_getElem.1 hm
      refine h i j (by omega) h0 ?_
      rw [List.getElem?_eq_getElem (show j < W.length by omega)]
      exact e.symm
theorem sye_vs {s : Sy} (hu : U64 s.m.2.1) (h : sye s = 0) : Vs s := by
  unfold sye at h
  by_cases h1 : flchk s.m.1 s.m.2.1 s.m.2.2 = 0
  case neg => rw [if_pos h1] at h; exact absurd h h1
  rw [if_neg (fun hh => hh h1)] at h
  by_cases h2 : s.W.length = 8
  case neg => rw [if_pos h2] at h; cases h
  rw [if_neg (fun hh => hh h2)] at h
  by_cases h3 : mxT < s.L
  case pos => rw [if_pos h3] at h; cases h
  rw [if_neg h3] at h
  by_cases h4 : s.W.any (fun w => decide (s.L < w)) = true
  case pos => rw [if_pos h4] at h; cases h
  rw [if_neg h4] at h
  by_cases h5 : twc s.W = true
  case pos => rw [if_pos h5] at h; cases h
  refine ⟨chk_vl hu h1, h2, by omega, fun k => ?_, twc_false.1 (by simpa using h5)⟩
  by_cases hk : k < s.W.length
  · rw [List.getElem?_eq_getElem hk, Option.getD_some]
    refine Nat.le_of_not_lt fun hlt => h4 (List.any_eq_true.2 ⟨_, List.getElem_mem hk, by simpa using hlt⟩)
  · rw [List.getElem?_eq_none (by omega)]; exact Nat.zero_le _
theorem ix_lt {p : Int} (h1 : 1 ≤ p) (h2 : p ≤ 8) : ix p < 8 ∧ (ix p : Int) + 1 = p := by unfold ix; omega
theorem opO_loc {x : Oc} (h : ocE x = 0) (h5 : x.k ≠ 5) : LocF (opO x) (ix x.p) := by
  obtain ⟨k1, k2, p1, p2, hf, hu⟩ := oc_kind h
  obtain ⟨hk, hp⟩ := ix_lt p1 p2
  have same : ∀ {c : FSt → Prop} [∀ s, Decidable (c s)] {e : Int}, (e = 11 ∨ e = 2) → (∀ {s t}, Vl s → Vl t → vw s (ix x.p) = vw t (ix x.p) → (c s ↔ c t)) → LocF (fun s => (s, if c s then 0 else e)) (ix x.p) := by
    intro c _ e he hc
    refine ⟨fun hv _ => hv, fun _ _ _ _ _ => rfl, fun {s t} hs ht hv => ⟨?_, fun _ => hv⟩, fun {s} _ => ?_⟩
    · dsimp only
      by_cases h1 : c s
      · rw [if_pos h1, if_pos ((hc hs ht hv).1 h1)]
      · rw [if_neg h1, if_neg (fun h2 => h1 ((hc hs ht hv).2 h2))]
    · dsimp only
      split
      · exact .inl rfl
      · rcases he with rfl | rfl <;> simp
  have hmap : ∀ {s t : FSt}, Vl s → Vl t → vw s (ix x.p) = vw t (ix x.p) → mapE s.1 s.2.1 s.2.2 ((ix x.p : Int) + 1) x.g x.w = mapE t.1 t.2.1 t.2.2 ((ix x.p : Int) + 1) x.g x.w := by
    intro s t hs ht hv
    obtain ⟨v1, v2, v3⟩ := vw_iff.1 hv
    rw [mpE_eq hs hk, mpE_eq ht hk, v1, v2]
  by_cases c1 : x.k = 1
  · have e : opO x = oMp (ix x.p) x.g x.o := by funext s; unfold opO; rw [if_pos c1]
    rw [e]; exact oMp_loc hk _ _
  by_cases c2 : x.k = 2
  · have e : opO x = oUn (ix x.p) x.g x.o := by funext s; unfold opO; rw [if_neg c1, if_pos c2]
    rw [e]; exact oUn_loc hk _ _
  by_cases c3 : x.k = 3
  · have e : opO x = fun s => (s, if mapE s.1 s.2.1 s.2.2 ((ix x.p : Int) + 1) x.g x.w = 0 ∧ rdV s.2.2 ((ix x.p : Int) + 1) x.g x.w.toNat = x.v then 0 else 2) := by funext s; unfold opO; rw [if_neg c1, if_neg c2, if_pos c3]
    rw [e]
    have hw8 : 0 ≤ x.w ∧ x.w < 8 := by
      unfold fitO at hf
      rw [if_neg (by omega), if_pos (by omega)] at hf
      have := of_decide_eq_true hf
      omega
    refine same (.inr rfl) fun {s t} hs ht hv => ?_
    rw [hmap hs ht hv]
    have hr : rdV s.2.2 ((ix x.p : Int) + 1) x.g x.w.toNat = rdV t.2.2 ((ix x.p : Int) + 1) x.g x.w.toNat := rdV_ext hs ht (by omega) fun u _ => zc_mem (vw_iff.1 hv).2.2 _
    rw [hr]
  by_cases c4 : x.k = 4
  · have e : opO x = oWr (ix x.p) x.g x.w x.v := by funext s; unfold opO; rw [if_neg c1, if_neg c2, if_neg c3, if_pos c4]
    rw [e]; exact oWr_loc hk _ _ _
  by_cases c6 : x.k = 6
  · have e : opO x = oSp (ix x.p) := by funext s; unfold opO; rw [if_neg c1, if_neg c2, if_neg c3, if_neg c4, if_neg h5, if_pos c6]
    rw [e]; exact oSp_loc hk
  by_cases c8 : x.k = 8
  · have e : opO x = fun s => (s, if mapE s.1 s.2.1 s.2.2 ((ix x.p : Int) + 1) x.g x.w = 12 then 0 else 2) := by funext s; unfold opO; rw [if_neg c1, if_neg c2, if_neg c3, if_neg c4, if_neg h5, if_neg c6, if_pos c8]
    rw [e]
    exact same (.inr rfl) fun {s t} hs ht hv => by rw [hmap hs ht hv]
  by_cases c11 : x.k = 11
  · have e : opO x = fun s => (s, if s.1[ix x.p]?.getD false = true then 0 else 11) := by funext s; unfold opO; rw [if_neg c1, if_neg c2, if_neg c3, if_neg c4, if_neg h5, if_neg c6, if_neg c8, if_pos c11]
    rw [e]
    exact same (.inl rfl) fun {s t} hs ht hv => by rw [(vw_iff.1 hv).1]
  have e : opO x = oEx (ix x.p) := by funext s; unfold opO; rw [if_neg c1, if_neg c2, if_neg c3, if_neg c4, if_neg h5, if_neg c6, if_neg c8, if_neg c11]
  rw [e]; exact oEx_loc hk
theorem opO_val {x : Oc} (h : ocE x = 0) {s : FSt} (hs : Vl s) (h0 : (opO x s).2 = 0) : Vl (opO x s).1 := by
  by_cases h5 : x.k = 5
  · obtain ⟨k1, k2, p1, p2, hf, hu⟩ := oc_kind h
    have e : opO x s = oFk (ix x.p) (ix x.o) s := by unfold opO; rw [if_neg (by omega), if_neg (by omega), if_neg (by omega), if_neg (by omega), if_pos h5]
    unfold fitO at hf
    rw [if_neg (by omega), if_neg (by omega), if_pos h5] at hf
    have ho := of_decide_eq_true hf
    rw [e] at h0 ⊢
    exact oFk_val hs (ix_lt p1 p2).1 (ix_lt ho.1 ho.2.1).1 h0
  · exact (opO_loc h h5).val hs h0
theorem nx_vs {s s' : Sy} {x : Oc} (hs : Vs s) (h : ocE x = 0) (hn : nx s x = some s') : Vs s' := by
  obtain ⟨k1, k2, p1, p2, hf, hu⟩ := oc_kind h
  obtain ⟨hk, hp⟩ := ix_lt p1 p2
  have hlw : ix x.p < s.W.length := by rw [hs.lw]; exact hk
  unfold nx at hn
  by_cases h9 : x.k = 9
  · rw [if_pos h9] at hn
    by_cases hc : s.W[ix x.p]?.getD 0 = 0 ∧ s.L < x.t
    case neg => rw [if_neg hc] at hn; cases hn
    rw [if_pos hc] at hn
    injection hn with hn
    subst hn
    unfold fitO at hf
    rw [if_neg (by omega), if_neg (by omega), if_neg (by omega), if_pos (by omega)] at hf
    have ht := of_decide_eq_true hf
    refine ⟨hs.v, by simp [hs.lw], ht.2, fun k => ?_, fun i j hij h0 => ?_⟩
    · dsimp only
      rw [get_set hlw]
      split
      · omega
      · have := hs.le k; omega
    · dsimp only at h0 ⊢
      rw [get_set hlw] at h0 ⊢
      rw [get_set hlw]
      have li := hs.le i
      have lj := hs.le j
      by_cases hi : i = ix x.p
      · rw [if_pos hi, if_neg (by omega)]; omega
      · rw [if_neg hi] at h0 ⊢
        by_cases hj : j = ix x.p
        · rw [if_pos hj]; omega
        · rw [if_neg hj]; exact hs.ne i j hij h0
  · rw [if_neg h9] at hn
    by_cases hc : s.W[ix x.p]?.getD 0 = x.t ∧ (opO x s.m).2 = 0
    case neg => rw [if_neg hc] at hn; cases hn
    rw [if_pos hc] at hn
    injection hn with hn
    subst hn
    refine ⟨opO_val h hs.v hc.2, by simp [hs.lw], hs.lt, fun k => ?_, fun i j hij h0 => ?_⟩
    · dsimp only
      rw [get_set hlw]
      split
      · omega
      · exact hs.le k
    · dsimp only at h0 ⊢
      rw [get_set hlw] at h0 ⊢
      rw [get_set hlw]
      by_cases hi : i = ix x.p
      · rw [if_pos hi] at h0; exact absurd rfl h0
      · rw [if_neg hi] at h0 ⊢
        by_cases hj : j = ix x.p
        · rw [if_pos hj]; exact h0
        · rw [if_neg hj]; exact hs.ne i j hij h0
def run : Sy → List Oc → Option Sy
  | s, [] => some s
  | s, x :: l => (nx s x).bind fun s' => run s' l
def wk : Sy → List Oc → Nat × Sy
  | s, [] => (0, s)
  | s, x :: l => match nx s x with
    | none => (0, s)
    | some s' => ((wk s' l).1 + 1, (wk s' l).2)
theorem run_app : ∀ (a b : List Oc) (s : Sy), run s (a ++ b) = (run s a).bind fun s' => run s' b
  | [], b, s => rfl
  | x :: a, b, s => by
    rw [List.cons_append, run, run]
    cases nx s x with
    | none => rfl
    | some s' => exact run_app a b s'
theorem run_one (s : Sy) (x : Oc) : run s [x] = nx s x := by rw [run]; cases nx s x <;> rfl
theorem run_vs : ∀ {l : List Oc} {s s' : Sy}, Vs s → (∀ x ∈ l, ocE x = 0) → run s l = some s' → Vs s'
  | [], s, s', hs, _, h => by injection h with h; exact h ▸ hs
  | x :: l, s, s', hs, hl, h => by
    rw [run] at h
    cases hn : nx s x with
    | none => rw [hn] at h; cases h
    | some t => rw [hn] at h; exact run_vs (nx_vs hs (hl x (by simp)) hn) (fun y hy => hl y (by simp [hy])) h
theorem wk_run : ∀ {l : List Oc} {s s' : Sy}, run s l = some s' → wk s l = (l.length, s')
  | [], s, s', h => by injection h with h; rw [h]; rfl
  | x :: l, s, s', h => by
    rw [run] at h
    cases hn : nx s x with
    | none => rw [hn] at h; cases h
    | some t => rw [hn] at h; rw [wk, hn]; dsimp only; rw [wk_run h]; rfl
theorem wk_stop {l : List Oc} {s t : Sy} {i : Nat} (hi : i < l.length) (hr : run s (l.take i) = some t) (hn : nx t l[i] = none) : wk s l = (i, t) := by
  induction i generalizing s l with
  | zero =>
    cases l with
    | nil => simp at hi
    | cons x l => injection hr with hr; subst hr; rw [wk]; simp only [List.getElem_cons_zero] at hn; rw [hn]
  | succ i ih =>
    cases l with
    | nil => simp at hi
    | cons x l =>
      rw [List.take_succ_cons, run] at hr
      cases hx : nx s x with
      | none => rw [hx] at hr; cases hr
      | some u =>
        rw [hx] at hr
        rw [wk, hx]
        dsimp only
        rw [ih (by simpa using hi) hr (by simpa using hn)]
theorem run_step {l : List Oc} {s t u : Sy} {i : Nat} (hi : i < l.length) (hr : run s (l.take i) = some t) (hn : nx t l[i] = some u) : run s (l.take (i + 1)) = some u := by
  rw [take_get l i hi, run_app, hr]
  show run t [l[i]] = some u
  rw [run_one, hn]
def sy0 : Sy := ⟨(al0, mp0, []), mp0, 0⟩
theorem sy0_vs : Vs sy0 := sye_vs (kU64 _ rfl) (by kernel_rfl)
end Go.Proofs.YtpocnjliigjidaaGreat
