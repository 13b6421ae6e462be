import Derived.Test.YtdfolpfibhfmlaaFlAM

/- A flat memory: valid memories, what a process sees, and what an operation of another leaves alone. -/
namespace Go.Proofs.Ytdfolpfibhfmlaa
open Go.RowKit
set_option maxRecDepth 100000
set_option linter.unusedSimpArgs false
set_option linter.unusedVariables false

/-- a valid memory -/
structure Vl (s : FSt) : Prop where
  la : s.1.length = 8
  lm : s.2.1.length = 8
  u : U64 s.2.1
  dd : ∀ k, k < 8 → s.1[k]?.getD false = false → s.2.1[k]?.getD 0 = 0
  ck : ∀ c ∈ s.2.2, ck1 s.2.1 c = 0
  sr : Srt s.2.2
/-- what a process sees of it -/
def vw (s : FSt) (k : Nat) : Bool × Nat × List Cl := (s.1[k]?.getD false, s.2.1[k]?.getD 0, zC s.2.2 ((k : Int) + 1))
theorem ckGo_of {mp : List Nat} : ∀ (cs : List Cl) (b : Option Cl), (∀ c ∈ cs, ck1 mp c = 0) → Srt cs → (∀ x y, b = some x → y ∈ cs → Bef x y) → ckGo mp b cs = 0
  | [], b, _, _, _ => by cases b <;> rfl
  | c :: r, b, h, hs, hb => by
    obtain ⟨s1, s2⟩ := List.pairwise_cons.1 hs
    have ih := ckGo_of r (some c) (fun d hd => h d (by simp [hd])) s2 (fun x y e hy => by injection e with e; subst e; exact s1 y hy)
    have h0 := h c (by simp)
    cases b with
    | none => rw [ckGo, if_neg (by simpa using h0), ih]
    | some x => rw [ckGo, if_neg (by simpa using h0), if_pos (hb x c rfl (by simp)), ih]
theorem vl_chk {s : FSt} (h : Vl s) : flchk s.1 s.2.1 s.2.2 = 0 := by
  unfold flchk
  rw [if_neg (by have := h.la; have := h.lm; omega), if_neg, ckGo_of _ _ h.ck h.sr (fun _ _ e => by cases e)]
  intro hd
  unfold deadm at hd
  obtain ⟨x, hx, hb⟩ := List.any_eq_true.1 hd
  obtain ⟨i, hi, he⟩ := List.mem_iff_getElem.1 hx
  simp only [List.length_zip, h.la, h.lm, Nat.min_self] at hi
  have ha : i < s.1.length := by rw [h.la]; exact hi
  have hm : i < s.2.1.length := by rw [h.lm]; exact hi
  rw [List.getElem_zip] at he
  subst he
  simp only [Bool.and_eq_true, Bool.not_eq_true', decide_eq_true_eq] at hb
  have := h.dd i hi (by simp [ha, hb.1])
  rw [List.getElem?_eq_getElem hm] at this
  exact hb.2 (by simpa using this)
theorem chk_vl {s : FSt} (hu : U64 s.2.1) (h : flchk s.1 s.2.1 s.2.2 = 0) : Vl s := by
  obtain ⟨la, lm⟩ := flchk_len h
  refine ⟨la, lm, hu, fun k hk ha => ?_, flchk_pgs h, flchk_srt h⟩
  rcases Nat.eq_zero_or_pos (s.2.1[k]?.getD 0) with h0 | h0
  · exact h0
  · exfalso
    have hka : k < s.1.length := by omega
    have hkm : k < s.2.1.length := by omega
    rw [List.getElem?_eq_getElem hka] at ha
    rw [List.getElem?_eq_getElem hkm] at h0
    simp only [Option.getD_some] at ha h0
    have hd : deadm s.1 s.2.1 = true := by
      unfold deadm
      refine List.any_eq_true.2 ⟨(s.1[k], s.2.1[k]), List.mem_iff_getElem.2 ⟨k, by simp; omega, by simp⟩, ?_⟩
      rw [ha]
      simp only [Bool.not_false, Bool.true_and, decide_eq_true_eq]
      omega
    unfold flchk at h
    rw [if_neg (by omega), if_pos hd] at h
    cases h
theorem get_set {α : Type} {l : List α} {k : Nat} (hk : k < l.length) (x d : α) (j : Nat) : (l.set k x)[j]?.getD d = if j = k then x else l[j]?.getD d := by
  rw [List.getElem?_set]
  by_cases h : j = k
  · subst h; simp [hk]
  · rw [if_neg (fun e => h e.symm), if_neg h]
theorem ck1_iff {mp : List Nat} {c : Cl} : ck1 mp c = 0 ↔ Prc c.1 ∧ Pgs c.2.1 ∧ Wrd c.2.2.1 ∧ c.2.2.2 ≠ 0 ∧ mpd mp c.1 c.2.1 = true := by
  constructor
  · exact ck1_zero
  · rintro ⟨h1, h2, h3, h4, h5⟩
    unfold ck1
    rw [if_neg (fun h => h ⟨h1, h2, h3⟩), if_neg h4, h5, if_neg (by decide)]
theorem mpd_eq (mp : List Nat) (k : Nat) (g : Int) : mpd mp ((k : Int) + 1) g = (mp[k]?.getD 0).testBit g.toNat := by
  unfold mpd
  rw [show ((k : Int) + 1 - 1).toNat = k by omega]
theorem alv_eq (al : List Bool) (k : Nat) : alv al ((k : Int) + 1) = al[k]?.getD false := by
  unfold alv
  rw [show ((k : Int) + 1 - 1).toNat = k by omega]
theorem zc_ext {A B : List Cl} {p : Int} (hA : Srt A) (hB : Srt B) (h : ∀ x : Int × Int × Nat, (p, x) ∈ A ↔ (p, x) ∈ B) : zC A p = zC B p := srt_ext (zC_srt hA p) (zC_srt hB p) fun c => by rw [mem_zC, mem_zC, h c.2]
theorem zc_mem {A B : List Cl} {p : Int} (h : zC A p = zC B p) (x : Int × Int × Nat) : (p, x) ∈ A ↔ (p, x) ∈ B := by
  have e : ((0, x) : Cl) ∈ zC A p ↔ ((0, x) : Cl) ∈ zC B p := by rw [h]
  rw [mem_zC, mem_zC] at e
  simpa using e
theorem vl_ext {s t : FSt} (hs : Vl s) (ht : Vl t) (h : ∀ k, k < 8 → vw s k = vw t k) : s = t := by
  obtain ⟨a, m, c⟩ := s
  obtain ⟨a', m', c'⟩ := t
  have la := hs.la; have la' := ht.la; have lm := hs.lm; have lm' := ht.lm
  dsimp only at la la' lm lm'
  have e1 : a = a' := List.ext_getElem (by omega) fun i h1 h2 => by
    have := congrArg (·.1) (h i (by omega))
    simpa [vw, h1, h2] using this
  have e2 : m = m' := List.ext_getElem (by omega) fun i h1 h2 => by
    have := congrArg (·.2.1) (h i (by omega))
    simpa [vw, h1, h2] using this
  have one : ∀ {s t : FSt}, Vl s → (∀ k, k < 8 → vw s k = vw t k) → ∀ x ∈ s.2.2, x ∈ t.2.2 := fun {s t} hs h x hx => by
    obtain ⟨p1, _⟩ := ck1_iff.1 (hs.ck x hx)
    obtain ⟨k, hk, hk8⟩ := prc_ix p1
    have := congrArg (·.2.2) (h k hk8)
    obtain ⟨x1, x2⟩ := x
    dsimp only at hk
    subst hk
    exact (zc_mem this x2).1 hx
  have e3 : c = c' := srt_ext hs.sr ht.sr fun x => ⟨one hs h x, one ht (fun k hk => (h k hk).symm) x⟩
  rw [e1, e2, e3]
theorem mem_woC {cs : List Cl} {p f t : Int} {x : Cl} : x ∈ woC cs p f t ↔ x ∈ cs ∧ ¬ (x.1 = p ∧ f ≤ x.2.1 ∧ x.2.1 ≤ t) := by
  unfold woC inR
  rw [List.mem_filter]
  simp only [Bool.not_eq_true', Bool.and_eq_false_iff, decide_eq_false_iff_not]
  exact and_congr_right fun _ => by omega
theorem woC_srt' {cs : List Cl} (h : Srt cs) (p f t : Int) : Srt (woC cs p f t) := h.sublist List.filter_sublist
theorem mem_wrC {cs : List Cl} {c x : Cl} : x ∈ wrC cs c ↔ (x ∈ cs ∧ ck3 x ≠ ck3 c) ∨ (x = c ∧ c.2.2.2 ≠ 0) := by
  have hr : ∀ x, x ∈ rmK cs (ck3 c) ↔ x ∈ cs ∧ ck3 x ≠ ck3 c := fun x => by unfold rmK; rw [List.mem_filter]; simp
  unfold wrC
  by_cases h : c.2.2.2 = 0
  · rw [if_pos h, hr]; simp [h]
  · rw [if_neg h, (putC_perm _ _).mem_iff, List.mem_cons, hr]
    constructor
    · rintro (e | e)
      · exact .inr ⟨e, h⟩
      · exact .inl e
    · rintro (e | e)
      · exact .inr e
      · exact .inl e.1
theorem lvs_eq {s : FSt} (h : Vl s) {k : Nat} (hk : k < 8) : lvsE s.1 s.2.1 s.2.2 [(k : Int) + 1] = if s.1[k]?.getD false = true then 0 else 11 := by
  unfold lvsE
  rw [vl_chk h, if_neg (by decide)]
  simp only [List.any_cons, List.any_nil, Bool.or_false, alv_eq]
  rw [decide_eq_true (show Prc ((k : Int) + 1) from ⟨by omega, by omega⟩), if_neg (by decide)]
  cases s.1[k]?.getD false <;> rfl
/-- an operation of one process -/
structure LocF (F : FSt → FSt × Int) (k : Nat) : Prop where
  val : ∀ {s}, Vl s → (F s).2 = 0 → Vl (F s).1
  oth : ∀ {s}, Vl s → (F s).2 = 0 → ∀ j, j < 8 → j ≠ k → vw (F s).1 j = vw s j
  loc : ∀ {s t}, Vl s → Vl t → vw s k = vw t k → (F s).2 = (F t).2 ∧ ((F s).2 = 0 → vw (F s).1 k = vw (F t).1 k)
  err : ∀ {s}, Vl s → (F s).2 = 0 ∨ (F s).2 = 7 ∨ (F s).2 = 11 ∨ (F s).2 = 6 ∨ (F s).2 = 12 ∨ (F s).2 = 2
/-- the state behind an operation that may have failed -/
def aft (F : FSt → FSt × Int) (s : FSt) : FSt := if (F s).2 = 0 then (F s).1 else s
theorem aft_val {F : FSt → FSt × Int} {k : Nat} (hF : LocF F k) {s : FSt} (h : Vl s) : Vl (aft F s) := by
  unfold aft
  split
  · rename_i h0; exact hF.val h h0
  · exact h
theorem aft_oth {F : FSt → FSt × Int} {k : Nat} (hF : LocF F k) {s : FSt} (h : Vl s) {j : Nat} (hj : j < 8) (hjk : j ≠ k) : vw (aft F s) j = vw s j := by
  unfold aft
  split
  · rename_i h0; exact hF.oth h h0 j hj hjk
  · rfl
theorem aft_loc {F : FSt → FSt × Int} {k : Nat} (hF : LocF F k) {s t : FSt} (hs : Vl s) (ht : Vl t) (h : vw s k = vw t k) : vw (aft F s) k = vw (aft F t) k := by
  obtain ⟨h1, h2⟩ := hF.loc hs ht h
  unfold aft
  by_cases h0 : (F s).2 = 0
  · rw [if_pos h0, if_pos (h1 ▸ h0)]; exact h2 h0
  · rw [if_neg h0, if_neg (h1 ▸ h0)]; exact h
/-- operations of two processes, one after the other, in either order -/
theorem aft_comm {F G : FSt → FSt × Int} {k j : Nat} (hF : LocF F k) (hG : LocF G j) (hk : k < 8) (hj : j < 8) (hkj : k ≠ j) {s : FSt} (h : Vl s) : aft G (aft F s) = aft F (aft G s) := by
  refine vl_ext (aft_val hG (aft_val hF h)) (aft_val hF (aft_val hG h)) fun i hi => ?_
  by_cases hik : i = k
  · subst hik
    rw [aft_oth hG (aft_val hF h) hi hkj]
    exact aft_loc hF h (aft_val hG h) (aft_oth hG h hi hkj).symm
  · rw [aft_oth hF (aft_val hG h) hi hik]
    by_cases hij : i = j
    · subst hij
      exact aft_loc hG (aft_val hF h) h (aft_oth hF h hi hik)
    · rw [aft_oth hG (aft_val hF h) hi hij, aft_oth hF h hi hik, aft_oth hG h hi hij]
end Go.Proofs.Ytdfolpfibhfmlaa

/- A flat memory: each operation of a process is its own affair. -/
namespace Go.Proofs.Ytdfolpfibhfmlaa
open Go.RowKit
set_option maxRecDepth 100000
set_option linter.unusedSimpArgs false
set_option linter.unusedVariables false

def oSp (k : Nat) (s : FSt) : FSt × Int := spnF s.1 s.2.1 s.2.2 ((k : Int) + 1)
def oEx (k : Nat) (s : FSt) : FSt × Int := extF s.1 s.2.1 s.2.2 ((k : Int) + 1)
def oMp (k : Nat) (f t : Int) (s : FSt) : FSt × Int := mapF s.1 s.2.1 s.2.2 ((k : Int) + 1) f t
def oUn (k : Nat) (f t : Int) (s : FSt) : FSt × Int := unmF s.1 s.2.1 s.2.2 ((k : Int) + 1) f t
def oWr (k : Nat) (g w : Int) (v : Nat) (s : FSt) : FSt × Int := wrtF s.1 s.2.1 s.2.2 ((k : Int) + 1) g w v
theorem vw_iff {s t : FSt} {j i : Nat} : vw s j = vw t i ↔ s.1[j]?.getD false = t.1[i]?.getD false ∧ s.2.1[j]?.getD 0 = t.2.1[i]?.getD 0 ∧ zC s.2.2 ((j : Int) + 1) = zC t.2.2 ((i : Int) + 1) := by
  unfold vw
  simp only [Prod.mk.injEq]
theorem u64_set {m : List Nat} (h : U64 m) {x : Nat} (hx : x < 18446744073709551616) (k : Nat) : U64 (m.set k x) := fun y hy => by
  rcases List.mem_or_eq_of_mem_set hy with hy | rfl
  · exact h y hy
  · exact hx
theorem u64_get {m : List Nat} (h : U64 m) (k : Nat) : m[k]?.getD 0 < 18446744073709551616 := by
  by_cases hk : k < m.length
  · rw [List.getElem?_eq_getElem hk]; exact h _ (List.getElem_mem hk)
  · rw [List.getElem?_eq_none (by omega)]; exact (by decide)
theorem oSp_eq {s : FSt} (h : Vl s) {k : Nat} (hk : k < 8) : oSp k s = if s.1[k]?.getD false = true then (nilF, 7) else ((s.1.set k true, s.2.1, s.2.2), 0) := by
  unfold oSp spnF
  rw [ask_zero (vl_chk h) hk, if_neg (by decide), alv_eq, ix_succ]
theorem oSp_loc {k : Nat} (hk : k < 8) : LocF (oSp k) k where
  val {s} h h0 := by
    rw [oSp_eq h hk] at h0 ⊢
    by_cases ha : s.1[k]?.getD false = true
    · rw [if_pos ha] at h0; exact absurd h0 (by decide)
    · rw [if_neg ha]
      refine ⟨by simp [h.la], h.lm, h.u, fun j hj hb => ?_, h.ck, h.sr⟩
      dsimp only at hb
      rw [get_set (by rw [h.la]; exact hk)] at hb
      by_cases hjk : j = k
      · rw [if_pos hjk] at hb; cases hb
      · rw [if_neg hjk] at hb; exact h.dd j hj hb
  oth {s} h h0 j hj hjk := by
    rw [oSp_eq h hk] at h0 ⊢
    by_cases ha : s.1[k]?.getD false = true
    · rw [if_pos ha] at h0; exact absurd h0 (by decide)
    · rw [if_neg ha, vw_iff]
      dsimp only
      rw [get_set (by rw [h.la]; exact hk), if_neg hjk]
      exact ⟨rfl, rfl, rfl⟩
  loc {s t} hs ht hv := by
    obtain ⟨v1, v2, v3⟩ := vw_iff.1 hv
    rw [oSp_eq hs hk, oSp_eq ht hk, v1]
    by_cases ha : t.1[k]?.getD false = true
    · rw [if_pos ha, if_pos ha]; exact ⟨rfl, fun h => absurd h (by decide)⟩
    · rw [if_neg ha, if_neg ha]
      refine ⟨rfl, fun _ => vw_iff.2 ?_⟩
      dsimp only
      rw [get_set (by rw [hs.la]; exact hk), get_set (by rw [ht.la]; exact hk), if_pos rfl, if_pos rfl]
      exact ⟨rfl, v2, v3⟩
  err {s} h := by
    rw [oSp_eq h hk]
    split <;> simp
theorem oEx_eq {s : FSt} (h : Vl s) {k : Nat} (hk : k < 8) : oEx k s = if s.1[k]?.getD false = true then ((s.1.set k false, s.2.1.set k 0, woC s.2.2 ((k : Int) + 1) 0 63), 0) else (nilF, 11) := by
  unfold oEx extF
  rw [lvs_eq h hk, ix_succ]
  by_cases ha : s.1[k]?.getD false = true
  · rw [if_pos ha, if_pos ha, if_neg (by decide)]
  · rw [if_neg ha, if_neg ha, if_pos (by decide)]
theorem oEx_loc {k : Nat} (hk : k < 8) : LocF (oEx k) k where
  val {s} h h0 := by
    rw [oEx_eq h hk] at h0 ⊢
    by_cases ha : s.1[k]?.getD false = true
    case neg => rw [if_neg ha] at h0; exact absurd h0 (by decide)
    rw [if_pos ha]
    refine ⟨by simp [h.la], by simp [h.lm], u64_set h.u (by decide) k, fun j hj hb => ?_, fun c hc => ?_, woC_srt' h.sr _ _ _⟩
    · dsimp only at hb ⊢
      rw [get_set (by rw [h.la]; exact hk)] at hb
      rw [get_set (by rw [h.lm]; exact hk)]
      by_cases hjk : j = k
      · rw [if_pos hjk]
      · rw [if_neg hjk] at hb ⊢; exact h.dd j hj hb
    · obtain ⟨c1, c2⟩ := mem_woC.1 hc
      obtain ⟨k1, k2, k3, k4, k5⟩ := ck1_iff.1 (h.ck c c1)
      obtain ⟨i, hi, hi8⟩ := prc_ix k1
      rw [ck1_iff]
      refine ⟨k1, k2, k3, k4, ?_⟩
      rw [hi, mpd_eq] at k5 ⊢
      dsimp only
      have hik : i ≠ k := fun e => c2 ⟨by rw [hi, e], k2.1, by have := k2.2; omega⟩
      rw [get_set (by rw [h.lm]; exact hk), if_neg hik]
      exact k5
  oth {s} h h0 j hj hjk := by
    rw [oEx_eq h hk] at h0 ⊢
    by_cases ha : s.1[k]?.getD false = true
    case neg => rw [if_neg ha] at h0; exact absurd h0 (by decide)
    rw [if_pos ha, vw_iff]
    dsimp only
    rw [get_set (by rw [h.la]; exact hk), if_neg hjk, get_set (by rw [h.lm]; exact hk), if_neg hjk]
    refine ⟨rfl, rfl, zc_ext (woC_srt' h.sr _ _ _) h.sr fun x => ?_⟩
    rw [mem_woC]
    exact ⟨fun h => h.1, fun h => ⟨h, fun hh => by have := hh.1; dsimp only at this; omega⟩⟩
  loc {s t} hs ht hv := by
    obtain ⟨v1, v2, v3⟩ := vw_iff.1 hv
    rw [oEx_eq hs hk, oEx_eq ht hk, v1]
    by_cases ha : t.1[k]?.getD false = true
    case neg => rw [if_neg ha, if_neg ha]; exact ⟨rfl, fun h => absurd h (by decide)⟩
    rw [if_pos ha, if_pos ha]
    refine ⟨rfl, fun _ => vw_iff.2 ?_⟩
    dsimp only
    rw [get_set (by rw [hs.la]; exact hk), get_set (by rw [ht.la]; exact hk), if_pos rfl, if_pos rfl, get_set (by rw [hs.lm]; exact hk), get_set (by rw [ht.lm]; exact hk), if_pos rfl, if_pos rfl]
    exact ⟨rfl, rfl, zc_ext (woC_srt' hs.sr _ _ _) (woC_srt' ht.sr _ _ _) fun x => by rw [mem_woC, mem_woC, zc_mem v3]⟩
  err {s} h := by
    rw [oEx_eq h hk]
    split <;> simp
theorem rng_eq {s : FSt} (h : Vl s) {k : Nat} (hk : k < 8) (f t : Int) : rngE s.1 s.2.1 s.2.2 ((k : Int) + 1) f t = if s.1[k]?.getD false = true then (if f < 0 ∨ t < f ∨ 64 ≤ t then 2 else 0) else 11 := by
  unfold rngE
  rw [lvs_eq h hk]
  by_cases ha : s.1[k]?.getD false = true
  · rw [if_pos ha, if_neg (by decide), if_pos ha]
  · rw [if_neg ha, if_pos (by decide), if_neg ha]
theorem mpE_eq {s : FSt} (h : Vl s) {k : Nat} (hk : k < 8) (g w : Int) : mapE s.1 s.2.1 s.2.2 ((k : Int) + 1) g w = if s.1[k]?.getD false = true then (if ¬ (Pgs g ∧ Wrd w) then 2 else if (s.2.1[k]?.getD 0).testBit g.toNat = false then 12 else 0) else 11 := by
  unfold mapE
  rw [lvs_eq h hk, mpd_eq]
  by_cases ha : s.1[k]?.getD false = true
  · rw [if_pos ha, if_neg (by decide), if_pos ha]
  · rw [if_neg ha, if_pos (by decide), if_neg ha]
theorem oMp_eq {s : FSt} (h : Vl s) {k : Nat} (hk : k < 8) (f t : Int) : oMp k f t s = if s.1[k]?.getD false = true then (if f < 0 ∨ t < f ∨ 64 ≤ t then (nilF, 2) else if hasB (s.2.1[k]?.getD 0) f.toNat t.toNat = true then (nilF, 7) else ((s.1, s.2.1.set k (s.2.1[k]?.getD 0 ||| pgM f.toNat t.toNat), s.2.2), 0)) else (nilF, 11) := by
  unfold oMp mapF
  rw [rng_eq h hk, ix_succ]
  by_cases ha : s.1[k]?.getD false = true
  · by_cases hb : f < 0 ∨ t < f ∨ 64 ≤ t
    · rw [if_pos ha, if_pos hb, if_pos (by decide), if_pos ha, if_pos hb]
    · rw [if_pos ha, if_neg hb, if_neg (by decide), if_pos ha, if_neg hb]
  · rw [if_neg ha, if_pos (by decide), if_neg ha]
theorem oMp_loc {k : Nat} (hk : k < 8) (f t : Int) : LocF (oMp k f t) k where
  val {s} h h0 := by
    rw [oMp_eq h hk] at h0 ⊢
    by_cases ha : s.1[k]?.getD false = true
    case neg => rw [if_neg ha] at h0; exact absurd h0 (by decide)
    rw [if_pos ha] at h0 ⊢
    by_cases hb : f < 0 ∨ t < f ∨ 64 ≤ t
    case pos => rw [if_pos hb] at h0; exact absurd h0 (by decide)
    rw [if_neg hb] at h0 ⊢
    by_cases hc : hasB (s.2.1[k]?.getD 0) f.toNat t.toNat = true
    case pos => rw [if_pos hc] at h0; exact absurd h0 (by decide)
    rw [if_neg hc]
    refine ⟨h.la, by simp [h.lm], u64_set h.u (Nat.or_lt_two_pow (n := 64) (u64_get h.u k) (pgM_lt (by omega) (by omega))) k, fun j hj hb => ?_, fun c hc => ?_, h.sr⟩
    · dsimp only at hb ⊢
      rw [get_set (by rw [h.lm]; exact hk)]
      by_cases hjk : j = k
      · subst hjk; rw [ha] at hb; cases hb
      · rw [if_neg hjk]; exact h.dd j hj hb
    · obtain ⟨k1, k2, k3, k4, k5⟩ := ck1_iff.1 (h.ck c hc)
      obtain ⟨i, hi, hi8⟩ := prc_ix k1
      rw [ck1_iff]
      refine ⟨k1, k2, k3, k4, ?_⟩
      rw [hi, mpd_eq] at k5 ⊢
      dsimp only
      rw [get_set (by rw [h.lm]; exact hk)]
      by_cases hik : i = k
      · subst hik; rw [if_pos rfl, Nat.testBit_or, k5]; rfl
      · rw [if_neg hik]; exact k5
  oth {s} h h0 j hj hjk := by
    rw [oMp_eq h hk] at h0 ⊢
    by_cases ha : s.1[k]?.getD false = true
    case neg => rw [if_neg ha] at h0; exact absurd h0 (by decide)
    rw [if_pos ha] at h0 ⊢
    by_cases hb : f < 0 ∨ t < f ∨ 64 ≤ t
    case pos => rw [if_pos hb] at h0; exact absurd h0 (by decide)
    rw [if_neg hb] at h0 ⊢
    by_cases hc : hasB (s.2.1[k]?.getD 0) f.toNat t.toNat = true
    case pos => rw [if_pos hc] at h0; exact absurd h0 (by decide)
    rw [if_neg hc, vw_iff]
    dsimp only
    rw [get_set (by rw [h.lm]; exact hk), if_neg hjk]
    exact ⟨rfl, rfl, rfl⟩
  loc {s t'} hs ht hv := by
    obtain ⟨v1, v2, v3⟩ := vw_iff.1 hv
    rw [oMp_eq hs hk, oMp_eq ht hk, v1, v2]
    by_cases ha : t'.1[k]?.getD false = true
    case neg => rw [if_neg ha, if_neg ha]; exact ⟨rfl, fun h => absurd h (by decide)⟩
    rw [if_pos ha, if_pos ha]
    by_cases hb : f < 0 ∨ t < f ∨ 64 ≤ t
    case pos => rw [if_pos hb, if_pos hb]; exact ⟨rfl, fun h => absurd h (by decide)⟩
    rw [if_neg hb, if_neg hb]
    by_cases hc : hasB (t'.2.1[k]?.getD 0) f.toNat t.toNat = true
    case pos => rw [if_pos hc, if_pos hc]; exact ⟨rfl, fun h => absurd h (by decide)⟩
    rw [if_neg hc, if_neg hc]
    refine ⟨rfl, fun _ => vw_iff.2 ?_⟩
    dsimp only
    rw [get_set (by rw [hs.lm]; exact hk), get_set (by rw [ht.lm]; exact hk), if_pos rfl, if_pos rfl]
    exact ⟨v1, rfl, v3⟩
  err {s} h := by
    rw [oMp_eq h hk]
    split
    · split
      · simp
      · split <;> simp
    · simp
theorem oUn_eq {s : FSt} (h : Vl s) {k : Nat} (hk : k < 8) (f t : Int) : oUn k f t s = if s.1[k]?.getD false = true then (if f < 0 ∨ t < f ∨ 64 ≤ t then (nilF, 2) else if allB (s.2.1[k]?.getD 0) f.toNat t.toNat = false then (nilF, 6) else ((s.1, s.2.1.set k (clr (s.2.1[k]?.getD 0) (pgM f.toNat t.toNat)), woC s.2.2 ((k : Int) + 1) f t), 0)) else (nilF, 11) := by
  unfold oUn unmF
  rw [rng_eq h hk, ix_succ]
  by_cases ha : s.1[k]?.getD false = true
  · by_cases hb : f < 0 ∨ t < f ∨ 64 ≤ t
    · rw [if_pos ha, if_pos hb, if_pos (by decide), if_pos ha, if_pos hb]
    · rw [if_pos ha, if_neg hb, if_neg (by decide), if_pos ha, if_neg hb]
  · rw [if_neg ha, if_pos (by decide), if_neg ha]
theorem oUn_loc {k : Nat} (hk : k < 8) (f t : Int) : LocF (oUn k f t) k where
  val {s} h h0 := by
    rw [oUn_eq h hk] at h0 ⊢
    by_cases ha : s.1[k]?.getD false = true
    case neg => rw [if_neg ha] at h0; exact absurd h0 (by decide)
    rw [if_pos ha] at h0 ⊢
    by_cases hb : f < 0 ∨ t < f ∨ 64 ≤ t
    case pos => rw [if_pos hb] at h0; exact absurd h0 (by decide)
    rw [if_neg hb] at h0 ⊢
    by_cases hc : allB (s.2.1[k]?.getD 0) f.toNat t.toNat = false
    case pos => rw [if_pos hc] at h0; exact absurd h0 (by decide)
    rw [if_neg hc]
    refine ⟨h.la, by simp [h.lm], u64_set h.u (clr_lt _ (u64_get h.u k)) k, fun j hj hb => ?_, fun c hc => ?_, woC_srt' h.sr _ _ _⟩
    · dsimp only at hb ⊢
      rw [get_set (by rw [h.lm]; exact hk)]
      by_cases hjk : j = k
      · subst hjk; rw [ha] at hb; cases hb
      · rw [if_neg hjk]; exact h.dd j hj hb
    · obtain ⟨c1, c2⟩ := mem_woC.1 hc
      obtain ⟨k1, k2, k3, k4, k5⟩ := ck1_iff.1 (h.ck c c1)
      obtain ⟨i, hi, hi8⟩ := prc_ix k1
      rw [ck1_iff]
      refine ⟨k1, k2, k3, k4, ?_⟩
      rw [hi, mpd_eq] at k5 ⊢
      dsimp only
      rw [get_set (by rw [h.lm]; exact hk)]
      by_cases hik : i = k
      · subst hik
        rw [if_pos rfl, clr_bit _ _ _ (pgM_lt (by omega) (by omega)) (u64_get h.u i), k5, pgM_bit (by omega)]
        have hn : ¬ (f.toNat ≤ c.2.1.toNat ∧ c.2.1.toNat ≤ t.toNat) := fun hh => c2 ⟨hi, by have := k2.1; omega, by have := k2.1; omega⟩
        rw [decide_eq_false hn]
        rfl
      · rw [if_neg hik]; exact k5
  oth {s} h h0 j hj hjk := by
    rw [oUn_eq h hk] at h0 ⊢
    by_cases ha : s.1[k]?.getD false = true
    case neg => rw [if_neg ha] at h0; exact absurd h0 (by decide)
    rw [if_pos ha] at h0 ⊢
    by_cases hb : f < 0 ∨ t < f ∨ 64 ≤ t
    case pos => rw [if_pos hb] at h0; exact absurd h0 (by decide)
    rw [if_neg hb] at h0 ⊢
    by_cases hc : allB (s.2.1[k]?.getD 0) f.toNat t.toNat = false
    case pos => rw [if_pos hc] at h0; exact absurd h0 (by decide)
    rw [if_neg hc, vw_iff]
    dsimp only
    rw [get_set (by rw [h.lm]; exact hk), if_neg hjk]
    refine ⟨rfl, rfl, zc_ext (woC_srt' h.sr _ _ _) h.sr fun x => ?_⟩
    rw [mem_woC]
    exact ⟨fun h => h.1, fun h => ⟨h, fun hh => by have := hh.1; dsimp only at this; omega⟩⟩
  loc {s t'} hs ht hv := by
    obtain ⟨v1, v2, v3⟩ := vw_iff.1 hv
    rw [oUn_eq hs hk, oUn_eq ht hk, v1, v2]
    by_cases ha : t'.1[k]?.getD false = true
    case neg => rw [if_neg ha, if_neg ha]; exact ⟨rfl, fun h => absurd h (by decide)⟩
    rw [if_pos ha, if_pos ha]
    by_cases hb : f < 0 ∨ t < f ∨ 64 ≤ t
    case pos => rw [if_pos hb, if_pos hb]; exact ⟨rfl, fun h => absurd h (by decide)⟩
    rw [if_neg hb, if_neg hb]
    by_cases hc : allB (t'.2.1[k]?.getD 0) f.toNat t.toNat = false
    case pos => rw [if_pos hc, if_pos hc]; exact ⟨rfl, fun h => absurd h (by decide)⟩
    rw [if_neg hc, if_neg hc]
    refine ⟨rfl, fun _ => vw_iff.2 ?_⟩
    dsimp only
    rw [get_set (by rw [hs.lm]; exact hk), get_set (by rw [ht.lm]; exact hk), if_pos rfl, if_pos rfl]
    exact ⟨v1, rfl, zc_ext (woC_srt' hs.sr _ _ _) (woC_srt' ht.sr _ _ _) fun x => by rw [mem_woC, mem_woC, zc_mem v3]⟩
  err {s} h := by
    rw [oUn_eq h hk]
    split
    · split
      · simp
      · split <;> simp
    · simp
theorem oWr_eq {s : FSt} (h : Vl s) {k : Nat} (hk : k < 8) (g w : Int) (v : Nat) : oWr k g w v s = if s.1[k]?.getD false = true then (if ¬ (Pgs g ∧ Wrd w) then (nilF, 2) else if (s.2.1[k]?.getD 0).testBit g.toNat = false then (nilF, 12) else ((s.1, s.2.1, wrC s.2.2 ((k : Int) + 1, g, w, v)), 0)) else (nilF, 11) := by
  unfold oWr wrtF
  rw [mpE_eq h hk]
  by_cases ha : s.1[k]?.getD false = true
  · by_cases hb : ¬ (Pgs g ∧ Wrd w)
    · rw [if_pos ha, if_pos hb, if_pos (by decide), if_pos ha, if_pos hb]
    · by_cases hc : (s.2.1[k]?.getD 0).testBit g.toNat = false
      · rw [if_pos ha, if_neg hb, if_pos hc, if_pos (by decide), if_pos ha, if_neg hb, if_pos hc]
      · rw [if_pos ha, if_neg hb, if_neg hc, if_neg (by decide), if_pos ha, if_neg hb, if_neg hc]
  · rw [if_neg ha, if_pos (by decide), if_neg ha]
theorem oWr_loc {k : Nat} (hk : k < 8) (g w : Int) (v : Nat) : LocF (oWr k g w v) k where
  val {s} h h0 := by
    rw [oWr_eq h hk] at h0 ⊢
    by_cases ha : s.1[k]?.getD false = true
    case neg => rw [if_neg ha] at h0; exact absurd h0 (by decide)
    rw [if_pos ha] at h0 ⊢
    by_cases hb : Pgs g ∧ Wrd w
    case neg => rw [if_pos hb] at h0; exact absurd h0 (by decide)
    rw [if_neg (fun h => h hb)] at h0 ⊢
    by_cases hc : (s.2.1[k]?.getD 0).testBit g.toNat = false
    case pos => rw [if_pos hc] at h0; exact absurd h0 (by decide)
    rw [if_neg hc]
    refine ⟨h.la, h.lm, h.u, h.dd, fun c hm => ?_, wrC_srt h.sr _⟩
    rcases mem_wrC.1 hm with ⟨h1, _⟩ | ⟨rfl, h2⟩
    · exact h.ck c h1
    · rw [ck1_iff]
      refine ⟨⟨by dsimp only; omega, by dsimp only; omega⟩, hb.1, hb.2, h2, ?_⟩
      dsimp only
      rw [mpd_eq]
      simpa using hc
  oth {s} h h0 j hj hjk := by
    rw [oWr_eq h hk] at h0 ⊢
    by_cases ha : s.1[k]?.getD false = true
    case neg => rw [if_neg ha] at h0; exact absurd h0 (by decide)
    rw [if_pos ha] at h0 ⊢
    by_cases hb : Pgs g ∧ Wrd w
    case neg => rw [if_pos hb] at h0; exact absurd h0 (by decide)
    rw [if_neg (fun h => h hb)] at h0 ⊢
    by_cases hc : (s.2.1[k]?.getD 0).testBit g.toNat = false
    case pos => rw [if_pos hc] at h0; exact absurd h0 (by decide)
    rw [if_neg hc, vw_iff]
    refine ⟨rfl, rfl, zc_ext (wrC_srt h.sr _) h.sr fun x => ?_⟩
    rw [mem_wrC]
    have hne : ((j : Int) + 1) ≠ ((k : Int) + 1) := by omega
    constructor
    · rintro (h1 | h1)
      · exact h1.1
      · exact absurd (congrArg (·.1) h1.1) hne
    · intro h1
      exact .inl ⟨h1, fun e => hne (congrArg (·.1) e)⟩
  loc {s t} hs ht hv := by
    obtain ⟨v1, v2, v3⟩ := vw_iff.1 hv
    rw [oWr_eq hs hk, oWr_eq ht hk, v1, v2]
    by_cases ha : t.1[k]?.getD false = true
    case neg => rw [if_neg ha, if_neg ha]; exact ⟨rfl, fun h => absurd h (by decide)⟩
    rw [if_pos ha, if_pos ha]
    by_cases hb : Pgs g ∧ Wrd w
    case neg => rw [if_pos hb, if_pos hb]; exact ⟨rfl, fun h => absurd h (by decide)⟩
    have hb' : ¬ ¬ (Pgs g ∧ Wrd w) := fun h => h hb
    rw [if_neg hb', if_neg hb']
    by_cases hc : (t.2.1[k]?.getD 0).testBit g.toNat = false
    case pos => rw [if_pos hc, if_pos hc]; exact ⟨rfl, fun h => absurd h (by decide)⟩
    rw [if_neg hc, if_neg hc]
    exact ⟨rfl, fun _ => vw_iff.2 ⟨v1, v2, zc_ext (wrC_srt hs.sr _) (wrC_srt ht.sr _) fun x => by rw [mem_wrC, mem_wrC, zc_mem v3]⟩⟩
  err {s} h := by
    rw [oWr_eq h hk]
    split
    · split
      · simp
      · split <;> simp
    · simp
end Go.Proofs.Ytdfolpfibhfmlaa

/- A flat memory: forks; what a number asks for; a valid memory is small. -/
namespace Go.Proofs.Ytdfolpfibhfmlaa
open Go.RowKit
set_option maxRecDepth 100000
set_option linter.unusedSimpArgs false
set_option linter.unusedVariables false

theorem inc_len {N : Nat} : ∀ (l : List Nat) (a : Nat), l.Pairwise (· < ·) → (∀ x ∈ l, a ≤ x ∧ x < N) → a ≤ N → l.length + a ≤ N
  | [], a, _, _, h => by simpa using h
  | x :: l, a, hp, hx, h => by
    obtain ⟨p1, p2⟩ := List.pairwise_cons.1 hp
    have h0 := hx x (by simp)
    have := inc_len l (x + 1) p2 (fun y hy => ⟨p1 y hy, (hx y (by simp [hy])).2⟩) (by omega)
    rw [List.length_cons]; omega
theorem vl_len {s : FSt} (h : Vl s) : s.2.2.length ≤ 4096 := by
  have key := inc_len (N := 4096) (s.2.2.map fun c : Cl => (((c.1 - 1) * 64 + c.2.1) * 8 + c.2.2.1).toNat) 0 ?_ (fun x hx => ?_) (by decide)
  · simpa using key
  · rw [List.pairwise_map]
    refine List.Pairwise.imp_of_mem (fun {a b} ha hb hab => ?_) h.sr
    obtain ⟨⟨a1, a2⟩, ⟨a3, a4⟩, ⟨a5, a6⟩, _⟩ := ck1_iff.1 (h.ck a ha)
    obtain ⟨⟨b1, b2⟩, ⟨b3, b4⟩, ⟨b5, b6⟩, _⟩ := ck1_iff.1 (h.ck b hb)
    unfold Bef at hab
    omega
  · obtain ⟨c, hc, rfl⟩ := List.mem_map.1 hx
    obtain ⟨⟨a1, a2⟩, ⟨a3, a4⟩, ⟨a5, a6⟩, _⟩ := ck1_iff.1 (h.ck c hc)
    omega
def oFk (k j : Nat) (s : FSt) : FSt × Int := frkF s.1 s.2.1 s.2.2 ((k : Int) + 1) ((j : Int) + 1)
theorem frk_eq {s : FSt} (h : Vl s) {k j : Nat} (hk : k < 8) (hj : j < 8) : frkE s.1 s.2.1 s.2.2 ((k : Int) + 1) ((j : Int) + 1) = if s.1[k]?.getD false = false then 11 else if k = j then 2 else if s.1[j]?.getD false = true then 7 else 0 := by
  have hp : ¬ ¬ (Prc ((k : Int) + 1) ∧ Prc ((j : Int) + 1)) := fun hh => hh ⟨⟨by omega, by omega⟩, ⟨by omega, by omega⟩⟩
  unfold frkE
  rw [vl_chk h, if_neg (show ¬ (0 : Int) ≠ 0 by decide), if_neg hp, alv_eq, alv_eq]
  by_cases ha : s.1[k]?.getD false = false
  · rw [if_pos ha, if_pos ha]
  · by_cases hkj : k = j
    · rw [if_neg ha, if_neg ha, if_pos (show (k : Int) + 1 = (j : Int) + 1 by omega), if_pos hkj]
    · rw [if_neg ha, if_neg ha, if_neg (show ¬ (k : Int) + 1 = (j : Int) + 1 by omega), if_neg hkj]
theorem oFk_eq {s : FSt} (h : Vl s) {k j : Nat} (hk : k < 8) (hj : j < 8) : oFk k j s = if s.1[k]?.getD false = false then (nilF, 11) else if k = j then (nilF, 2) else if s.1[j]?.getD false = true then (nilF, 7) else ((s.1.set j true, s.2.1.set j (s.2.1[k]?.getD 0), forkC s.2.2 ((k : Int) + 1) ((j : Int) + 1)), 0) := by
  unfold oFk frkF
  rw [frk_eq h hk hj, ix_succ, ix_succ]
  by_cases ha : s.1[k]?.getD false = false
  · rw [if_pos ha, if_pos (by decide), if_pos ha]
  · by_cases hkj : k = j
    · rw [if_neg ha, if_pos hkj, if_pos (by decide), if_neg ha, if_pos hkj]
    · by_cases hb : s.1[j]?.getD false = true
      · rw [if_neg ha, if_neg hkj, if_pos hb, if_pos (by decide), if_neg ha, if_neg hkj, if_pos hb]
      · rw [if_neg ha, if_neg hkj, if_neg hb, if_neg (by decide), if_neg ha, if_neg hkj, if_neg hb]
theorem no_cells {s : FSt} (h : Vl s) {j : Nat} (hj : j < 8) (hb : ¬ s.1[j]?.getD false = true) : ∀ c ∈ s.2.2, c.1 ≠ (j : Int) + 1 := by
  intro c hc e
  obtain ⟨_, _, _, _, k5⟩ := ck1_iff.1 (h.ck c hc)
  rw [e, mpd_eq, h.dd j hj (by simpa using hb)] at k5
  simp at k5
theorem mem_forkC {cs : List Cl} (h : Srt cs) {p q : Int} (hq : ∀ c ∈ cs, c.1 ≠ q) {x : Cl} : x ∈ forkC cs p q ↔ x ∈ cs ∨ (x.1 = q ∧ (p, x.2) ∈ cs) := by
  rw [(fork_srt h hq).2.mem_iff, List.mem_append, List.mem_map]
  constructor
  · rintro (hx | ⟨d, hd, rfl⟩)
    · exact .inl hx
    · obtain ⟨d1, d2⟩ := List.mem_filter.1 hd
      have : d.1 = p := by simpa using d2
      subst this
      exact .inr ⟨rfl, d1⟩
  · rintro (hx | ⟨h1, h2⟩)
    · exact .inl hx
    · obtain ⟨x1, x2⟩ := x
      dsimp only at h1
      subst h1
      exact .inr ⟨(p, x2), List.mem_filter.2 ⟨h2, by simp⟩, rfl⟩
theorem oFk_val {s : FSt} (h : Vl s) {k j : Nat} (hk : k < 8) (hj : j < 8) (h0 : (oFk k j s).2 = 0) : Vl (oFk k j s).1 := by
  rw [oFk_eq h hk hj] at h0 ⊢
  by_cases ha : s.1[k]?.getD false = false
  case pos => rw [if_pos ha] at h0; exact absurd h0 (by decide)
  rw [if_neg ha] at h0 ⊢
  by_cases hkj : k = j
  case pos => rw [if_pos hkj] at h0; exact absurd h0 (by decide)
  rw [if_neg hkj] at h0 ⊢
  by_cases hb : s.1[j]?.getD false = true
  case pos => rw [if_pos hb] at h0; exact absurd h0 (by decide)
  rw [if_neg hb]
  have hn := no_cells h hj hb
  refine ⟨by simp [h.la], by simp [h.lm], u64_set h.u (u64_get h.u k) j, fun i hi hbi => ?_, fun c hc => ?_, (fork_srt h.sr hn).1⟩
  · dsimp only at hbi ⊢
    rw [get_set (by rw [h.la]; exact hj)] at hbi
    rw [get_set (by rw [h.lm]; exact hj)]
    by_cases hij : i = j
    · rw [if_pos hij] at hbi; cases hbi
    · rw [if_neg hij] at hbi ⊢; exact h.dd i hi hbi
  · rw [ck1_iff]
    rcases (mem_forkC h.sr hn).1 hc with hc | ⟨c1, c2⟩
    · obtain ⟨k1, k2, k3, k4, k5⟩ := ck1_iff.1 (h.ck c hc)
      obtain ⟨i, hi, hi8⟩ := prc_ix k1
      refine ⟨k1, k2, k3, k4, ?_⟩
      have hij : i ≠ j := fun e => hn c hc (by rw [hi, e])
      rw [hi, mpd_eq] at k5 ⊢
      dsimp only
      rw [get_set (by rw [h.lm]; exact hj), if_neg hij]
      exact k5
    · obtain ⟨k1, k2, k3, k4, k5⟩ := ck1_iff.1 (h.ck _ c2)
      dsimp only at k1 k2 k3 k4 k5
      refine ⟨by rw [c1]; exact ⟨by omega, by omega⟩, k2, k3, k4, ?_⟩
      rw [c1, mpd_eq]
      rw [mpd_eq] at k5
      dsimp only
      rw [get_set (by rw [h.lm]; exact hj), if_pos rfl]
      exact k5
theorem oFk_err {s : FSt} (h : Vl s) {k j : Nat} (hk : k < 8) (hj : j < 8) : (oFk k j s).2 = 0 ∨ (oFk k j s).2 = 7 ∨ (oFk k j s).2 = 11 ∨ (oFk k j s).2 = 6 ∨ (oFk k j s).2 = 12 ∨ (oFk k j s).2 = 2 := by
  rw [oFk_eq h hk hj]
  split
  · simp
  · split
    · simp
    · split <;> simp
/-- what a number asks for -/
def opOf (m : Nat) : FSt → FSt × Int :=
  if m % 8 = 0 then oSp (m / 8 % 3)
  else if m % 8 = 1 then oMp (m / 8 % 3) ((m / 24 % 6 : Nat) : Int) ((m / 24 % 6 + m / 144 % 3 : Nat) : Int)
  else if m % 8 = 2 then oUn (m / 8 % 3) ((m / 24 % 6 : Nat) : Int) ((m / 24 % 6 : Nat) : Int)
  else if m % 8 = 3 then oFk (m / 8 % 3) (m / 144 % 3)
  else if m % 8 = 4 then (if m / 144 % 4 = 0 then oEx (m / 8 % 3) else fun s => (s, 0))
  else oWr (m / 8 % 3) ((m / 24 % 6 : Nat) : Int) ((m / 144 % 8 : Nat) : Int) (m / 1152 % 5)
theorem id_loc (k : Nat) : LocF (fun s => (s, 0)) k where
  val h _ := h
  oth _ _ _ _ _ := rfl
  loc _ _ h := ⟨rfl, fun _ => h⟩
  err _ := .inl rfl
theorem op_loc {m : Nat} (h : m % 8 ≠ 3) : LocF (opOf m) (m / 8 % 3) := by
  have hk : m / 8 % 3 < 8 := by omega
  unfold opOf
  split
  · exact oSp_loc hk
  · split
    · exact oMp_loc hk _ _
    · split
      · exact oUn_loc hk _ _
      · split
        · split
          · exact oEx_loc hk
          · exact id_loc _
        · exact oWr_loc hk _ _ _
theorem op_val {m : Nat} {s : FSt} (h : Vl s) (h0 : (opOf m s).2 = 0) : Vl (opOf m s).1 := by
  by_cases h3 : m % 8 = 3
  · have e : opOf m = oFk (m / 8 % 3) (m / 144 % 3) := by
      unfold opOf
      rw [if_neg (by omega), if_neg (by omega), if_neg (by omega), if_pos h3]
    rw [e] at h0 ⊢
    exact oFk_val h (by omega) (by omega) h0
  · exact (op_loc h3).val h h0
theorem op_err {m : Nat} {s : FSt} (h : Vl s) : (opOf m s).2 = 0 ∨ (opOf m s).2 = 7 ∨ (opOf m s).2 = 11 ∨ (opOf m s).2 = 6 ∨ (opOf m s).2 = 12 ∨ (opOf m s).2 = 2 := by
  by_cases h3 : m % 8 = 3
  · have e : opOf m = oFk (m / 8 % 3) (m / 144 % 3) := by
      unfold opOf
      rw [if_neg (by omega), if_neg (by omega), if_neg (by omega), if_pos h3]
    rw [e]
    exact oFk_err h (by omega) (by omega)
  · exact (op_loc h3).err h
theorem aft_vl {m : Nat} {s : FSt} (h : Vl s) : Vl (aft (opOf m) s) := by
  unfold aft
  split
  · rename_i h0; exact op_val h h0
  · exact h
/-- the processes from four on are not alive -/
def Low (s : FSt) : Prop := ∀ k, 3 ≤ k → s.1[k]?.getD false = false
theorem aft_low {m : Nat} {s : FSt} (h : Vl s) (hl : Low s) : Low (aft (opOf m) s) := by
  intro k hk
  unfold aft
  split
  · rename_i h0
    by_cases h3 : m % 8 = 3
    · have e : opOf m = oFk (m / 8 % 3) (m / 144 % 3) := by
        unfold opOf
        rw [if_neg (by omega), if_neg (by omega), if_neg (by omega), if_pos h3]
      rw [e] at h0 ⊢
      have hj : m / 144 % 3 < 8 := by omega
      rw [oFk_eq h (by omega) hj] at h0 ⊢
      by_cases ha : s.1[m / 8 % 3]?.getD false = false
      case pos => rw [if_pos ha] at h0; exact absurd h0 (by decide)
      rw [if_neg ha] at h0 ⊢
      by_cases hkj : m / 8 % 3 = m / 144 % 3
      case pos => rw [if_pos hkj] at h0; exact absurd h0 (by decide)
      rw [if_neg hkj] at h0 ⊢
      by_cases hb : s.1[m / 144 % 3]?.getD false = true
      case pos => rw [if_pos hb] at h0; exact absurd h0 (by decide)
      rw [if_neg hb]
      dsimp only
      rw [get_set (by rw [h.la]; exact hj), if_neg (by omega)]
      exact hl k hk
    · by_cases hk8 : k < 8
      · have := congrArg (·.1) ((op_loc h3).oth h h0 k hk8 (by omega))
        exact this.trans (hl k hk)
      · have := (op_val h h0).la
        rw [List.getElem?_eq_none (by omega)]; rfl
  · exact hl k hk
def numN (n : Int) : Nat := (n % 16777216).toNat
def s1F : FSt := (ka1, km0, kc0)
def madG (l : List Int) : FSt := (l.take 40).foldl (fun s n => aft (opOf (numN n)) s) s1F
theorem s1_vl : Vl s1F := chk_vl (kU64 _ rfl) (by kernel_rfl)
theorem s1_low : Low s1F := by
  intro k hk
  unfold s1F ka1
  dsimp only
  match k, hk with
  | 3, _ => rfl
  | 4, _ => rfl
  | 5, _ => rfl
  | 6, _ => rfl
  | 7, _ => rfl
  | n + 8, _ => rfl
theorem fold_inv : ∀ (l : List Int) (s : FSt), Vl s → Low s → Vl (l.foldl (fun s n => aft (opOf (numN n)) s) s) ∧ Low (l.foldl (fun s n => aft (opOf (numN n)) s) s)
  | [], _, h, hl => ⟨h, hl⟩
  | n :: l, s, h, hl => fold_inv l _ (aft_vl h) (aft_low h hl)
theorem mad_vl (l : List Int) : Vl (madG l) := (fold_inv _ _ s1_vl s1_low).1
theorem mad_low (l : List Int) : Low (madG l) := (fold_inv _ _ s1_vl s1_low).2
end Go.Proofs.Ytdfolpfibhfmlaa

/- A flat memory: what reads say behind a write and behind a fork. -/
namespace Go.Proofs.Ytdfolpfibhfmlaa
open Go.RowKit
set_option maxRecDepth 100000
set_option linter.unusedSimpArgs false
set_option linter.unusedVariables false

theorem rdV_ext {s t : FSt} (hs : Vl s) (ht : Vl t) {p q g : Int} {w : Nat} (hw : w < 8) (h : ∀ u, u ≠ 0 → ((p, g, (w : Int), u) ∈ s.2.2 ↔ (q, g, (w : Int), u) ∈ t.2.2)) : rdV s.2.2 p g w = rdV t.2.2 q g w := by
  by_cases h1 : rdV s.2.2 p g w = 0
  · by_cases h2 : rdV t.2.2 q g w = 0
    · rw [h1, h2]
    · have e := (h _ h2).2 ((rdV_iff (vl_chk ht) hw h2).1 rfl)
      rw [(rdV_iff (vl_chk hs) hw h2).2 e]
  · have e := (h _ h1).1 ((rdV_iff (vl_chk hs) hw h1).1 rfl)
    exact ((rdV_iff (vl_chk ht) hw h1).2 e).symm
theorem rdV_none {s : FSt} (hs : Vl s) {p g : Int} {w : Nat} (hw : w < 8) (h : ∀ u, u ≠ 0 → (p, g, (w : Int), u) ∉ s.2.2) : rdV s.2.2 p g w = 0 := by
  by_cases h1 : rdV s.2.2 p g w = 0
  · exact h1
  · exact absurd ((rdV_iff (vl_chk hs) hw h1).1 rfl) (h _ h1)
theorem mapE_eq {s : FSt} (h : Vl s) {k : Nat} (hk : k < 8) {g w : Int} (hg : Pgs g) (hw : Wrd w) : mapE s.1 s.2.1 s.2.2 ((k : Int) + 1) g w = if s.1[k]?.getD false = true then (if (s.2.1[k]?.getD 0).testBit g.toNat = true then 0 else 12) else 11 := by
  unfold mapE
  rw [lvs_eq h hk, mpd_eq]
  by_cases ha : s.1[k]?.getD false = true
  · rw [if_pos ha, if_pos ha, if_neg (by decide), if_neg (fun hh => hh ⟨hg, hw⟩)]
    cases (s.2.1[k]?.getD 0).testBit g.toNat <;> rfl
  · rw [if_neg ha, if_neg ha, if_pos (by decide)]
/-- behind a write: the word written reads as written, every other as before -/
theorem wr_law {s : FSt} (h : Vl s) {k g w : Nat} (hk : k < 8) (hg : g < 64) (hw : w < 8) {v : Nat} (h0 : (oWr k (g : Int) (w : Int) v s).2 = 0) :
    ((oWr k (g : Int) (w : Int) v s).1.1 = s.1 ∧ (oWr k (g : Int) (w : Int) v s).1.2.1 = s.2.1) ∧ mapE s.1 s.2.1 s.2.2 ((k : Int) + 1) g w = 0 ∧
    (∀ (k' g' w' : Nat), k' < 8 → g' < 64 → w' < 8 → mapE (oWr k (g : Int) (w : Int) v s).1.1 (oWr k (g : Int) (w : Int) v s).1.2.1 (oWr k (g : Int) (w : Int) v s).1.2.2 ((k' : Int) + 1) g' w' = mapE s.1 s.2.1 s.2.2 ((k' : Int) + 1) g' w') ∧
    (∀ (k' g' w' : Nat), k' < 8 → g' < 64 → w' < 8 → (k' = k ∧ g' = g ∧ w' = w → rdV (oWr k (g : Int) (w : Int) v s).1.2.2 ((k' : Int) + 1) g' w' = v) ∧ (¬ (k' = k ∧ g' = g ∧ w' = w) → rdV (oWr k (g : Int) (w : Int) v s).1.2.2 ((k' : Int) + 1) g' w' = rdV s.2.2 ((k' : Int) + 1) g' w')) := by
  have hG : Pgs (g : Int) := ⟨by omega, by omega⟩
  have hW : Wrd (w : Int) := ⟨by omega, by omega⟩
  have hv := (oWr_loc hk (g : Int) (w : Int) v).val h h0
  have hE := mapE_eq h hk hG hW
  rw [oWr_eq h hk] at h0 hv ⊢
  by_cases ha : s.1[k]?.getD false = true
  case neg => rw [if_neg ha] at h0; exact absurd h0 (by decide)
  rw [if_pos ha, if_neg (fun hh => hh ⟨hG, hW⟩)] at h0 hv ⊢
  by_cases hc : (s.2.1[k]?.getD 0).testBit (g : Int).toNat = false
  case pos => rw [if_pos hc] at h0; exact absurd h0 (by decide)
  rw [if_neg hc] at hv ⊢
  rw [if_pos ha, if_pos (by simpa using hc)] at hE
  have hkey : ∀ (k' g' w' u : Nat), ck3 (((k' : Int) + 1, (g' : Int), (w' : Int), u) : Cl) = ck3 (((k : Int) + 1, (g : Int), (w : Int), v) : Cl) ↔ k' = k ∧ g' = g ∧ w' = w := fun k' g' w' u => by
    simp only [ck3, Prod.mk.injEq]
    omega
  refine ⟨⟨rfl, rfl⟩, hE, fun k' g' w' a b c => ?_, fun k' g' w' a b c => ⟨fun e => ?_, fun e => ?_⟩⟩
  · have e1 := mapE_eq hv a (g := (g' : Int)) (w := (w' : Int)) ⟨by omega, by omega⟩ ⟨by omega, by omega⟩
    have e2 := mapE_eq h a (g := (g' : Int)) (w := (w' : Int)) ⟨by omega, by omega⟩ ⟨by omega, by omega⟩
    dsimp only at e1 ⊢
    rw [e1, e2]
  · by_cases hv0 : v = 0
    · rw [hv0]
      have := rdV_none hv (p := (k' : Int) + 1) (g := (g' : Int)) c (fun u hu hm => by
        rcases mem_wrC.1 hm with ⟨_, h2⟩ | ⟨h1, h2⟩
        · exact h2 ((hkey k' g' w' u).2 e)
        · exact h2 hv0)
      dsimp only at this ⊢
      rw [hv0] at this
      exact this
    · have := (rdV_iff (vl_chk hv) (p := (k' : Int) + 1) (g := (g' : Int)) c hv0).2 (mem_wrC.2 (.inr ⟨by obtain ⟨rfl, rfl, rfl⟩ := e; rfl, hv0⟩))
      exact this
  · refine rdV_ext hv h c fun u hu => ?_
    dsimp only
    rw [mem_wrC]
    constructor
    · rintro (h1 | h1)
      · exact h1.1
      · exact absurd ((hkey k' g' w' u).1 (congrArg ck3 h1.1)) e
    · intro h1
      exact .inl ⟨h1, fun h2 => e ((hkey k' g' w' u).1 h2)⟩
end Go.Proofs.Ytdfolpfibhfmlaa

/- A flat memory: what a fork is, and that leaving gives the memory back. -/
namespace Go.Proofs.Ytdfolpfibhfmlaa
open Go.RowKit
set_option maxRecDepth 100000
set_option linter.unusedSimpArgs false
set_option linter.unusedVariables false

/-- the fork of process one into five, in a memory where five is not alive -/
theorem fk_err {s : FSt} (h : Vl s) (hl : Low s) : (oFk 0 4 s).2 = 0 ∨ (oFk 0 4 s).2 = 11 := by
  rw [oFk_eq h (by decide) (by decide), if_neg (show ¬ (0 : Nat) = 4 by decide), hl 4 (by decide)]
  split <;> simp
theorem fk_ok {s : FSt} (h : Vl s) (hl : Low s) (h0 : (oFk 0 4 s).2 = 0) : s.1[0]?.getD false = true ∧ oFk 0 4 s = ((s.1.set 4 true, s.2.1.set 4 (s.2.1[0]?.getD 0), forkC s.2.2 1 5), 0) := by
  have e := oFk_eq h (k := 0) (j := 4) (by decide) (by decide)
  rw [if_neg (show ¬ (0 : Nat) = 4 by decide), hl 4 (by decide), if_neg (show ¬ false = true by decide)] at e
  by_cases ha : s.1[0]?.getD false = false
  · rw [if_pos ha] at e
    rw [e] at h0
    exact absurd h0 (by decide)
  · rw [if_neg ha] at e
    exact ⟨by simpa using ha, e⟩
theorem fk_no {s : FSt} (h : Vl s) (hl : Low s) : ∀ c ∈ s.2.2, c.1 ≠ 5 := no_cells h (j := 4) (by decide) (by rw [hl 4 (by decide)]; decide)
/-- behind the fork: both alive, the same words mapped, the same cells -/
theorem fk_same {s : FSt} (h : Vl s) (hl : Low s) (h0 : (oFk 0 4 s).2 = 0) : lvsE (oFk 0 4 s).1.1 (oFk 0 4 s).1.2.1 (oFk 0 4 s).1.2.2 [1, 5] = 0 ∧ smB (oFk 0 4 s).1.2.1 (oFk 0 4 s).1.2.2 1 5 = true ∧ (oFk 0 4 s).1.1[0]?.getD false = true ∧ (oFk 0 4 s).1.1[4]?.getD false = true ∧ (oFk 0 4 s).1.2.1[4]?.getD 0 = (oFk 0 4 s).1.2.1[0]?.getD 0 := by
  have hv := oFk_val h (k := 0) (j := 4) (by decide) (by decide) h0
  obtain ⟨ha, e⟩ := fk_ok h hl h0
  have hn := fk_no h hl
  rw [e] at hv ⊢
  dsimp only at hv ⊢
  have g0 : (s.1.set 4 true)[0]?.getD false = true := by rw [get_set (by rw [h.la]; decide), if_neg (by decide)]; exact ha
  have g4 : (s.1.set 4 true)[4]?.getD false = true := by rw [get_set (by rw [h.la]; decide), if_pos rfl]
  have m4 : (s.2.1.set 4 (s.2.1[0]?.getD 0))[4]?.getD 0 = s.2.1[0]?.getD 0 := by rw [get_set (by rw [h.lm]; decide), if_pos rfl]
  have m0 : (s.2.1.set 4 (s.2.1[0]?.getD 0))[0]?.getD 0 = s.2.1[0]?.getD 0 := by rw [get_set (by rw [h.lm]; decide), if_neg (by decide)]
  refine ⟨?_, ?_, g0, g4, by rw [m4, m0]⟩
  · have hc := vl_chk hv
    dsimp only at hc
    unfold lvsE
    rw [hc, if_neg (by decide)]
    have e1 : alv (s.1.set 4 true) 1 = true := g0
    have e2 : alv (s.1.set 4 true) 5 = true := g4
    simp only [List.any_cons, List.any_nil, Bool.or_false, e1, e2]
    rfl
  · unfold smB
    refine decide_eq_true ⟨?_, ?_⟩
    · show (s.2.1.set 4 (s.2.1[0]?.getD 0))[0]?.getD 0 = (s.2.1.set 4 (s.2.1[0]?.getD 0))[4]?.getD 0
      rw [m0, m4]
    · refine srt_ext (zC_srt hv.sr 1) (zC_srt hv.sr 5) fun c => ?_
      rw [mem_zC, mem_zC, mem_forkC h.sr hn, mem_forkC h.sr hn]
      dsimp only
      constructor
      · rintro ⟨c1, h1 | h1⟩
        · exact ⟨c1, .inr ⟨rfl, h1⟩⟩
        · exact absurd h1.1 (by decide)
      · rintro ⟨c1, h1 | h1⟩
        · exact absurd rfl (hn _ h1)
        · exact ⟨c1, .inl h1.2⟩
/-- leaving gives the memory back -/
theorem fk_back {s : FSt} (h : Vl s) (hl : Low s) (h0 : (oFk 0 4 s).2 = 0) : oEx 4 (oFk 0 4 s).1 = (s, 0) := by
  have hv := oFk_val h (k := 0) (j := 4) (by decide) (by decide) h0
  obtain ⟨_, _, _, a4, _⟩ := fk_same h hl h0
  obtain ⟨ha, e⟩ := fk_ok h hl h0
  have hn := fk_no h hl
  have e2 := oEx_eq hv (k := 4) (by decide)
  rw [if_pos a4] at e2
  have h2 : (oEx 4 (oFk 0 4 s).1).2 = 0 := by rw [e2]
  have hv2 := (oEx_loc (k := 4) (by decide)).val hv h2
  refine Prod.ext ?_ h2
  refine vl_ext hv2 h fun k hk => ?_
  by_cases hk4 : k = 4
  · subst hk4
    rw [e2, e]
    rw [vw_iff]
    dsimp only
    rw [get_set (by simp [h.la]), if_pos rfl, get_set (by simp [h.lm]), if_pos rfl, hl 4 (by decide), h.dd 4 (by decide) (hl 4 (by decide))]
    refine ⟨rfl, rfl, ?_⟩
    have hfs := (fork_srt h.sr (p := 1) hn).1
    refine zc_ext (woC_srt' hfs _ _ _) h.sr fun x => ?_
    constructor
    · intro hx
      obtain ⟨x1, x2⟩ := mem_woC.1 hx
      have hc := hv.ck _ (by rw [e]; exact x1)
      obtain ⟨_, k2, _⟩ := ck1_iff.1 hc
      exact absurd ⟨rfl, k2.1, by have := k2.2; omega⟩ x2
    · intro hx
      exact absurd rfl (hn _ hx)
  · rw [(oEx_loc (k := 4) (by decide)).oth hv h2 k hk hk4, e, vw_iff]
    dsimp only
    rw [get_set (by rw [h.la]; decide), if_neg hk4, get_set (by rw [h.lm]; decide), if_neg hk4]
    refine ⟨rfl, rfl, zc_ext (fork_srt h.sr hn).1 h.sr fun x => ?_⟩
    rw [mem_forkC h.sr hn]
    dsimp only
    constructor
    · rintro (h1 | h1)
      · exact h1
      · omega
    · exact .inl
/-- five anew: alive, no pages; then all pages mapped, each empty -/
theorem fk_new {s : FSt} (h : Vl s) (hl : Low s) : (oSp 4 s).2 = 0 ∧ (oMp 4 0 63 (oSp 4 s).1).2 = 0 ∧ Vl (oSp 4 s).1 ∧ Vl (oMp 4 0 63 (oSp 4 s).1).1 ∧ ∀ g : Nat, g < 64 → mapE (oMp 4 0 63 (oSp 4 s).1).1.1 (oMp 4 0 63 (oSp 4 s).1).1.2.1 (oMp 4 0 63 (oSp 4 s).1).1.2.2 5 g 0 = 0 ∧ pcO (oMp 4 0 63 (oSp 4 s).1).1.1 (oMp 4 0 63 (oSp 4 s).1).1.2.1 (oMp 4 0 63 (oSp 4 s).1).1.2.2 5 g = [0, 0, 0, 0, 0, 0, 0, 0] := by
  have e := oSp_eq h (k := 4) (by decide)
  rw [hl 4 (by decide), if_neg (by decide)] at e
  have e0 : (oSp 4 s).2 = 0 := by rw [e]
  have v1 := (oSp_loc (k := 4) (by decide)).val h e0
  have hm4 := h.dd 4 (by decide) (hl 4 (by decide))
  have hn := fk_no h hl
  have e2 := oMp_eq v1 (k := 4) (by decide) 0 63
  rw [e] at e2 v1 ⊢
  dsimp only at e2 v1 ⊢
  have a4 : (s.1.set 4 true)[4]?.getD false = true := by rw [get_set (by rw [h.la]; decide), if_pos rfl]
  rw [a4, if_pos rfl, if_neg (by decide), hm4, if_neg (by decide)] at e2
  have e20 : (oMp 4 0 63 (s.1.set 4 true, s.2.1, s.2.2)).2 = 0 := by rw [e2]
  have v2 := (oMp_loc (k := 4) (by decide) 0 63).val v1 e20
  refine ⟨rfl, e20, v1, v2, fun g hg => ?_⟩
  rw [e2] at v2 ⊢
  dsimp only at v2 ⊢
  have hE : mapE (s.1.set 4 true) (s.2.1.set 4 (0 ||| pgM (0 : Int).toNat (63 : Int).toNat)) s.2.2 5 g 0 = 0 := by
    have := mpE_eq v2 (k := 4) (by decide) (g : Int) 0
    dsimp only at this
    rw [a4, if_pos rfl, if_neg (fun hh => hh ⟨⟨by omega, by omega⟩, ⟨by decide, by decide⟩⟩), get_set (by rw [h.lm]; decide), if_pos rfl, if_neg] at this
    · exact this
    · rw [Nat.zero_or, pgM_bit (by decide), decide_eq_true]
      · decide
      · exact ⟨Nat.zero_le _, by show (g : Int).toNat ≤ 63; omega⟩
  refine ⟨hE, ?_⟩
  refine List.ext_getElem (by rw [pcO_len8]; rfl) fun w w1 w2 => ?_
  rw [pcO_len8] at w1
  have hp := pcO_get (p := 5) (vl_chk v2) (by decide) a4 hg w1
  dsimp only at hp
  rw [List.getElem?_eq_getElem (by rw [pcO_len8]; exact w1), Option.getD_some] at hp
  rw [hp, rdV_none v2 w1 (fun u hu hm => hn _ hm rfl)]
  have : w = 0 ∨ w = 1 ∨ w = 2 ∨ w = 3 ∨ w = 4 ∨ w = 5 ∨ w = 6 ∨ w = 7 := by omega
  rcases this with rfl | rfl | rfl | rfl | rfl | rfl | rfl | rfl <;> rfl
end Go.Proofs.Ytdfolpfibhfmlaa
