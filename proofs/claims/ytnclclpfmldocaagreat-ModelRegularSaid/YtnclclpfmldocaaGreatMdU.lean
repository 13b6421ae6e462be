/- Requests of an allowed trace: which wait, in order of their tickets. -/
import Derived.Test.YtnclclpfmldocaaGreatMdQ
import Derived.Test.YtnclclpfmldocaaGreatMdF
namespace Go.Proofs.YtnclclpfmldocaaGreat
open Go.RowKit
set_option maxRecDepth 100000
set_option linter.unusedSimpArgs false
set_option linter.unusedVariables false

/-- a request: ticket, process, from, to -/
structure Wt where
  t : Nat
  p : Int
  f : Int
  o : Int
def encWt (x : Wt) : List D := [.int .u64 (x.t : Int), .int .i64 x.p, .int .i64 x.f, .int .i64 x.o]
/-- an entry of the map of open requests: process, number, when it was put in -/
abbrev Pe := Int × Nat × Nat
def peE (x : Pe) : Ie := ⟨x.1, .int .i64 (x.2.1 : Int), x.2.2⟩
def pget (l : List Pe) (k : Int) : Option Nat := (l.find? fun x => k == x.1).map (·.2.1)
theorem iIdx_map (k : Int) : ∀ l : List Pe, iIdx k (l.map peE) = l.findIdx? (fun x => k == x.1)
  | [] => rfl
  | x :: l => by
    have := iIdx_map k l
    unfold iIdx at this ⊢
    rw [List.map_cons, List.findIdx?_cons, List.findIdx?_cons, this]
    rfl
theorem pget_cons (x : Pe) (l : List Pe) (k : Int) : pget (x :: l) k = if k = x.1 then some x.2.1 else pget l k := by
  unfold pget
  rw [List.find?_cons]
  by_cases h : k = x.1
  · rw [if_pos h, show (k == x.1) = true by simpa using h]; rfl
  · rw [if_neg h, show (k == x.1) = false by simpa using h]
theorem iget_pe (k : Int) : ∀ l : List Pe, iget (l.map peE) k = (pget l k).map fun j => .int .i64 (j : Int)
  | [] => rfl
  | x :: l => by
    have ih := iget_pe k l
    unfold iget at ih ⊢
    rw [iIdx_map] at ih ⊢
    rw [List.findIdx?_cons, pget_cons]
    by_cases h : k = x.1
    · rw [if_pos h, show (k == x.1) = true by simpa using h]; rfl
    · rw [if_neg h, show (k == x.1) = false by simpa using h, ← ih]
      cases l.findIdx? (fun x => k == x.1) with
      | none => rfl
      | some i => simp
theorem pget_none {l : List Pe} {k : Int} (h : pget l k = none) : ∀ x ∈ l, x.1 ≠ k := by
  intro x hx e
  unfold pget at h
  rw [Option.map_eq_none_iff, List.find?_eq_none] at h
  have := h x hx
  simp [e] at this
theorem iput_pe {l : List Pe} {k : Int} (h : pget l k = none) (ck j : Nat) : iput (l.map peE) ck k (.int .i64 (j : Int)) = ((l ++ [(k, j, ck)]).map peE, ck + 1) := by
  have hn : iIdx k (l.map peE) = none := by
    rw [iIdx_map, List.findIdx?_eq_none_iff]
    intro x hx
    have := pget_none h x hx
    simpa using fun e => this e.symm
  unfold iput
  rw [hn]
  simp [peE]
theorem idel_pe (k : Int) : ∀ l : List Pe, (l.map (·.1)).Nodup → idel (l.map peE) k = (l.filter fun x => decide (x.1 ≠ k)).map peE
  | [], _ => rfl
  | x :: l, h => by
    rw [List.map_cons, List.nodup_cons] at h
    have ih := idel_pe k l h.2
    unfold idel at ih ⊢
    rw [iIdx_map] at ih ⊢
    rw [List.findIdx?_cons]
    by_cases hx : k = x.1
    · rw [show (k == x.1) = true by simpa using hx]
      have hf : l.filter (fun x => decide (x.1 ≠ k)) = l := by
        rw [List.filter_eq_self]
        intro y hy
        have : y.1 ≠ k := fun e => h.1 (by rw [← hx, ← e]; exact List.mem_map.2 ⟨y, hy, rfl⟩)
        simpa using this
      rw [List.filter_cons_of_neg (by simpa using hx.symm), hf]
      simp
    · rw [show (k == x.1) = false by simpa using hx]
      rw [List.filter_cons_of_pos (by simpa using fun e => hx e.symm), List.map_cons]
      cases hf : l.findIdx? (fun x => k == x.1) with
      | none => rw [hf] at ih; simp only at ih; simp only [Bool.false_eq_true, if_false, Option.map_none, List.map_cons]; rw [← ih]
      | some i => rw [hf] at ih; simp only at ih; simp only [Bool.false_eq_true, if_false, Option.map_some, List.map_cons, List.eraseIdx_cons_succ]; rw [← ih]
theorem pget_app (l : List Pe) (x : Pe) (k : Int) : pget (l ++ [x]) k = (pget l k).or (if k = x.1 then some x.2.1 else none) := by
  induction l with
  | nil => rw [List.nil_append, pget_cons]; simp [pget]
  | cons y l ih => rw [List.cons_append, pget_cons, pget_cons, ih]; split <;> rfl
theorem pget_fil (l : List Pe) (k q : Int) : pget (l.filter fun x => decide (x.1 ≠ k)) q = if q = k then none else pget l q := by
  induction l with
  | nil => simp [pget]
  | cons y l ih =>
    by_cases hy : y.1 = k
    · rw [List.filter_cons_of_neg (by simpa using hy), ih, pget_cons]
      by_cases hq : q = k
      · rw [if_pos hq, if_pos hq]
      · rw [if_neg hq, if_neg hq, if_neg (by omega)]
    · rw [List.filter_cons_of_pos (by simpa using hy), pget_cons, ih, pget_cons]
      by_cases hq : q = k
      · rw [if_pos hq, if_pos hq, if_neg (by omega)]
      · rw [if_neg hq, if_neg hq]
/-- requests, the open ones among them -/
structure Fw where
  ws : List Wt
  op : List Pe
  ck : Nat
def clo (i : Nat) (w : Wt) : Wt := ⟨w.t, w.p, w.f, (i : Int)⟩
def foS (i : Nat) (a : Fw) (x : Oc) : Fw :=
  if x.k = 9 then ⟨a.ws ++ [⟨x.t, x.p, (i : Int), -1⟩], a.op ++ [(x.p, a.ws.length, a.ck)], a.ck + 1⟩
  else if x.t = 0 then a
  else ⟨a.ws.modify ((pget a.op x.p).getD 0) (clo i), a.op.filter (fun e => decide (e.1 ≠ x.p)), a.ck⟩
structure Fo (i : Nat) (s : Sy) (a : Fw) : Prop where
  nd : (a.op.map (·.1)).Nodup
  z : ∀ k : Nat, k < 8 → s.W[k]?.getD 0 = 0 → pget a.op ((k : Int) + 1) = none
  w : ∀ k : Nat, k < 8 → s.W[k]?.getD 0 ≠ 0 → ∃ j, ∃ hj : j < a.ws.length, pget a.op ((k : Int) + 1) = some j ∧ a.ws[j].t = s.W[k]?.getD 0 ∧ a.ws[j].o = -1
  cl : ∀ j (hj : j < a.ws.length), a.ws[j].o < 0 → ∃ k : Nat, k < 8 ∧ pget a.op ((k : Int) + 1) = some j
  asc : (a.ws.map (·.t)).Pairwise (· < ·)
  lt : ∀ n ∈ a.ws.map (·.t), n ≤ s.L ∧ n ≠ 0
  len : a.ws.length ≤ i
theorem fo_nil : Fo 0 sy0 ⟨[], [], 0⟩ := by
  refine ⟨by simp, fun k _ _ => rfl, fun k hk h => ?_, fun j hj => absurd hj (Nat.not_lt_zero _), by simp, by simp, Nat.le_refl _⟩
  exfalso
  apply h
  show mp0[k]?.getD 0 = 0
  rcases (show k = 0 ∨ k = 1 ∨ k = 2 ∨ k = 3 ∨ k = 4 ∨ k = 5 ∨ k = 6 ∨ k = 7 by omega) with rfl | rfl | rfl | rfl | rfl | rfl | rfl | rfl <;> rfl
/-- what the program finds at a step of an allowed trace -/
structure Fs (a : Fw) (x : Oc) : Prop where
  q : x.k = 9 → pget a.op x.p = none ∧ ∀ n ∈ a.ws.map (·.t), n < x.t
  e : x.k ≠ 9 → x.t ≠ 0 → ∃ j, ∃ hj : j < a.ws.length, pget a.op x.p = some j ∧ a.ws[j].t = x.t
theorem fo_step {i : Nat} {s s' : Sy} {a : Fw} {x : Oc} (hF : Fo i s a) (hs : Vs s) (h : ocE x = 0) (hn : nx s x = some s') : Fs a x ∧ Fo (i + 1) s' (foS i a x) := by
  obtain ⟨k1, k2, p1, p2, hf, hu⟩ := oc_kind h
  obtain ⟨hq, hp⟩ := ix_lt p1 p2
  have hlw : ix x.p < s.W.length := by rw [hs.lw]; exact hq
  unfold nx at hn
  by_cases h9 : x.k = 9
  · rw [if_pos h9] at hn
    by_cases hc : s.W[ix x.p]?.getD 0 = 0 ∧ s.L < x.t
    case neg => rw [if_neg hc] at hn; cases hn
    rw [if_pos hc] at hn
    injection hn with hn
    subst hn
    have hg := hF.z _ hq hc.1
    rw [hp] at hg
    refine ⟨⟨fun _ => ⟨hg, fun n hn => by have := (hF.lt n hn).1; omega⟩, fun h => absurd h9 h⟩, ?_⟩
    unfold foS
    rw [if_pos h9]
    refine ⟨?_, fun k hk h0 => ?_, fun k hk h0 => ?_, fun j hj h0 => ?_, ?_, fun n hn => ?_, by simp; exact hF.len⟩
    · rw [List.map_append, List.nodup_append]
      refine ⟨hF.nd, by simp, ?_⟩
      intro y hy z hz
      obtain ⟨e, he, rfl⟩ := List.mem_map.1 hy
      simp at hz
      subst hz
      exact pget_none hg e he
    · dsimp only at h0 ⊢
      rw [get_set hlw] at h0
      by_cases hk' : k = ix x.p
      · rw [if_pos hk'] at h0; omega
      · rw [if_neg hk'] at h0
        rw [pget_app, hF.z k hk h0, if_neg (by dsimp only; omega)]; rfl
    · dsimp only at h0 ⊢
      rw [get_set hlw] at h0 ⊢
      by_cases hk' : k = ix x.p
      · rw [if_pos hk'] at h0 ⊢
        refine ⟨a.ws.length, by simp, ?_, by simp, by simp⟩
        rw [pget_app, hk', hp, hg, if_pos rfl]; rfl
      · rw [if_neg hk'] at h0 ⊢
        obtain ⟨j, hj, e1, e2, e3⟩ := hF.w k hk h0
        refine ⟨j, by simp; omega, ?_, ?_, ?_⟩
        · rw [pget_app, e1]; rfl
        · rw [List.getElem_append_left hj]; exact e2
        · rw [List.getElem_append_left hj]; exact e3
    · dsimp only at hj h0 ⊢
      by_cases hjl : j < a.ws.length
      · rw [List.getElem_append_left hjl] at h0
        obtain ⟨k, hk, e1⟩ := hF.cl j hjl h0
        exact ⟨k, hk, by rw [pget_app, e1]; rfl⟩
      · have : j = a.ws.length := by simp at hj; omega
        subst this
        exact ⟨ix x.p, hq, by rw [pget_app, hp, hg, if_pos rfl]; rfl⟩
    · dsimp only
      rw [List.map_append, List.pairwise_append]
      refine ⟨hF.asc, by simp, fun n hn m hm => ?_⟩
      simp at hm
      have := (hF.lt n hn).1
      omega
    · dsimp only at hn ⊢
      rw [List.map_append, List.mem_append] at hn
      rcases hn with hn | hn
      · have := hF.lt n hn; omega
      · simp at hn; omega
  · rw [if_neg h9] at hn
    by_cases hc : s.W[ix x.p]?.getD 0 = x.t ∧ (opO x s.m).2 = 0
    case neg => rw [if_neg hc] at hn; cases hn
    rw [if_pos hc] at hn
    injection hn with hn
    subst hn
    have hF' : ∀ {u : Sy}, u.W = s.W → u.L = s.L → Fo (i + 1) u a := fun {u} e1 e2 => ⟨hF.nd, by rw [e1]; exact hF.z, by rw [e1]; exact hF.w, hF.cl, hF.asc, by rw [e2]; exact hF.lt, Nat.le_succ_of_le hF.len⟩
    by_cases ht : x.t = 0
    · refine ⟨⟨fun h => absurd h h9, fun _ h => absurd ht h⟩, ?_⟩
      unfold foS
      rw [if_neg h9, if_pos ht]
      exact hF' (set_self (hc.1.trans ht)) rfl
    obtain ⟨j, hj, e1, e2, e3⟩ := hF.w _ hq (by rw [hc.1]; exact ht)
    rw [hp] at e1
    refine ⟨⟨fun h => absurd h h9, fun _ _ => ⟨j, hj, e1, by rw [e2]; exact hc.1⟩⟩, ?_⟩
    unfold foS
    rw [if_neg h9, if_neg ht, e1, Option.getD_some]
    have hm : (a.ws.modify j (clo i)).map (·.t) = a.ws.map (·.t) := by
      apply List.ext_getElem (by simp)
      intro n h1 h2
      simp only [List.getElem_map, List.getElem_modify]
      split <;> rfl
    refine ⟨?_, fun k hk h0 => ?_, fun k hk h0 => ?_, fun n hn h0 => ?_, by rw [hm]; exact hF.asc, by rw [hm]; exact hF.lt, by simp; have := hF.len; omega⟩
    · exact hF.nd.sublist (List.filter_sublist.map _)
    · dsimp only at h0 ⊢
      rw [get_set hlw] at h0
      rw [pget_fil]
      by_cases hk' : k = ix x.p
      · rw [if_pos (by omega)]
      · rw [if_neg hk'] at h0; rw [if_neg (by omega)]; exact hF.z k hk h0
    · dsimp only at h0 ⊢
      rw [get_set hlw] at h0 ⊢
      by_cases hk' : k = ix x.p
      · rw [if_pos hk'] at h0; exact absurd rfl h0
      · rw [if_neg hk'] at h0 ⊢
        obtain ⟨n, hn, g1, g2, g3⟩ := hF.w k hk h0
        have hnj : n ≠ j := by
          rintro rfl
          have := hs.ne k (ix x.p) hk' h0
          rw [← g2, ← e2] at this
          exact this rfl
        refine ⟨n, by simpa using hn, by rw [pget_fil, if_neg (by omega)]; exact g1, ?_, ?_⟩
        · rw [List.getElem_modify, if_neg (fun e => hnj e.symm)]; exact g2
        · rw [List.getElem_modify, if_neg (fun e => hnj e.symm)]; exact g3
    · dsimp only at hn h0 ⊢
      have hn' : n < a.ws.length := by simpa using hn
      rw [List.getElem_modify] at h0
      by_cases hnj : j = n
      · rw [if_pos hnj] at h0; simp only [clo] at h0; omega
      · rw [if_neg hnj] at h0
        obtain ⟨k, hk, g1⟩ := hF.cl n hn' h0
        refine ⟨k, hk, ?_⟩
        rw [pget_fil, if_neg ?_]
        · exact g1
        · intro e
          rw [e, e1] at g1
          injection g1 with g1
          exact hnj g1
/-- the tickets that wait, by the requests -/
def tkW2 (a : Fw) : List Nat := (a.ws.filter fun w => decide (w.o < 0)).map (·.t)
theorem tk_asc {i : Nat} {s : Sy} {a : Fw} (h : Fo i s a) : (tkW2 a).Pairwise (· < ·) := h.asc.sublist (List.filter_sublist.map _)
theorem tk_mem {i : Nat} {s : Sy} {a : Fw} (h : Fo i s a) (n : Nat) : n ∈ tkW2 a ↔ n ≠ 0 ∧ ∃ k : Nat, k < 8 ∧ s.W[k]?.getD 0 = n := by
  unfold tkW2
  rw [List.mem_map]
  constructor
  · rintro ⟨w, hw, rfl⟩
    rw [List.mem_filter] at hw
    obtain ⟨hw1, hw2⟩ := hw
    refine ⟨(h.lt _ (List.mem_map.2 ⟨w, hw1, rfl⟩)).2, ?_⟩
    obtain ⟨j, hj, rfl⟩ := List.mem_iff_getElem.1 hw1
    obtain ⟨k, hk, e1⟩ := h.cl j hj (by simpa using hw2)
    refine ⟨k, hk, ?_⟩
    by_cases h0 : s.W[k]?.getD 0 = 0
    · rw [h.z k hk h0] at e1; cases e1
    · obtain ⟨j', hj', g1, g2, g3⟩ := h.w k hk h0
      rw [e1] at g1
      injection g1 with g1
      subst g1
      exact g2.symm
  · rintro ⟨h0, k, hk, rfl⟩
    obtain ⟨j, hj, g1, g2, g3⟩ := h.w k hk h0
    exact ⟨a.ws[j], List.mem_filter.2 ⟨List.getElem_mem hj, by simp [g3]⟩, g2⟩
theorem asc_ext : ∀ A B : List Nat, A.Pairwise (· < ·) → B.Pairwise (· < ·) → (∀ n, n ∈ A ↔ n ∈ B) → A = B
  | [], [], _, _, _ => rfl
  | [], y :: B, _, _, h => absurd ((h y).2 (by simp)) (by simp)
  | x :: A, [], _, _, h => absurd ((h x).1 (by simp)) (by simp)
  | x :: A, y :: B, hA, hB, h => by
    obtain ⟨a1, a2⟩ := List.pairwise_cons.1 hA
    obtain ⟨b1, b2⟩ := List.pairwise_cons.1 hB
    have hx : x ∈ y :: B := (h x).1 (by simp)
    have hy : y ∈ x :: A := (h y).2 (by simp)
    have e : x = y := by
      rcases List.mem_cons.1 hx with hx | hx
      · exact hx
      · rcases List.mem_cons.1 hy with hy | hy
        · exact hy.symm
        · have := b1 x hx; have := a1 y hy; omega
    subst e
    rw [asc_ext A B a2 b2 fun n => ?_]
    constructor
    · intro hn
      rcases List.mem_cons.1 ((h n).1 (by simp [hn])) with e | e
      · have := a1 n hn; omega
      · exact e
    · intro hn
      rcases List.mem_cons.1 ((h n).2 (by simp [hn])) with e | e
      · have := b1 n hn; omega
      · exact e
/-- the processes that wait, of the first i -/
def wtP (W : List Nat) : Nat → List Int
  | 0 => []
  | i + 1 => wtP W i ++ if W[i]?.getD 0 = 0 then [] else [(i : Int) + 1]
theorem wtP_mem {W : List Nat} {p : Int} : ∀ {i : Nat}, p ∈ wtP W i ↔ ∃ k : Nat, k < i ∧ p = (k : Int) + 1 ∧ W[k]?.getD 0 ≠ 0
  | 0 => by simp [wtP]
  | i + 1 => by
    rw [wtP, List.mem_append, wtP_mem (i := i)]
    constructor
    · rintro (⟨k, h1, h2, h3⟩ | h)
      · exact ⟨k, by omega, h2, h3⟩
      · by_cases h0 : W[i]?.getD 0 = 0
        · rw [if_pos h0] at h; cases h
        · rw [if_neg h0] at h; simp at h; exact ⟨i, by omega, h, h0⟩
    · rintro ⟨k, h1, h2, h3⟩
      by_cases hk : k = i
      · subst hk; rw [if_neg h3]; exact .inr (by simp [h2])
      · exact .inl ⟨k, by omega, h2, h3⟩
theorem wtP_nodup (W : List Nat) : ∀ i, (wtP W i).Nodup
  | 0 => by simp [wtP]
  | i + 1 => by
    rw [wtP, List.nodup_append]
    refine ⟨wtP_nodup W i, by split <;> simp, ?_⟩
    intro x hx y hy
    obtain ⟨k, h1, h2, _⟩ := wtP_mem.1 hx
    split at hy
    · cases hy
    · simp at hy; omega
theorem wtP_len (W : List Nat) : ∀ i, (wtP W i).length ≤ i
  | 0 => Nat.le_refl _
  | i + 1 => by
    have := wtP_len W i
    rw [wtP, List.length_append]
    split <;> simp <;> omega
def tkO2 (W : List Nat) (p : Int) : Nat := W[(p - 1).toNat]?.getD 0
/-- sorted by tickets, the processes that wait have the tickets that wait -/
theorem regular {i : Nat} {s : Sy} {a : Fw} {P : List Int} (h : Fo i s a) (hs : Vs s) (hp : P.Perm (wtP s.W 8)) (hso : P.Pairwise fun x y => ¬ tkO2 s.W y < tkO2 s.W x) : P.map (tkO2 s.W) = tkW2 a ∧ ∀ p ∈ P, 1 ≤ p ∧ p ≤ 8 := by
  have hmem : ∀ p ∈ P, ∃ k : Nat, k < 8 ∧ p = (k : Int) + 1 ∧ s.W[k]?.getD 0 ≠ 0 := fun p hp' => wtP_mem.1 (hp.mem_iff.1 hp')
  have htk : ∀ k : Nat, tkO2 s.W ((k : Int) + 1) = s.W[k]?.getD 0 := fun k => by unfold tkO2; rw [show ((k : Int) + 1 - 1).toNat = k by omega]
  have hnd : P.Nodup := hp.nodup_iff.2 (wtP_nodup _ _)
  refine ⟨asc_ext _ _ ?_ (tk_asc h) fun n => ?_, fun p hp' => ?_⟩
  · rw [List.pairwise_map]
    refine List.Pairwise.imp_of_mem (fun {x y} hx hy hxy => ?_) (hso.and hnd)
    obtain ⟨k, k1, rfl, k3⟩ := hmem x hx
    obtain ⟨j, j1, rfl, j3⟩ := hmem y hy
    rw [htk, htk] at hxy ⊢
    have hkj : k ≠ j := fun e => hxy.2 (by rw [e])
    have := hs.ne k j hkj k3
    omega
  · rw [tk_mem h, List.mem_map]
    constructor
    · rintro ⟨p, hp', rfl⟩
      obtain ⟨k, k1, rfl, k3⟩ := hmem p hp'
      rw [htk]
      exact ⟨k3, k, k1, rfl⟩
    · rintro ⟨h0, k, k1, rfl⟩
      exact ⟨(k : Int) + 1, hp.mem_iff.2 (wtP_mem.2 ⟨k, k1, rfl, h0⟩), htk k⟩
  · obtain ⟨k, k1, rfl, k3⟩ := hmem p hp'
    omega
end Go.Proofs.YtnclclpfmldocaaGreat
