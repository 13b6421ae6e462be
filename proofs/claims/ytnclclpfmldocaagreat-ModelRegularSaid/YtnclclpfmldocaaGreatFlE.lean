import Derived.Test.YtnclclpfmldocaaGreatFlD

/- A flat memory: Page of both sides, by the engine. -/
namespace Go.Proofs.YtnclclpfmldocaaGreat
open Go.RowKit
set_option maxRecDepth 100000
set_option linter.unusedSimpArgs false
set_option linter.unusedVariables false

theorem ck1_zero {mp : List Nat} {c : Cl} (h : ck1 mp c = 0) : Prc c.1 ∧ Pgs c.2.1 ∧ Wrd c.2.2.1 ∧ c.2.2.2 ≠ 0 ∧ mpd mp c.1 c.2.1 = true := by
  unfold ck1 at h
  by_cases h1 : Prc c.1 ∧ Pgs c.2.1 ∧ Wrd c.2.2.1
  · rw [if_neg (fun hh => hh h1)] at h
    by_cases h2 : c.2.2.2 = 0
    · rw [if_pos h2] at h; cases h
    · rw [if_neg h2] at h
      cases h3 : mpd mp c.1 c.2.1 with
      | false => rw [h3] at h; simp at h
      | true => exact ⟨h1.1, h1.2.1, h1.2.2, h2, rfl⟩
  · rw [if_pos h1] at h; cases h
theorem ckGo_mem {mp : List Nat} : ∀ (cs : List Cl) (b : Option Cl), ckGo mp b cs = 0 → ∀ c ∈ cs, ck1 mp c = 0
  | [], _, _, c, hc => by cases hc
  | x :: r, b, h, c, hc => by
    have hx : ck1 mp x = 0 ∧ ckGo mp (some x) r = 0 := by
      cases b with
      | none =>
        rw [ckGo] at h
        by_cases h1 : ck1 mp x = 0
        · rw [if_neg (by simpa using h1)] at h; exact ⟨h1, h⟩
        · rw [if_pos h1] at h; exact absurd h h1
      | some b =>
        rw [ckGo] at h
        by_cases h1 : ck1 mp x = 0
        · rw [if_neg (by simpa using h1)] at h
          by_cases h2 : Bef b x
          · rw [if_pos h2] at h; exact ⟨h1, h⟩
          · rw [if_neg h2] at h; cases h
        · rw [if_pos h1] at h; exact absurd h h1
    rcases List.mem_cons.1 hc with rfl | hc
    · exact hx.1
    · exact ckGo_mem r (some x) hx.2 c hc
theorem flchk_go {al : List Bool} {mp : List Nat} {cs : List Cl} (h : flchk al mp cs = 0) : ckGo mp none cs = 0 := by
  unfold flchk at h
  split at h
  · cases h
  · split at h
    · cases h
    · exact h
def ctA (C : List Nat) : List AV := C.map fun n : Nat => wv (n : Int)
theorem ctA_len (C : List Nat) : (ctA C).length = C.length := by simp [ctA]
theorem ctA_zero : ctA [0, 0, 0, 0, 0, 0, 0, 0] = [wv 0, wv 0, wv 0, wv 0, wv 0, wv 0, wv 0, wv 0] := rfl
theorem ctA_ren (ρ : Nat → Nat) (C : List Nat) : renL ρ (ctA C) = ctA C := by
  rw [renL_map]; simp [ctA, AV.ren]
theorem ctA_flat : ∀ C : List Nat, flatL (ctA C)
  | [] => trivial
  | n :: C => ⟨trivial, ctA_flat C⟩
theorem ctA_set {C : List Nat} {w v : Nat} (h : w < C.length) : List.take w (ctA C) ++ AV.d (.int .u64 (v : Int)) :: List.drop (w + 1) (ctA C) = ctA (C.set w v) := by
  unfold ctA
  rw [List.map_set, List.set_eq_take_append_cons_drop, if_pos (by simpa using h)]
theorem ctA_take (C : List Nat) (h : C.length = 8) : List.take 8 (ctA C) = ctA C := List.take_of_length_le (by rw [ctA_len]; omega)
def pgF (p g : Int) (C : List Nat) (c : Cl) : List Nat := if c.1 = p ∧ c.2.1 = g then C.set c.2.2.1.toNat c.2.2.2 else C
def pgC (cs : List Cl) (p g : Int) : List Nat := cs.foldl (pgF p g) [0, 0, 0, 0, 0, 0, 0, 0]
def PgS : Spec := { rel := fun args ins res outs => ∃ (al : List Bool) (mp : List Nat) (cs : List Cl) (p g : Int), U64 mp ∧ al.length ≤ 1000000 ∧ mp.length ≤ 1000000 ∧ cs.length ≤ 1000000 ∧ args = [fm al mp cs, iv p, iv g] ∧ ins = [] ∧ res = .tup [.agg (ctA (if mapE al mp cs p g 0 = 0 then pgC cs p g else [0, 0, 0, 0, 0, 0, 0, 0])), iv (mapE al mp cs p g 0)] ∧ outs = [] }
theorem mapE_zero {al : List Bool} {mp : List Nat} {cs : List Cl} {p g w : Int} (h : mapE al mp cs p g w = 0) : lvsE al mp cs [p] = 0 ∧ Pgs g ∧ Wrd w ∧ mpd mp p g = true := by
  unfold mapE at h
  by_cases h0 : lvsE al mp cs [p] = 0
  · rw [if_neg (by simpa using h0)] at h
    by_cases h1 : Pgs g ∧ Wrd w
    · rw [if_neg (fun hh => hh h1)] at h
      cases h3 : mpd mp p g with
      | false => rw [h3] at h; simp at h
      | true => exact ⟨h0, h1.1, h1.2, rfl⟩
    · rw [if_pos h1] at h; cases h
  · rw [if_pos h0] at h; exact absurd h h0
end Go.Proofs.YtnclclpfmldocaaGreat

/- A flat memory: the specification's Page, by the engine. -/
namespace Go.Proofs.YtnclclpfmldocaaGreat
open Go.RowKit
set_option maxRecDepth 100000
set_option linter.unusedSimpArgs false
set_option linter.unusedVariables false

abbrev rPgS : Spec := PgS
end Go.Proofs.YtnclclpfmldocaaGreat
