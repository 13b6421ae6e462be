/- Engine, part P: a row may be read as a shorter one. -/
import Derived.Test.YtokocigmchfdfaaEngO
set_option linter.unusedSimpArgs false
set_option linter.unusedVariables false
namespace Go.Proofs.Ytokocigmchfdfaa
open Go.RowKit

theorem obrep_take {w : World} {S : Nat → Prop} {μ : Mu} {i : Nat} {t : TypeId} {sz : Nat} {rs : List (List D)} (n : Nat) (h : ObRep w S μ i (.rows t sz rs)) : ObRep w S μ i (.rows t sz (rs.take n)) := by
  cases h with
  | rowsNil h1 h2 => simp only [List.take_nil]; exact .rowsNil h1 h2
  | rows h1 h2 h3 h4 h5 h6 =>
    have sub : ∀ (k : Nat) (r : List D), (rs.take n)[k]? = some r → rs[k]? = some r := by
      intro k r hk
      rw [List.getElem?_take] at hk
      split at hk
      · exact hk
      · cases hk
    refine .rows h1 h2 h3 (Nat.le_trans (Nat.mul_le_mul_right _ ?_) h4) (fun k r hk => h5 k r (sub k r hk)) (fun k j r x v hk hj hv => h6 k j r x v (sub k r hk) hj hv)
    simp only [List.length_take]; omega

/-- an object's rows behind the n-th are forgotten -/
theorem W_trim {cx : Cx} {c : Code} {σ : St} {Q : Exit → St → Prop} (i : Nat) (n : Nat) {t : TypeId} {sz : Nat} {rs : List (List D)} (hi : σ.h[i]? = some (some (.rows t sz rs))) (h : W cx c ⟨σ.t, σ.h.set i (some (.rows t sz (rs.take n)))⟩ Q) : W cx c σ Q := by
  intro μ a w hr
  have hlt : i < σ.h.length := (List.getElem?_eq_some_iff.1 hi).1
  have e : ∀ j, St.H ⟨σ.t, σ.h.set i (some (.rows t sz (rs.take n)))⟩ j = if j = i then some (.rows t sz (rs.take n)) else σ.H j := by
    intro j
    simp only [St.H, List.getElem?_set]
    by_cases hj : i = j
    · subst hj; simp [hlt]
    · rw [if_neg hj, if_neg (fun h => hj h.symm)]
  have e0 : σ.H i = some (.rows t sz rs) := by simp [St.H, hi]
  have en : ∀ j, St.H ⟨σ.t, σ.h.set i (some (.rows t sz (rs.take n)))⟩ j ≠ none ↔ σ.H j ≠ none := by
    intro j
    rw [e j]
    by_cases hj : j = i
    · subst hj; simp [e0]
    · rw [if_neg hj]
  have es : cx.Sta (St.H ⟨σ.t, σ.h.set i (some (.rows t sz (rs.take n)))⟩) μ w = cx.Sta σ.H μ w := by
    funext b
    simp only [Cx.Sta, en]
  refine h μ a w ⟨⟨hr.rr.n, hr.rr.dfr, ?_, ?_, ?_, ?_, hr.rr.fr, hr.rr.vlt, hr.rr.blt⟩, fun j hj => hr.mu j (by simpa using hj), hr.bor, by simpa using hr.kle⟩
  · rw [es]; exact hr.rr.tm
  · intro j o ho
    rw [es]
    rw [e j] at ho
    by_cases hj : j = i
    · subst hj; rw [if_pos rfl] at ho; injection ho with ho; subst ho
      exact obrep_take n (hr.rr.ob _ _ e0)
    · rw [if_neg hj] at ho; exact hr.rr.ob j o ho
  · intro j b hj; exact hr.rr.own j b ((en j).1 hj)
  · intro j k b hj hk; exact hr.rr.inj j k b ((en j).1 hj) ((en k).1 hk)

def scopeQ (Q : Exit → St → Prop) : Exit → St → Prop
  | .normal, σ => Q .normal σ
  | .exit i, σ => Q (.exit i) σ
  | .goto _, _ => False
  | .ret, σ => Q .ret σ
  | .panic c, σ => Q (.panic c) σ
  | .outgrown, σ => Q .outgrown σ
attribute [go_sem] scopeQ
theorem W_scope {cx : Cx} {x : Code} {σ : St} {Q : Exit → St → Prop} (h : W cx x σ (scopeQ Q)) : W cx (.scope x) σ Q := by
  intro μ a w hr
  refine wp_scope_straight (wp_mono (h μ a w hr) ?_)
  rintro e a' w' ⟨σ', μ', h1, h2⟩
  cases e with
  | goto l => exact h1.elim
  | _ => exact ⟨σ', μ', h1, h2⟩
end Go.Proofs.Ytokocigmchfdfaa
