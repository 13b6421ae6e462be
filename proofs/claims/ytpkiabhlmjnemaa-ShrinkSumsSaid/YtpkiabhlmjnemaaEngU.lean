/- Engine, part U: an object of the frame's own is given up and stands as pure data from then on. -/
import Derived.Test.YtpkiabhlmjnemaaEngS
namespace Go.Proofs.Ytpkiabhlmjnemaa
open Go.RowKit

def fzA (i sz : Nat) (rs : List (List D)) : AV → AV
  | .row j sz' o len => if j = i ∧ sz' = sz ∧ o + len ≤ rs.length then .d (.sl ((rs.drop o).take len)) else .row j sz' o len
  | x => x
def fzT (i sz : Nat) (rs : List (List D)) : List (Nat × AV) → List (Nat × AV)
  | [] => []
  | (s, x) :: l => (s, fzA i sz rs x) :: fzT i sz rs l
theorem fzT_look (i sz : Nat) (rs : List (List D)) : ∀ (t : List (Nat × AV)) (s : Nat) (y : AV), look (fzT i sz rs t) s = some y → ∃ x, look t s = some x ∧ y = fzA i sz rs x
  | [], s, y, h => by simp [fzT, look] at h
  | (q, x) :: l, s, y, h => by
    simp only [fzT, look] at h
    split at h
    · rename_i e; injection h with h; exact ⟨x, by simp [look, e], h.symm⟩
    · rename_i e
      obtain ⟨x', h1, h2⟩ := fzT_look i sz rs l s y h
      exact ⟨x', by simp [look, e, h1], h2⟩

theorem W_freeze {cx : Cx} {c : Code} {σ : St} {Q : Exit → St → Prop} (hBo : ∀ b, ¬ cx.Bo b) (i : Nat) {t : TypeId} {sz : Nat} {rs : List (List D)} (hi : σ.h[i]? = some (some (.rows t sz rs))) (h : W cx c ⟨fzT i sz rs σ.t, σ.h.set i none⟩ Q) : W cx c σ Q := by
  intro μ a w hr
  have hlt : i < σ.h.length := (List.getElem?_eq_some_iff.1 hi).1
  have eH : ∀ j, St.H ⟨fzT i sz rs σ.t, σ.h.set i none⟩ j = if j = i then none else σ.H j := by
    intro j
    simp only [St.H, List.getElem?_set]
    by_cases hj : i = j
    · subst hj; simp [hlt]
    · rw [if_neg hj, if_neg (fun h => hj h.symm)]
  have e0 : σ.H i = some (.rows t sz rs) := by simp [St.H, hi]
  have sub : ∀ j, St.H ⟨fzT i sz rs σ.t, σ.h.set i none⟩ j ≠ none → σ.H j ≠ none ∧ j ≠ i := by
    intro j hj
    rw [eH] at hj
    by_cases e : j = i
    · rw [if_pos e] at hj; exact absurd rfl hj
    · rw [if_neg e] at hj; exact ⟨hj, e⟩
  have hS : ∀ b, cx.Sta σ.H μ w b → cx.Sta (St.H ⟨fzT i sz rs σ.t, σ.h.set i none⟩) μ w b := by
    rintro b (hv | ⟨h1, h2, h3, h4⟩)
    · exact .inl hv
    · exact .inr ⟨h1, h2, h3, fun j hj he => h4 j (sub j hj).1 he⟩
  have ev0 := Ev.refl w (fun _ => False)
  refine h μ a w ⟨⟨hr.rr.n, hr.rr.dfr, fun s y hy => ?_, fun j o ho => ?_, fun j b hj hb => hr.rr.own j b (sub j hj).1 hb, fun j k b hj hk => hr.rr.inj j k b (sub j hj).1 (sub k hk).1, hr.rr.fr, hr.rr.vlt, hr.rr.blt⟩, fun j hj => hr.mu j (by simpa using hj), hr.bor, by simpa using hr.kle⟩
  · obtain ⟨x, hx, rfl⟩ := fzT_look i sz rs σ.t s y hy
    obtain ⟨v, h1, h2⟩ := hr.rr.tm s x hx
    refine ⟨v, h1, ?_⟩
    cases x with
    | row j sz' o len =>
      simp only [fzA]
      split
      · rename_i hc
        obtain ⟨rfl, rfl, hol⟩ := hc
        cases h2 with
        | rowNil hb =>
          have e : (rs.drop 0).take 0 = ([] : List (List D)) := by simp
          rw [e]; exact .d .nil
        | row hb b2 b3 b4 b5 =>
          rename_i b c' arr tt
          refine .d (snap_rows hr.rr e0 hb hS (.inr ⟨?_, heap_lt b2, hBo b, fun k hk he => ?_⟩) (by simp; omega) b3 b4)
          · rcases (hr.rr.own j b (by rw [e0]; simp) hb).1 with h3 | h3
            · exact h3
            · exact absurd h3 (hBo b)
          · have hk2 := sub k hk
            exact hk2.2 (hr.rr.inj k j b hk2.1 (by rw [e0]; simp) he hb)
      · exact h2.evolve ev0 (fun _ h => h.elim) hS (fun _ _ h => h)
    | _ => exact h2.evolve ev0 (fun _ h => h.elim) hS (fun _ _ h => h)
  · rw [eH] at ho
    by_cases e : j = i
    · rw [if_pos e] at ho; cases ho
    · rw [if_neg e] at ho
      exact (hr.rr.ob j o ho).evolve ev0 (fun _ h => h.elim) hS (fun _ _ h => h) (fun _ _ h => h)

end Go.Proofs.Ytpkiabhlmjnemaa
