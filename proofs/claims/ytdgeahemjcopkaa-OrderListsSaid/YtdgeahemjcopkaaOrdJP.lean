/- The plain law of joining: what both Joins compute. -/
import Derived.Test.YtdgeahemjcopkaaOrdH
set_option linter.unusedSimpArgs false
set_option linter.unusedVariables false
namespace Go.Proofs.Ytdgeahemjcopkaa

def push : Nat → List (Int × Int) → Int × Int → List (Int × Int)
  | 0, st, b => st ++ [b]
  | f + 1, st, b => if b.2 < 6 ∧ st.getLast? = some (bud b.1 b.2, b.2) then push f st.dropLast (par b.1 b.2, b.2 + 1) else st ++ [b]
def joinL (l : List (Int × Int)) : List (Int × Int) := l.foldl (fun st b => push 7 st b) []

theorem push_stop {f : Nat} {st : List (Int × Int)} {b : Int × Int} (h : ¬ (b.2 < 6 ∧ st.getLast? = some (bud b.1 b.2, b.2))) : push f st b = st ++ [b] := by
  cases f with
  | zero => rfl
  | succ f => rw [push, if_neg h]
theorem push_go {f : Nat} {st : List (Int × Int)} {b : Int × Int} (h : b.2 < 6 ∧ st.getLast? = some (bud b.1 b.2, b.2)) : push (f + 1) st b = push f st.dropLast (par b.1 b.2, b.2 + 1) := by
  rw [push, if_pos h]
theorem joinL_take (l : List (Int × Int)) (k : Nat) (h : k < l.length) : joinL (l.take (k + 1)) = push 7 (joinL (l.take k)) l[k] := by
  unfold joinL
  rw [take_get l k h, List.foldl_append]
  rfl

theorem par_ok (a o : Int) (h : chk a o = 0) (ho : o < 6) : chk (par a o) (o + 1) = 0 := by
  obtain ⟨b0, b1, b2, b3, b4⟩ := chk_zero h
  obtain ⟨k, rfl⟩ := Int.eq_ofNat_of_zero_le b0
  obtain ⟨n, rfl⟩ := Int.eq_ofNat_of_zero_le b2
  have hp := pow_bd _ b0 b1
  have : ∀ o : Fin 6, ∀ n : Fin 257, chk (n.1 : Int) (o.1 : Int) = 0 → chk (par (n.1 : Int) (o.1 : Int)) ((o.1 : Int) + 1) = 0 := by decide +kernel
  exact this ⟨k, by omega⟩ ⟨n, by omega⟩ h

/-- blocks in order, each ending where the next begins or ahead of it; all end at e or ahead of it -/
def Sorted (st : List (Int × Int)) (e : Int) : Prop := st.Pairwise (fun x y => x.1 + 2 ^ x.2.toNat ≤ y.1) ∧ ∀ x ∈ st, x.1 + 2 ^ x.2.toNat ≤ e

theorem sorted_nil (e : Int) : Sorted [] e := ⟨.nil, fun _ h => by cases h⟩
theorem Sorted.snoc {st : List (Int × Int)} {b : Int × Int} (h : Sorted st b.1) : Sorted (st ++ [b]) (b.1 + 2 ^ b.2.toNat) := by
  refine ⟨?_, ?_⟩
  · rw [List.pairwise_append]
    exact ⟨h.1, List.pairwise_singleton _ _, fun x hx y hy => by simp at hy; subst hy; exact h.2 x hx⟩
  · intro x hx
    rcases List.mem_append.1 hx with hx | hx
    · have := h.2 x hx
      have := pow_nat b.2.toNat
      omega
    · simp at hx; subst hx; exact Int.le_refl _
theorem sorted_mono {st : List (Int × Int)} {e e' : Int} (h : Sorted st e) (he : e ≤ e') : Sorted st e' := ⟨h.1, fun x hx => Int.le_trans (h.2 x hx) he⟩

/-- a block whose buddy is the last one is the upper of the two -/
theorem Sorted.upper {st : List (Int × Int)} {a o : Int} (h : Sorted st a) (ho : 0 ≤ o) (ho' : o ≤ 6) (hl : st.getLast? = some (bud a o, o)) :
    bud a o = par a o ∧ Sorted st.dropLast (par a o) ∧ par a o + 2 ^ (o + 1).toNat = a + 2 ^ o.toNat := by
  have hm : (bud a o, o) ∈ st := List.mem_of_getLast? hl
  have he := h.2 _ hm
  have hp := pow_bd o ho ho'
  have hb : bud a o = par a o ∧ par a o = a - 2 ^ o.toNat := by
    unfold bud par at *
    split at he
    · simp only at he; omega
    · rename_i hz; simp only [if_neg hz]; exact ⟨trivial, trivial⟩
  have hst : st = st.dropLast ++ [(bud a o, o)] := by
    obtain ⟨ys, rfl⟩ := List.getLast?_eq_some_iff.1 hl
    simp
  refine ⟨hb.1, ?_, ?_⟩
  · have h1 := h.1
    rw [hst, List.pairwise_append] at h1
    rw [← hb.1]
    exact ⟨h1.1, fun x hx => h1.2.2 x hx (bud a o, o) (by simp)⟩
  · rw [hb.2, show (o + 1).toNat = o.toNat + 1 by omega, Int.pow_succ]; omega

theorem push_sorted : ∀ (f : Nat) (st : List (Int × Int)) (b : Int × Int), chk b.1 b.2 = 0 → Sorted st b.1 → Sorted (push f st b) (b.1 + 2 ^ b.2.toNat)
  | 0, st, b, _, h => h.snoc
  | f + 1, st, b, hc, h => by
    by_cases hg : b.2 < 6 ∧ st.getLast? = some (bud b.1 b.2, b.2)
    · obtain ⟨b0, b1, _⟩ := chk_zero hc
      obtain ⟨u1, u2, u3⟩ := h.upper b0 b1 hg.2
      rw [push_go hg]
      have := push_sorted f st.dropLast (par b.1 b.2, b.2 + 1) (par_ok _ _ hc hg.1) u2
      simp only at this
      rw [u3] at this
      exact this
    · rw [push_stop hg]; exact h.snoc
theorem push_len : ∀ (f : Nat) (st : List (Int × Int)) (b : Int × Int), (push f st b).length ≤ st.length + 1
  | 0, st, b => by simp [push]
  | f + 1, st, b => by
    rw [push]
    split
    · have := push_len f st.dropLast (par b.1 b.2, b.2 + 1)
      simp at this
      omega
    · simp
theorem joinL_len (l : List (Int × Int)) (k : Nat) : (joinL (l.take k)).length ≤ k := by
  induction k with
  | zero => simp [joinL]
  | succ k ih =>
    by_cases h : k < l.length
    · rw [joinL_take l k h]; have := push_len 7 (joinL (l.take k)) l[k]; omega
    · rw [List.take_of_length_le (by omega)] at ih ⊢; omega

/-- a valid list: each block begins where the one ahead of it ends, or behind -/
theorem cl_step (l : List (Int × Int)) (h : (cl l).1 = 0) : ∀ k, k ≤ l.length → (clGo k (enOf l k) (l.drop k)).1 = 0
  | 0, _ => h
  | k + 1, hk => by
    have ih := cl_step l h k (by omega)
    have hd := drop_get l k (by omega)
    rw [hd] at ih
    by_cases h1 : chk (l[k]).1 (l[k]).2 = 0
    · by_cases h2 : (l[k]).1 < enOf l k
      · rw [clGo_over h1 h2] at ih; cases ih
      · rw [clGo_go h1 h2] at ih
        have e : enOf l (k + 1) = (l[k]).1 + 2 ^ (l[k]).2.toNat := by simp [enOf, show k < l.length by omega]
        rw [e]; exact ih
    · rw [clGo_bad h1] at ih; exact absurd ih h1
theorem cl_ge (l : List (Int × Int)) (h : (cl l).1 = 0) (k : Nat) (hk : k < l.length) : enOf l k ≤ (l[k]).1 := by
  have ih := cl_step l h k (by omega)
  rw [drop_get l k hk] at ih
  by_cases h1 : chk (l[k]).1 (l[k]).2 = 0
  · by_cases h2 : (l[k]).1 < enOf l k
    · rw [clGo_over h1 h2] at ih; cases ih
    · omega
  · rw [clGo_bad h1] at ih; exact absurd ih h1
theorem join_sorted (l : List (Int × Int)) (h : (cl l).1 = 0) : ∀ k, k ≤ l.length → Sorted (joinL (l.take k)) (enOf l k)
  | 0, _ => sorted_nil _
  | k + 1, hk => by
    have ih := join_sorted l h k (by omega)
    have hlt : k < l.length := by omega
    rw [joinL_take l k hlt]
    have e : enOf l (k + 1) = (l[k]).1 + 2 ^ (l[k]).2.toNat := by simp [enOf, hlt]
    rw [e]
    exact push_sorted 7 _ _ (cl_valid h _ (List.getElem_mem hlt)) (sorted_mono ih (cl_ge l h k hlt))
end Go.Proofs.Ytdgeahemjcopkaa
