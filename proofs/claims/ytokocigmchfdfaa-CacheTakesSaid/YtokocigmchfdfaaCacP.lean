/- The plain law of caches: which are valid. -/
import Derived.Test.YtokocigmchfdfaaSlabP
set_option linter.unusedSimpArgs false
set_option linter.unusedVariables false
namespace Go.Proofs.Ytokocigmchfdfaa

def cGo : Nat → Int → List (Int × Int) → Int × Int
  | _, _, [] => (0, 0)
  | i, p, s :: l => if s.1 < 0 ∨ 256 ≤ s.1 then (2, (i : Int)) else if s.2 = 0 then (3, (i : Int)) else if s.1 ≤ p then (8, (i : Int)) else cGo (i + 1) s.1 l
def cc (c : List (Int × Int)) : Int × Int := cGo 0 (-1) c
/-- the frame ahead of the k-th slab -/
def pv (l : List (Int × Int)) (k : Nat) : Int := match k with
  | 0 => -1
  | j + 1 => if h : j < l.length then (l[j]).1 else -1

theorem cGo_range {i : Nat} {p : Int} {s : Int × Int} {l : List (Int × Int)} (h : s.1 < 0 ∨ 256 ≤ s.1) : cGo i p (s :: l) = (2, (i : Int)) := by rw [cGo, if_pos h]
theorem cGo_form {i : Nat} {p : Int} {s : Int × Int} {l : List (Int × Int)} (h : ¬ (s.1 < 0 ∨ 256 ≤ s.1)) (h2 : s.2 = 0) : cGo i p (s :: l) = (3, (i : Int)) := by rw [cGo, if_neg h, if_pos h2]
theorem cGo_ord {i : Nat} {p : Int} {s : Int × Int} {l : List (Int × Int)} (h : ¬ (s.1 < 0 ∨ 256 ≤ s.1)) (h2 : ¬ s.2 = 0) (h3 : s.1 ≤ p) : cGo i p (s :: l) = (8, (i : Int)) := by rw [cGo, if_neg h, if_neg h2, if_pos h3]
theorem cGo_go {i : Nat} {p : Int} {s : Int × Int} {l : List (Int × Int)} (h : ¬ (s.1 < 0 ∨ 256 ≤ s.1)) (h2 : ¬ s.2 = 0) (h3 : ¬ s.1 ≤ p) : cGo i p (s :: l) = cGo (i + 1) s.1 l := by rw [cGo, if_neg h, if_neg h2, if_neg h3]

structure Val (c : List (Int × Int)) : Prop where
  sorted : c.Pairwise fun a b => a.1 < b.1
  bd : ∀ s ∈ c, 0 ≤ s.1 ∧ s.1 < 256 ∧ 1 ≤ s.2 ∧ s.2 ≤ 255

theorem val_go : ∀ (c : List (Int × Int)) (i : Nat) (p : Int), c.Pairwise (fun a b => a.1 < b.1) → (∀ s ∈ c, 0 ≤ s.1 ∧ s.1 < 256 ∧ 1 ≤ s.2 ∧ s.2 ≤ 255) → (∀ s ∈ c, p < s.1) → cGo i p c = (0, 0)
  | [], _, _, _, _, _ => rfl
  | s :: l, i, p, hs, hb, hp => by
    have := hb s (by simp)
    have := hp s (by simp)
    rw [List.pairwise_cons] at hs
    rw [cGo_go (by omega) (by omega) (by omega)]
    exact val_go l (i + 1) s.1 hs.2 (fun x hx => hb x (by simp [hx])) (fun x hx => hs.1 x hx)
theorem val_cc {c : List (Int × Int)} (h : Val c) : cc c = (0, 0) := val_go c 0 (-1) h.sorted h.bd (fun s hs => by have := h.bd s hs; omega)
theorem go_val : ∀ (c : List (Int × Int)) (i : Nat) (p : Int), (∀ s ∈ c, 0 ≤ s.2 ∧ s.2 ≤ 255) → (cGo i p c).1 = 0 → c.Pairwise (fun a b => a.1 < b.1) ∧ (∀ s ∈ c, 0 ≤ s.1 ∧ s.1 < 256 ∧ 1 ≤ s.2 ∧ s.2 ≤ 255) ∧ ∀ s ∈ c, p < s.1
  | [], _, _, _, _ => by simp
  | s :: l, i, p, hu, h => by
    by_cases h1 : s.1 < 0 ∨ 256 ≤ s.1
    · rw [cGo_range h1] at h; simp at h
    · by_cases h2 : s.2 = 0
      · rw [cGo_form h1 h2] at h; simp at h
      · by_cases h3 : s.1 ≤ p
        · rw [cGo_ord h1 h2 h3] at h; simp at h
        · rw [cGo_go h1 h2 h3] at h
          obtain ⟨q1, q2, q3⟩ := go_val l (i + 1) s.1 (fun x hx => hu x (by simp [hx])) h
          have := hu s (by simp)
          refine ⟨List.pairwise_cons.2 ⟨q3, q1⟩, fun x hx => ?_, fun x hx => ?_⟩
          · rcases List.mem_cons.1 hx with rfl | hx
            · omega
            · exact q2 x hx
          · rcases List.mem_cons.1 hx with rfl | hx
            · omega
            · have := q3 x hx; omega
theorem cc_val {c : List (Int × Int)} (hu : ∀ s ∈ c, 0 ≤ s.2 ∧ s.2 ≤ 255) (h : (cc c).1 = 0) : Val c := by
  obtain ⟨q1, q2, _⟩ := go_val c 0 (-1) hu h
  exact ⟨q1, q2⟩
theorem Val.get {c : List (Int × Int)} (h : Val c) (i : Nat) (hi : i < c.length) : 0 ≤ (c[i]).1 ∧ (c[i]).1 < 256 ∧ 1 ≤ (c[i]).2 ∧ (c[i]).2 ≤ 255 := h.bd _ (List.getElem_mem hi)
theorem Val.lt {c : List (Int × Int)} (h : Val c) {i j : Nat} (hij : i < j) (hj : j < c.length) : (c[i]'(by omega)).1 < (c[j]).1 := List.pairwise_iff_getElem.1 h.sorted i j (by omega) hj hij

theorem drop_get {α : Type} (l : List α) (k : Nat) (h : k < l.length) : l.drop k = l[k] :: l.drop (k + 1) := List.drop_eq_getElem_cons h
end Go.Proofs.Ytokocigmchfdfaa
