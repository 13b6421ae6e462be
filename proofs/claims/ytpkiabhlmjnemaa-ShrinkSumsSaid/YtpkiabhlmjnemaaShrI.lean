/- Shares: the plain law of three parts. -/
import Derived.Test.YtpkiabhlmjnemaaShrH
namespace Go.Proofs.Ytpkiabhlmjnemaa
open Go.Sort
set_option linter.unusedSimpArgs false
set_option linter.unusedVariables false

theorem plt_iff (p q : P3) : plt p q = true ↔ (q.2.2 < p.2.2 ∨ (p.2.2 = q.2.2 ∧ p.1 < q.1)) := by
  unfold plt
  split
  · rename_i h; simp only [decide_eq_true_eq]; constructor
    · intro h2; exact .inr ⟨h, h2⟩
    · rintro (h2 | h2)
      · omega
      · exact h2.2
  · rename_i h; simp only [decide_eq_true_eq]; constructor
    · intro h2; exact .inl h2
    · rintro (h2 | h2)
      · exact h2
      · exact absurd h2.1 h
theorem plt_f (p q : P3) : plt p q = false ↔ ¬ (q.2.2 < p.2.2 ∨ (p.2.2 = q.2.2 ∧ p.1 < q.1)) := by
  rw [← plt_iff]; simp
theorem swo_plt : SWO plt := by
  refine ⟨fun x => ?_, fun x y z h1 h2 => ?_, fun x y z h1 h2 => ?_⟩
  · rw [plt_f]; omega
  · rw [plt_iff] at *; omega
  · rw [plt_f] at *; omega
theorem perm3 {α : Type} {a b c x y z : α} (h : [a, b, c].Perm [x, y, z]) : (a = x ∧ b = y ∧ c = z) ∨ (a = x ∧ b = z ∧ c = y) ∨ (a = y ∧ b = x ∧ c = z) ∨ (a = y ∧ b = z ∧ c = x) ∨ (a = z ∧ b = x ∧ c = y) ∨ (a = z ∧ b = y ∧ c = x) := by
  have p2 : ∀ {u v s t : α}, [u, v].Perm [s, t] → (u = s ∧ v = t) ∨ (u = t ∧ v = s) := by
    intro u v s t h
    have := List.Perm.mem_iff (a := u) h
    simp at this
    rcases this with rfl | rfl
    · have := (List.perm_cons u).1 h
      simp at this; exact .inl ⟨rfl, this⟩
    · have := (List.perm_cons u).1 (h.trans (List.Perm.swap u s []))
      simp at this; exact .inr ⟨rfl, this⟩
  have hm := List.Perm.mem_iff (a := a) h
  simp at hm
  rcases hm with rfl | rfl | rfl
  · rcases p2 ((List.perm_cons a).1 h) with h1 | h1
    · exact .inl ⟨rfl, h1⟩
    · exact .inr (.inl ⟨rfl, h1⟩)
  · rcases p2 ((List.perm_cons a).1 (h.trans (List.Perm.swap a x [z]))) with h1 | h1
    · exact .inr (.inr (.inl ⟨rfl, h1⟩))
    · exact .inr (.inr (.inr (.inl ⟨rfl, h1⟩)))
  · have h' : [x, y, a].Perm [a, x, y] := by
      have : ([x, y] ++ [a]).Perm ([a] ++ [x, y]) := List.perm_append_comm
      simpa using this
    rcases p2 ((List.perm_cons a).1 (h.trans h')) with h1 | h1
    · exact .inr (.inr (.inr (.inr (.inl ⟨rfl, h1⟩))))
    · exact .inr (.inr (.inr (.inr (.inr ⟨rfl, h1⟩))))

theorem sort3 (q1 q2 q3 r1 r2 r3 : Int) : Sort.insertionSort plt #[((0 : Int), q1, r1), (1, q2, r2), (2, q3, r3)] 0 3 =
    if r1 < r2 then (if r2 < r3 then #[(2, q3, r3), (1, q2, r2), (0, q1, r1)] else if r1 < r3 then #[(1, q2, r2), (2, q3, r3), (0, q1, r1)] else #[(1, q2, r2), (0, q1, r1), (2, q3, r3)])
    else (if r1 < r3 then #[(2, q3, r3), (0, q1, r1), (1, q2, r2)] else if r2 < r3 then #[(0, q1, r1), (2, q3, r3), (1, q2, r2)] else #[(0, q1, r1), (1, q2, r2), (2, q3, r3)]) := by
  obtain ⟨⟨hsz, _, hperm⟩, hso⟩ := insertionSort_holds (lt := plt) swo_plt #[((0 : Int), q1, r1), (1, q2, r2), (2, q3, r3)] 0 3 (by omega) (by simp)
  generalize Sort.insertionSort plt #[((0 : Int), q1, r1), (1, q2, r2), (2, q3, r3)] 0 3 = d at *
  obtain ⟨p0, p1, p2, rfl⟩ : ∃ p0 p1 p2, d = #[p0, p1, p2] := by
    match d, hsz with
    | ⟨[a, b, c]⟩, _ => exact ⟨a, b, c, rfl⟩
  have hp : [p0, p1, p2].Perm [((0 : Int), q1, r1), (1, q2, r2), (2, q3, r3)] := by simpa using hperm
  have s1 := hso 0 1 (by omega) (by omega) (by omega)
  have s2 := hso 1 2 (by omega) (by omega) (by omega)
  have s3 := hso 0 2 (by omega) (by omega) (by omega)
  simp only [List.getElem!_toArray, List.getElem!_cons_zero, List.getElem!_cons_succ] at s1 s2 s3
  rw [plt_f] at s1 s2 s3
  rcases perm3 hp with ⟨rfl, rfl, rfl⟩ | ⟨rfl, rfl, rfl⟩ | ⟨rfl, rfl, rfl⟩ | ⟨rfl, rfl, rfl⟩ | ⟨rfl, rfl, rfl⟩ | ⟨rfl, rfl, rfl⟩ <;> simp only at s1 s2 s3 <;> (repeat' split) <;> first | rfl | (exfalso; omega)

/-- the number that is shared out, the whole parts, the remainders, what is left -/
def nn (l : List O) (n : Int) : Int := if (l.length : Int) < n then l.length else n
def sq (l : List O) (n j : Int) : Int := nn l n * kc l j / l.length
def sr (l : List O) (n j : Int) : Int := nn l n * kc l j % l.length
def lf (l : List O) (n : Int) : Int := nn l n - sq l n 1 - sq l n 2 - sq l n 3
def rk1 (r1 r2 r3 : Int) : Int := (if r1 < r2 then 1 else 0) + (if r1 < r3 then 1 else 0)
def rk2 (r1 r2 r3 : Int) : Int := (if r1 < r2 then 0 else 1) + (if r2 < r3 then 1 else 0)
def rk3 (r1 r2 r3 : Int) : Int := (if r1 < r3 then 0 else 1) + (if r2 < r3 then 0 else 1)
def mo (a b : Int) : Int := if a < b then 1 else 0
def shr3 (q1 q2 q3 r1 r2 r3 left : Int) : List Int := [q1 + mo (rk1 r1 r2 r3) left, q2 + mo (rk2 r1 r2 r3) left, q3 + mo (rk3 r1 r2 r3) left]
def shrs (l : List O) (n : Int) : List Int := if l.length = 0 then [0, 0, 0] else shr3 (sq l n 1) (sq l n 2) (sq l n 3) (sr l n 1) (sr l n 2) (sr l n 3) (lf l n)

theorem kc_sum : ∀ {l : List O}, (∀ o ∈ l, oneE o = 0) → kc l 1 + kc l 2 + kc l 3 = l.length
  | [], _ => by simp [kc]
  | o :: l, h => by
    have ih := kc_sum (l := l) (fun x hx => h x (by simp [hx]))
    unfold kc at *
    rcases kind3 (h o (by simp)) with h1 | h1 | h1 <;> simp [h1] <;> omega
structure Shr (l : List O) (n : Int) : Prop where
  n0 : 0 ≤ nn l n
  n1 : nn l n ≤ l.length
  m0 : ∀ j, 0 ≤ nn l n * kc l j
  m1 : ∀ j, nn l n * kc l j ≤ 65536
  q0 : ∀ j, 0 ≤ sq l n j
  q1 : ∀ j, sq l n j ≤ kc l j
  r0 : ∀ j, 0 ≤ sr l n j
  r1 : ∀ j, sr l n j < l.length
  e : ∀ j, nn l n * kc l j = l.length * sq l n j + sr l n j
  left : lf l n = 0 ∨ lf l n = 1 ∨ lf l n = 2
  sum : l.length * lf l n = sr l n 1 + sr l n 2 + sr l n 3
theorem shr_of {l : List O} (hv : Vl l) (h0 : 0 < l.length) {n : Int} (hn : 0 ≤ n) : Shr l n := by
  have hm : (0 : Int) < l.length := by omega
  have hm2 : (l.length : Int) ≤ 256 := by have := hv.len; omega
  have n0 : 0 ≤ nn l n := by unfold nn; split <;> omega
  have n1 : nn l n ≤ l.length := by unfold nn; split <;> omega
  have kb := fun j => kc_bd l j
  have m0 : ∀ j, 0 ≤ nn l n * kc l j := fun j => Int.mul_nonneg n0 (kb j).1
  have m2 : ∀ j, nn l n * kc l j ≤ l.length * kc l j := fun j => Int.mul_le_mul_of_nonneg_right n1 (kb j).1
  have m1 : ∀ j, nn l n * kc l j ≤ 65536 := fun j => by
    have h1 := m2 j
    have h2 : (l.length : Int) * kc l j ≤ 256 * 256 := Int.mul_le_mul hm2 (by have := kb j; omega) (kb j).1 (by omega)
    omega
  have q0 : ∀ j, 0 ≤ sq l n j := fun j => Int.ediv_nonneg (m0 j) (by omega)
  have q1 : ∀ j, sq l n j ≤ kc l j := fun j => by
    have := Int.ediv_le_ediv hm (m2 j)
    rwa [Int.mul_ediv_cancel_left _ (by omega : (l.length : Int) ≠ 0)] at this
  have r0 : ∀ j, 0 ≤ sr l n j := fun j => Int.emod_nonneg _ (by omega)
  have r1 : ∀ j, sr l n j < l.length := fun j => Int.emod_lt_of_pos _ hm
  have e : ∀ j, nn l n * kc l j = l.length * sq l n j + sr l n j := fun j => (Int.mul_ediv_add_emod _ _).symm
  have ks := kc_sum hv.one
  have sum : l.length * lf l n = sr l n 1 + sr l n 2 + sr l n 3 := by
    have e1 := e 1
    have e2 := e 2
    have e3 := e 3
    have e4 : nn l n * kc l 1 + nn l n * kc l 2 + nn l n * kc l 3 = nn l n * l.length := by rw [← Int.mul_add, ← Int.mul_add, ks]
    unfold lf
    rw [Int.mul_sub, Int.mul_sub, Int.mul_sub, Int.mul_comm (l.length : Int) (nn l n)]
    omega
  refine ⟨n0, n1, m0, m1, q0, q1, r0, r1, e, ?_, sum⟩
  have a1 := r0 1; have a2 := r0 2; have a3 := r0 3
  have b1 := r1 1; have b2 := r1 2; have b3 := r1 3
  have g1 : ¬ lf l n < 0 := fun h => by
    have : (l.length : Int) * lf l n ≤ l.length * (-1) := Int.mul_le_mul_of_nonneg_left (by omega) (by omega)
    omega
  have g2 : ¬ 3 ≤ lf l n := fun h => by
    have : (l.length : Int) * 3 ≤ l.length * lf l n := Int.mul_le_mul_of_nonneg_left h (by omega)
    omega
  omega

/-- the parts handed out one after the other -/
def set3 (s : Int × Int × Int) (k v : Int) : Int × Int × Int := if k = 0 then (v, s.2.1, s.2.2) else if k = 1 then (s.1, v, s.2.2) else (s.1, s.2.1, v)
def app3 : List P3 → Int × Int × Int → Int → Int × Int × Int
  | [], s, _ => s
  | p :: r, s, l => if 0 < l then app3 r (set3 s p.1 (p.2.1 + 1)) (l - 1) else app3 r (set3 s p.1 p.2.1) l
theorem parts3 (Q1 Q2 Q3 R1 R2 R3 le : Int) (hle : le = 0 ∨ le = 1 ∨ le = 2) (b1 : 0 ≤ Q1 ∧ Q1 ≤ 1000000) (b2 : 0 ≤ Q2 ∧ Q2 ≤ 1000000) (b3 : 0 ≤ Q3 ∧ Q3 ≤ 1000000) :
    ∃ (p0 p1 p2 : P3) (s : Int × Int × Int), Sort.insertionSort plt #[((0 : Int), Q1, R1), (1, Q2, R2), (2, Q3, R3)] 0 3 = #[p0, p1, p2] ∧ (∀ p ∈ [p0, p1, p2], (p.1 = 0 ∨ p.1 = 1 ∨ p.1 = 2) ∧ 0 ≤ p.2.1 ∧ p.2.1 ≤ 1000000) ∧
      app3 [p0, p1, p2] (0, 0, 0) le = s ∧ shr3 Q1 Q2 Q3 R1 R2 R3 le = [s.1, s.2.1, s.2.2] := by
  have hs3 := sort3 Q1 Q2 Q3 R1 R2 R3
  by_cases c12 : R1 < R2 <;> by_cases c13 : R1 < R3 <;> by_cases c23 : R2 < R3 <;> simp only [c12, c13, c23, if_true, if_false] at hs3
  all_goals first | (exfalso; omega) | skip
  all_goals
    refine ⟨_, _, _, _, hs3, ?_, rfl, ?_⟩
    · simp; omega
    · rcases hle with rfl | rfl | rfl <;> simp [app3, set3, shr3, mo, rk1, rk2, rk3, c12, c13, c23]
end Go.Proofs.Ytpkiabhlmjnemaa
