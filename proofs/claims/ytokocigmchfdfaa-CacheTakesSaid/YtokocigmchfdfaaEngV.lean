/- Engine, part V: a row's capacity looked at; a row under a new number; slices.overlaps. -/
import Derived.Test.YtokocigmchfdfaaEngS
import Derived.Lib.Overlaps
set_option linter.unusedSimpArgs false
namespace Go.Proofs.Ytokocigmchfdfaa
set_option linter.unusedVariables false
open Go.RowKit

theorem ins_room {α : Type} (R : List α) (x : α) (i n : Nat) (hn : R.length = n) (hi : i < n) :
    List.take i (List.take (i + 1) R ++ (List.take (n - i) (List.drop i R) ++ List.drop (i + 1 + (n - i)) R)) ++ x :: List.drop (i + 1) (List.take (i + 1) R ++ (List.take (n - i) (List.drop i R) ++ List.drop (i + 1 + (n - i)) R)) = List.take i R ++ x :: List.drop i R := by
  subst hn
  obtain ⟨A, B, rfl, rfl⟩ : ∃ A B, R = A ++ B ∧ A.length = i := ⟨R.take i, R.drop i, by simp, by simp; omega⟩
  cases B with
  | nil => simp at hi
  | cons b B =>
    have e1 : (A ++ b :: B).length - A.length = B.length + 1 := by simp
    have e3 : A.length + 1 + (B.length + 1) - A.length = B.length + 2 := by omega
    have d1 : List.drop (A.length + 1) A = [] := List.drop_eq_nil_of_le (by omega)
    have d2 : List.drop (A.length + 1 + (B.length + 1)) A = [] := List.drop_eq_nil_of_le (by omega)
    rw [e1]
    simp [List.take_append, List.drop_append, List.take_of_length_le, d1, d2, e3]
theorem ins_grow {α : Type} (R : List α) (x z : α) (i n : Nat) (hn : R.length = n) (hi : i < n) :
    List.take (i + 1) (List.take i (List.take i R ++ List.replicate (n + 1 - i) z) ++ x :: List.drop (i + 1) (List.take i R ++ List.replicate (n + 1 - i) z)) ++
      (List.take (n - i) (List.drop i R) ++ List.drop (i + 1 + (n - i)) (List.take i (List.take i R ++ List.replicate (n + 1 - i) z) ++ x :: List.drop (i + 1) (List.take i R ++ List.replicate (n + 1 - i) z))) = List.take i R ++ x :: List.drop i R := by
  subst hn
  obtain ⟨A, B, rfl, rfl⟩ : ∃ A B, R = A ++ B ∧ A.length = i := ⟨R.take i, R.drop i, by simp, by simp; omega⟩
  have e1 : (A ++ B).length + 1 - A.length = B.length + 1 := by simp; omega
  have e2 : (A ++ B).length - A.length = B.length := by simp
  have e3 : A.length + 1 + B.length - A.length = B.length + 1 := by omega
  have d1 : List.drop (A.length + 1) A = [] := List.drop_eq_nil_of_le (by omega)
  have d2 : List.drop (A.length + 1 + B.length) A = [] := List.drop_eq_nil_of_le (by omega)
  rw [e1, e2]
  simp [List.take_append, List.drop_append, List.take_of_length_le, d1, d2, e3]

/-- a row's capacity gets a name -/
theorem W_cap {cx : Cx} {c : Code} {σ : St} {Q : Exit → St → Prop} (s i sz len : Nat) (hs : look σ.t s = some (.row i sz 0 len)) (h0 : 0 < len)
    (h : ∀ cap, len ≤ cap → cap ≤ maxLen → W cx c ⟨(s, .rowc i sz len cap) :: σ.t, σ.h⟩ Q) : W cx c σ Q := by
  intro μ a w hr
  obtain ⟨v, h1, h2⟩ := hr.rr.tm s _ hs
  cases h2 with
  | rowNil hb => exact absurd h0 (Nat.lt_irrefl _)
  | row hb b2 b3 b4 b5 =>
    rename_i b cap arr t
    refine h cap b3 b4 μ a w ⟨⟨hr.rr.n, hr.rr.dfr, fun q x hx => ?_, hr.rr.ob, hr.rr.own, hr.rr.inj, hr.rr.fr, hr.rr.vlt, hr.rr.blt⟩, hr.mu, hr.bor, hr.kle⟩
    simp only [St.T, look] at hx
    split at hx
    · rename_i e; subst e; injection hx with hx; subst hx
      rw [Nat.zero_mul] at h1
      exact ⟨_, h1, .rowc hb b2 b3 b4 (by rw [b5, Nat.zero_add])⟩
    · exact hr.rr.tm q x hx

/-- a row of known capacity under a new number, the old number given up -/
theorem W_moveC {cx : Cx} {c : Code} {σ : St} {Q : Exit → St → Prop} (s i sz len cap : Nat) {t : TypeId} {sz' : Nat} {rs : List (List D)} (hs : look σ.t s = some (.rowc i sz len cap)) (hi : σ.H i = some (.rows t sz' rs))
    (h : W cx c ⟨(s, .row σ.h.length sz 0 len) :: σ.t, σ.h.set i none ++ [some (.rows t sz' rs)]⟩ Q) : W cx c σ Q := by
  intro μ a w hr
  have hn : μ σ.h.length = none := hr.mu _ (Nat.le_refl _)
  obtain ⟨v, h1, h2⟩ := hr.rr.tm s _ hs
  have hil : i < σ.h.length := by
    rcases Nat.lt_or_ge i σ.h.length with h' | h'
    · exact h'
    · simp [St.H, List.getElem?_eq_none h'] at hi
  cases h2 with
  | rowc hb b2 b3 b4 b5 =>
    rename_i b arr t0
    have hob := hr.rr.ob i _ hi
    have key := hr.rr.regrow hn (.rows t sz' rs) (.row σ.h.length sz 0 len) [] [(i, none)] (nb := some b) (.inr ⟨i, rfl, by rw [hi]; simp⟩) (Ev.refl w (fun _ => False)) (fun _ h => h.elim) (fun b' hb' => .inr ⟨i, rfl, by injection hb' with hb'; exact hb' ▸ hb⟩)
      (fun S' hS => by
        cases hob with
        | rowsNil c1 _ => rw [hb] at c1; cases c1
        | rows c1 c2 c3 c4 c5 c6 =>
          rw [hb] at c1; injection c1 with c1; injection c1 with c1; subst c1
          exact .rows (by simp [setMu]) c2 c3 c4 c5 (fun k j r x v hr' hx hv => (c6 k j r x v hr' hx hv).evolve (Ev.refl w (fun _ => False)) (fun _ h => h.elim) hS))
    refine h (setMu μ σ.h.length (some b)) a w ⟨?_, fun j hj => ?_, fun j hj => ?_, by simp; have := hr.kle; omega⟩
    · have e1 : St.H ⟨(s, .row σ.h.length sz 0 len) :: σ.t, σ.h.set i none ++ [some (.rows t sz' rs)]⟩ = appH σ.h.length ⟨.row σ.h.length sz 0 len, [.rows t sz' rs], [(i, none)], []⟩ σ.H :=
        St.app_H σ (some s) ⟨.row σ.h.length sz 0 len, [.rows t sz' rs], [(i, none)], []⟩ (by simp [wrOk, hil])
      rw [e1]
      refine ⟨key.n, key.dfr, fun q x hx => ?_, key.ob, key.own, key.inj, key.fr, key.vlt, key.blt⟩
      simp only [St.T, look] at hx
      split at hx
      · rename_i e; subst e; injection hx with hx; subst hx
        have := Rep.row (w := w) (S := cx.Sta (appH σ.h.length ⟨.row σ.h.length sz 0 len, [.rows t sz' rs], [(i, none)], []⟩ σ.H) (setMu μ σ.h.length (some b)) w) (μ := setMu μ σ.h.length (some b)) (i := σ.h.length) (sz := sz) (o := 0) (len := len) (b := b) (c := cap) (by simp [setMu]) b2 b3 b4 (by rw [b5, Nat.zero_add])
        rw [Nat.zero_mul] at this
        exact ⟨_, h1, this⟩
      · exact key.tm q x hx
    · simp at hj
      have : j ≠ σ.h.length := by omega
      simp [setMu, this]; exact hr.mu j (by omega)
    · have : j ≠ σ.h.length := by have := hr.kle; omega
      simp [setMu, this]; exact hr.bor j hj

/-- what the program's number f runs -/
def OvIs (P : Program) (f : FuncId) (t tb : TypeId) : Prop := ∀ (args : Array Value) (w : World), (callFunc f args).run P w = ((Extern.SlicesOverlaps.overlaps #[t, t] #[tb] args).run P w).andThen fun v w' => .ok (.value v) w'

theorem ext_overlaps {P : Program} {n : Nat} {o : Oper} {σ : St} {K : Eff → Prop} {f : FuncId} {t tb e t1 t2 : TypeId} {i j sz o1 len1 o2 len2 : Nat} {rs1 rs2 : List (List D)} {y z g : Operand} {c : Call}
    (hx : OvIs P f t tb) (hd : dstOk n o.dst) (hok : (TL P t).ok = true) (hse : (TL P t).selem = some e) (hoke : (TL P e).ok = true) (ho : o.op = .call c) (hc : c.callee = .value g) (ha : c.args = #[y, z])
    (hg : getT σ.T g = some (.fn f [])) (hy : getT σ.T y = some (.row i sz o1 len1)) (hz : getT σ.T z = some (.row j sz o2 len2)) (hij : i ≠ j) (hi : σ.H i = some (.rows t1 sz rs1)) (hj : σ.H j = some (.rows t2 sz rs2))
    (h1 : 0 < len1) (h2 : 0 < len2) (hsz : 0 < sz) (hK : K ⟨.d (.bool false), [], [], [i, j]⟩) : extV P n o σ K := by
  refine ⟨_, fun cx hP hn => ?_, hK⟩
  subst hP hn
  have hu := TL_selem hok hse
  obtain ⟨ti, _, hti, _⟩ := TL_ok hoke
  have hmy : y ∈ o.op.operands := by simp [Op.operands, ho, Call.operands, hc, ha]
  have hmz : z ∈ o.op.operands := by simp [Op.operands, ho, Call.operands, hc, ha]
  have hmg : g ∈ o.op.operands := by simp [Op.operands, ho, Call.operands, hc, ha]
  refine loc_val hd fun H T μ a w hr he hH => ⟨.bool false, ?_, .d .bool⟩
  have hHi : H i = some (.rows t1 sz rs1) := (hH i (by simp)).trans hi
  have hHj : H j = some (.rows t2 sz rs2) := (hH j (by simp)).trans hj
  have vg := he g _ hmg hg
  have vy := he y _ hmy hy
  have vz := he z _ hmz hz
  generalize hvg : a.eval g = gv at vg
  generalize hvy : a.eval y = yv at vy
  generalize hvz : a.eval z = zv at vz
  cases vg with
  | fn cs1 cs2 =>
    rename_i vs
    have hvs : vs = #[] := by simpa using cs1
    subst hvs
    cases vy with
    | rowNil _ => exact absurd h1 (Nat.lt_irrefl _)
    | row hb b2 b3 b4 b5 =>
      rename_i b cap arr tt
      cases vz with
      | rowNil _ => exact absurd h2 (Nat.lt_irrefl _)
      | row hb' b2' b3' b4' b5' =>
        rename_i b' cap' arr' tt'
        have hne : b ≠ b' := by
          rintro rfl
          exact hij (hr.inj i j b (by simp [hHi]) (by simp [hHj]) hb hb')
        have hk0 : arr'.size ≠ 0 := by
          rw [b5']
          exact Nat.ne_of_gt (Nat.mul_pos (by omega) hsz)
        have hov := Lib.run_overlaps_apart (P := cx.P) w t tb e hu ti.size (fun w => by simp [sizeOf, typeInfo, hti]) ⟨b, o1 * sz, none⟩ ⟨b', o2 * sz, none⟩ len1 cap len2 cap' hne tt tt' arr.size arr'.size
          (by simp [World.shape?, b2]) (by simp [World.shape?, b2']) hk0 (by simp [World.frozen?, b2]) (by simp [World.frozen?, b2])
        have hf := hx #[.slice (some ⟨b, o1 * sz, none⟩) len1 cap, .slice (some ⟨b', o2 * sz, none⟩) len2 cap'] w
        rw [hov] at hf
        simp only [Result.andThen_ok] at hf
        simp only [execOp, ho, resolve, hc, ha, hvg, Deferred.ofValue, invoke, Sem.run_bind, Sem.run_pure, Result.andThen_ok, List.map_toArray, List.map_cons, List.map_nil, hvy, hvz]
        simpa using hf
end Go.Proofs.Ytokocigmchfdfaa
