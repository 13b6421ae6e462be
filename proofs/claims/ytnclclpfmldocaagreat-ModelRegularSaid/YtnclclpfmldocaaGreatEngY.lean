import Derived.Test.YtnclclpfmldocaaGreatEngU
import Derived.Lib.Overlaps
import Derived.Test.YtnclclpfmldocaaGreatEngX

/- Engine, part V: a row's capacity looked at; a row under a new number; slices.overlaps. -/
namespace Go.Proofs.YtnclclpfmldocaaGreat
set_option linter.unusedVariables false
open Go.RowKit

theorem ins_room {α : Type} (R : List α) (x : α) (i n : Nat) (hn : R.length = n) (hi : i < n) :
    List.take i (List.take (i + 1) R ++ (List.take (n - i) (List.drop i R) ++ List.drop (i + 1 + (n - i)) R)) ++ x :: List.drop (i + 1) (List.take (i + 1) R ++ (List.take (n - i) (List.drop i R) ++ List.drop (i + 1 + (n - i)) R)) = List.take i R ++ x :: List.drop i R := by
  subst hn
  obtain ⟨A, B, rfl, rfl⟩ : ∃ A B, R = A ++ B ∧ A.length = i := ⟨R.take i, R.drop i, by simp, by simp; omega⟩
  cases B with
  | nil => simp at hi
  | cons b B =>
    have e1 : (A ++ b :: B).length - A.length = B.length + 1 := by simp
    have e3 : A.length + 1 + (B.length + 1) - A.length = B.length + 2 := by omega
    have d1 : List.drop (A.length + 1) A = [] := List.drop_eq_nil_of_le (by omega)
    have d2 : List.drop (A.length + 1 + (B.length + 1)) A = [] := List.drop_eq_nil_of_le (by omega)
    rw [e1]
    simp [List.take_append, List.drop_append, List.take_of_length_le, d1, d2, e3]
theorem ins_grow {α : Type} (R : List α) (x z : α) (i n : Nat) (hn : R.length = n) (hi : i < n) :
    List.take (i + 1) (List.take i (List.take i R ++ List.replicate (n + 1 - i) z) ++ x :: List.drop (i + 1) (List.take i R ++ List.replicate (n + 1 - i) z)) ++
      (List.take (n - i) (List.drop i R) ++ List.drop (i + 1 + (n - i)) (List.take i (List.take i R ++ List.replicate (n + 1 - i) z) ++ x :: List.drop (i + 1) (List.take i R ++ List.replicate (n + 1 - i) z))) = List.take i R ++ x :: List.drop i R := by
  subst hn
  obtain ⟨A, B, rfl, rfl⟩ : ∃ A B, R = A ++ B ∧ A.length = i := ⟨R.take i, R.drop i, by simp, by simp; omega⟩
  have e1 : (A ++ B).length + 1 - A.length = B.length + 1 := by simp; omega
  have e2 : (A ++ B).length - A.length = B.length := by simp
  have e3 : A.length + 1 + B.length - A.length = B.length + 1 := by omega
  have d1 : List.drop (A.length + 1) A = [] := List.drop_eq_nil_of_le (by omega)
  have d2 : List.drop (A.length + 1 + B.length) A = [] := List.drop_eq_nil_of_le (by omega)
  rw [e1, e2]
  simp [List.take_append, List.drop_append, List.take_of_length_le, d1, d2, e3]

/-- a row's capacity gets a name -/
theorem W_cap {cx : Cx} {c : Code} {σ : St} {Q : Exit → St → Prop} (s i sz len : Nat) (hs : look σ.t s = some (.row i sz 0 len)) (h0 : 0 < len)
    (h : ∀ cap, len ≤ cap → cap ≤ maxLen → W cx c ⟨(s, .rowc i sz len cap) :: σ.t, σ.h⟩ Q) : W cx c σ Q := by
  intro μ a w hr
  obtain ⟨v, h1, h2⟩ := hr.rr.tm s _ hs
  cases h2 with
  | rowNil hb => exact absurd h0 (Nat.lt_irrefl _)
  | row hb b2 b3 b4 b5 =>
    rename_i b cap arr t
    refine h cap b3 b4 μ a w ⟨⟨hr.rr.n, hr.rr.dfr, fun q x hx => ?_, hr.rr.ob, hr.rr.own, hr.rr.inj, hr.rr.fr, hr.rr.vlt, hr.rr.blt⟩, hr.mu, hr.bor, hr.kle⟩
    simp only [St.T, look] at hx
    split at hx
    · rename_i e; subst e; injection hx with hx; subst hx
      rw [Nat.zero_mul] at h1
      exact ⟨_, h1, .rowc hb b2 b3 b4 (by rw [b5, Nat.zero_add])⟩
    · exact hr.rr.tm q x hx

/-- a row of known capacity under a new number, the old number given up -/
theorem W_moveC {cx : Cx} {c : Code} {σ : St} {Q : Exit → St → Prop} (s i sz len cap : Nat) {t : TypeId} {sz' : Nat} {rs : List (List D)} (hs : look σ.t s = some (.rowc i sz len cap)) (hi : σ.H i = some (.rows t sz' rs))
    (h : W cx c ⟨(s, .row σ.h.length sz 0 len) :: σ.t, σ.h.set i none ++ [some (.rows t sz' rs)]⟩ Q) : W cx c σ Q := by
  intro μ a w hr
  have hn : μ σ.h.length = none := hr.mu _ (Nat.le_refl _)
  obtain ⟨v, h1, h2⟩ := hr.rr.tm s _ hs
  have hil : i < σ.h.length := by
    rcases Nat.lt_or_ge i σ.h.length with h' | h'
    · exact h'
    · simp [St.H, List.getElem?_eq_none h'] at hi
  cases h2 with
  | rowc hb b2 b3 b4 b5 =>
    rename_i b arr t0
    have hob := hr.rr.ob i _ hi
    have key := hr.rr.regrow hn (.rows t sz' rs) (.row σ.h.length sz 0 len) [] [(i, none)] (nb := some b) (.inr ⟨i, rfl, by rw [hi]; simp⟩) (Ev.refl w (fun _ => False)) (fun _ h => h.elim) (fun b' hb' => .inr ⟨i, rfl, by injection hb' with hb'; exact hb' ▸ hb⟩)
      (fun S' hS => by
        cases hob with
        | rowsNil c1 _ => rw [hb] at c1; cases c1
        | rows c1 c2 c3 c4 c5 c6 =>
          rw [hb] at c1; injection c1 with c1; injection c1 with c1; subst c1
          exact .rows (by simp [setMu]) c2 c3 c4 c5 (fun k j r x v hr' hx hv => (c6 k j r x v hr' hx hv).evolve (Ev.refl w (fun _ => False)) (fun _ h => h.elim) hS))
    refine h (setMu μ σ.h.length (some b)) a w ⟨?_, fun j hj => ?_, fun j hj => ?_, by simp; have := hr.kle; omega⟩
    · have e1 : St.H ⟨(s, .row σ.h.length sz 0 len) :: σ.t, σ.h.set i none ++ [some (.rows t sz' rs)]⟩ = appH σ.h.length ⟨.row σ.h.length sz 0 len, [.rows t sz' rs], [(i, none)], []⟩ σ.H :=
        St.app_H σ (some s) ⟨.row σ.h.length sz 0 len, [.rows t sz' rs], [(i, none)], []⟩ (by simp [wrOk, hil])
      rw [e1]
      refine ⟨key.n, key.dfr, fun q x hx => ?_, key.ob, key.own, key.inj, key.fr, key.vlt, key.blt⟩
      simp only [St.T, look] at hx
      split at hx
      · rename_i e; subst e; injection hx with hx; subst hx
        have := Rep.row (w := w) (S := cx.Sta (appH σ.h.length ⟨.row σ.h.length sz 0 len, [.rows t sz' rs], [(i, none)], []⟩ σ.H) (setMu μ σ.h.length (some b)) w) (μ := setMu μ σ.h.length (some b)) (i := σ.h.length) (sz := sz) (o := 0) (len := len) (b := b) (c := cap) (by simp [setMu]) b2 b3 b4 (by rw [b5, Nat.zero_add])
        rw [Nat.zero_mul] at this
        exact ⟨_, h1, this⟩
      · exact key.tm q x hx
    · simp at hj
      have : j ≠ σ.h.length := by omega
      simp [setMu, this]; exact hr.mu j (by omega)
    · have : j ≠ σ.h.length := by have := hr.kle; omega
      simp [setMu, this]; exact hr.bor j hj

/-- what the program's number f runs -/
def OvIs (P : Program) (f : FuncId) (t tb : TypeId) : Prop := ∀ (args : Array Value) (w : World), (callFunc f args).run P w = ((Extern.SlicesOverlaps.overlaps #[t, t] #[tb] args).run P w).andThen fun v w' => .ok (.value v) w'

theorem ext_overlaps {P : Program} {n : Nat} {o : Oper} {σ : St} {K : Eff → Prop} {f : FuncId} {t tb e t1 t2 : TypeId} {i j sz o1 len1 o2 len2 : Nat} {rs1 rs2 : List (List D)} {y z g : Operand} {c : Call}
    (hx : OvIs P f t tb) (hd : dstOk n o.dst) (hok : (TL P t).ok = true) (hse : (TL P t).selem = some e) (hoke : (TL P e).ok = true) (ho : o.op = .call c) (hc : c.callee = .value g) (ha : c.args = #[y, z])
    (hg : getT σ.T g = some (.fn f [])) (hy : getT σ.T y = some (.row i sz o1 len1)) (hz : getT σ.T z = some (.row j sz o2 len2)) (hij : i ≠ j) (hi : σ.H i = some (.rows t1 sz rs1)) (hj : σ.H j = some (.rows t2 sz rs2))
    (h1 : 0 < len1) (h2 : 0 < len2) (hsz : 0 < sz) (hK : K ⟨.d (.bool false), [], [], [i, j]⟩) : extV P n o σ K := by
  refine ⟨_, fun cx hP hn => ?_, hK⟩
  subst hP hn
  have hu := TL_selem hok hse
  obtain ⟨ti, _, hti, _⟩ := TL_ok hoke
  have hmy : y ∈ o.op.operands := by simp [Op.operands, ho, Call.operands, hc, ha]
  have hmz : z ∈ o.op.operands := by simp [Op.operands, ho, Call.operands, hc, ha]
  have hmg : g ∈ o.op.operands := by simp [Op.operands, ho, Call.operands, hc, ha]
  refine loc_val hd fun H T μ a w hr he hH => ⟨.bool false, ?_, .d .bool⟩
  have hHi : H i = some (.rows t1 sz rs1) := (hH i (by simp)).trans hi
  have hHj : H j = some (.rows t2 sz rs2) := (hH j (by simp)).trans hj
  have vg := he g _ hmg hg
  have vy := he y _ hmy hy
  have vz := he z _ hmz hz
  generalize hvg : a.eval g = gv at vg
  generalize hvy : a.eval y = yv at vy
  generalize hvz : a.eval z = zv at vz
  cases vg with
  | fn cs1 cs2 =>
    rename_i vs
    have hvs : vs = #[] := by simpa using cs1
    subst hvs
    cases vy with
    | rowNil _ => exact absurd h1 (Nat.lt_irrefl _)
    | row hb b2 b3 b4 b5 =>
      rename_i b cap arr tt
      cases vz with
      | rowNil _ => exact absurd h2 (Nat.lt_irrefl _)
      | row hb' b2' b3' b4' b5' =>
        rename_i b' cap' arr' tt'
        have hne : b ≠ b' := by
          rintro rfl
          exact hij (hr.inj i j b (by simp [hHi]) (by simp [hHj]) hb hb')
        have hk0 : arr'.size ≠ 0 := by
          rw [b5']
          exact Nat.ne_of_gt (Nat.mul_pos (by omega) hsz)
        have hov := Lib.run_overlaps_apart (P := cx.P) w t tb e hu ti.size (fun w => by simp [sizeOf, typeInfo, hti]) ⟨b, o1 * sz, none⟩ ⟨b', o2 * sz, none⟩ len1 cap len2 cap' hne tt tt' arr.size arr'.size
          (by simp [World.shape?, b2]) (by simp [World.shape?, b2']) hk0 (by simp [World.frozen?, b2]) (by simp [World.frozen?, b2])
        have hf := hx #[.slice (some ⟨b, o1 * sz, none⟩) len1 cap, .slice (some ⟨b', o2 * sz, none⟩) len2 cap'] w
        rw [hov] at hf
        simp only [Result.andThen_ok] at hf
        simp only [execOp, ho, resolve, hc, ha, hvg, Deferred.ofValue, invoke, Sem.run_bind, Sem.run_pure, Result.andThen_ok, List.map_toArray, List.map_cons, List.map_nil, hvy, hvz]
        simpa using hf
end Go.Proofs.YtnclclpfmldocaaGreat

/- Engine, part Y: rows of a box under new numbers; cells of a box that are no slices yet become rows. -/
namespace Go.Proofs.YtnclclpfmldocaaGreat
open Go.RowKit
set_option linter.unusedSimpArgs false
set_option linter.unusedVariables false

def mvR (i n j : Nat) : Nat := if j = i then n else j
def mvT (i n : Nat) : List (Nat × AV) → List (Nat × AV)
  | [] => []
  | (s, x) :: l => (s, x.ren (mvR i n)) :: mvT i n l
def mvH (i n : Nat) : List (Option Ob) → List (Option Ob)
  | [] => []
  | none :: l => none :: mvH i n l
  | some o :: l => some (o.ren (mvR i n)) :: mvH i n l
theorem mvT_look (i n : Nat) : ∀ (t : List (Nat × AV)) (s : Nat) (y : AV), look (mvT i n t) s = some y → ∃ x, look t s = some x ∧ y = x.ren (mvR i n)
  | [], s, y, h => by simp [mvT, look] at h
  | (q, x) :: l, s, y, h => by
    simp only [mvT, look] at h
    split at h
    · rename_i e; injection h with h; exact ⟨x, by simp [look, e], h.symm⟩
    · rename_i e
      obtain ⟨x', h1, h2⟩ := mvT_look i n l s y h
      exact ⟨x', by simp [look, e, h1], h2⟩
theorem mvH_len (i n : Nat) : ∀ l : List (Option Ob), (mvH i n l).length = l.length
  | [] => rfl
  | none :: l => by simp [mvH, mvH_len i n l]
  | some o :: l => by simp [mvH, mvH_len i n l]
theorem mvH_get (i n : Nat) : ∀ (l : List (Option Ob)) (j : Nat), (mvH i n l)[j]? = (l[j]?).map (fun x => x.map (Ob.ren (mvR i n)))
  | [], j => by simp [mvH]
  | none :: l, 0 => by simp [mvH]
  | some o :: l, 0 => by simp [mvH]
  | none :: l, j + 1 => by simp [mvH, mvH_get i n l j]
  | some o :: l, j + 1 => by simp [mvH, mvH_get i n l j]

/-- the object i under the next free number; whatever points to it points there -/
theorem W_mv {cx : Cx} {c : Code} {σ : St} {Q : Exit → St → Prop} (i : Nat) {t : TypeId} {sz : Nat} {rs : List (List D)} (hi : σ.H i = some (.rows t sz rs))
    (h : W cx c ⟨mvT i σ.h.length σ.t, mvH i σ.h.length (σ.h.set i none) ++ [some (.rows t sz rs)]⟩ Q) : W cx c σ Q := by
  intro μ a w hr
  have hil : i < σ.h.length := by
    rcases Nat.lt_or_ge i σ.h.length with h' | h'
    · exact h'
    · simp [St.H, List.getElem?_eq_none h'] at hi
  generalize hn : σ.h.length = n at *
  have hmn : μ n = none := hr.mu n (by omega)
  let μ' : Mu := fun j => if j = n then μ i else μ j
  have hρ : ∀ j y, μ j = some y → μ' (mvR i n j) = some y := by
    intro j y hy
    have hjn : j ≠ n := by rintro rfl; rw [hmn] at hy; cases hy
    by_cases hji : j = i
    · subst hji; simp [μ', mvR, hy]
    · simp [μ', mvR, hji, hjn, hy]
  have eH : ∀ j, St.H ⟨mvT i n σ.t, mvH i n (σ.h.set i none) ++ [some (.rows t sz rs)]⟩ j = if j = n then some (.rows t sz rs) else if j = i then none else (σ.H j).map (Ob.ren (mvR i n)) := by
    intro j
    have hlen : (mvH i n (σ.h.set i none)).length = n := by rw [mvH_len]; simp [hn]
    simp only [St.H]
    by_cases hj : j < n
    · rw [List.getElem?_append_left (by rw [hlen]; exact hj), mvH_get, if_neg (by omega), List.getElem?_set]
      by_cases hji : i = j
      · subst hji; simp [hn, hj]
      · rw [if_neg hji, if_neg (fun h => hji h.symm)]
        cases hq : σ.h[j]? with
        | none => simp
        | some o => cases o <;> simp
    · by_cases hjn : j = n
      · subst hjn; rw [List.getElem?_append_right (by omega), hlen]; simp
      · have h1 : σ.h[j]? = none := List.getElem?_eq_none (by omega)
        rw [List.getElem?_eq_none (by simp [hlen]; omega), if_neg hjn, h1]
        simp
  have sub : ∀ j, St.H ⟨mvT i n σ.t, mvH i n (σ.h.set i none) ++ [some (.rows t sz rs)]⟩ j ≠ none → ∃ q, σ.H q ≠ none ∧ μ' j = μ q ∧ mvR i n q = j := by
    intro j hj
    rw [eH] at hj
    by_cases hjn : j = n
    · subst hjn; exact ⟨i, by rw [hi]; simp, by simp [μ'], by simp [mvR]⟩
    · rw [if_neg hjn] at hj
      by_cases hji : j = i
      · rw [if_pos hji] at hj; exact absurd rfl hj
      · rw [if_neg hji] at hj
        refine ⟨j, fun h => by rw [h] at hj; exact hj rfl, by simp [μ', hjn], by simp [mvR, hji]⟩
  have hS : ∀ b, cx.Sta σ.H μ w b → cx.Sta (St.H ⟨mvT i n σ.t, mvH i n (σ.h.set i none) ++ [some (.rows t sz rs)]⟩) μ' w b := by
    rintro b (hv | ⟨h1, h2, h3, h4⟩)
    · exact .inl hv
    · refine .inr ⟨h1, h2, h3, fun j hj he => ?_⟩
      obtain ⟨q, hq, e, _⟩ := sub j hj
      rw [e] at he
      exact h4 q hq he
  have ev0 := Ev.refl w (fun _ => False)
  refine h μ' a w ⟨⟨hr.rr.n, hr.rr.dfr, fun s y hy => ?_, fun j o ho => ?_, fun j b hj hb => ?_, fun j k b hj hk hbj hbk => ?_, hr.rr.fr, hr.rr.vlt, hr.rr.blt⟩, fun j hj => ?_, fun j hj => ?_, ?_⟩
  · obtain ⟨x, hx, rfl⟩ := mvT_look i n σ.t s y hy
    obtain ⟨v, h1, h2⟩ := hr.rr.tm s x hx
    exact ⟨v, h1, (h2.ren hρ).evolve ev0 (fun _ h => h.elim) hS (fun _ _ h => h)⟩
  · have hj : St.H ⟨mvT i n σ.t, mvH i n (σ.h.set i none) ++ [some (.rows t sz rs)]⟩ j ≠ none := by rw [ho]; simp
    rw [eH] at ho
    by_cases hjn : j = n
    · subst hjn
      rw [if_pos rfl] at ho; injection ho with ho; subst ho
      have h1 := (hr.rr.ob i _ hi).ren hρ
      have e : mvR i j i = j := by simp [mvR]
      rw [e] at h1
      exact h1.evolve ev0 (fun _ h => h.elim) hS (fun _ _ h => h) (fun _ _ h => h)
    · rw [if_neg hjn] at ho
      by_cases hji : j = i
      · rw [if_pos hji] at ho; cases ho
      · rw [if_neg hji] at ho
        cases hq : σ.H j with
        | none => rw [hq] at ho; cases ho
        | some o' =>
          rw [hq] at ho; simp only [Option.map_some, Option.some.injEq] at ho; subst ho
          have h1 := (hr.rr.ob j _ hq).ren hρ
          have e : mvR i n j = j := by simp [mvR, hji]
          rw [e] at h1
          exact h1.evolve ev0 (fun _ h => h.elim) hS (fun _ _ h => h) (fun _ _ h => h)
  · obtain ⟨q, hq, e, _⟩ := sub j hj
    rw [e] at hb
    exact hr.rr.own q b hq hb
  · obtain ⟨p, hp, e1, f1⟩ := sub j hj
    obtain ⟨q, hq, e2, f2⟩ := sub k hk
    rw [e1] at hbj
    rw [e2] at hbk
    rw [← f1, ← f2, hr.rr.inj p q b hp hq hbj hbk]
  · have : n + 1 ≤ j := by simpa [mvH_len, hn] using hj
    have hjn : j ≠ n := by omega
    simp [μ', hjn]
    exact hr.mu j (by omega)
  · have hjn : j ≠ n := by have := hr.kle; omega
    simp [μ', hjn]
    exact hr.bor j hj
  · simp [mvH_len, hn]; have := hr.kle; omega

/-- a cell of a box that is no slice becomes an object of its own -/
theorem W_adoptC {cx : Cx} {c : Code} {σ : St} {Q : Exit → St → Prop} (i p : Nat) {tb t : TypeId} {sz : Nat} {cs : List AV} (hsz : 0 < sz) (hi : σ.H i = some (.box tb cs)) (hp : cs[p]? = some .nil)
    (h : W cx c ⟨σ.t, σ.h.set i (some (.box tb (cs.set p (.row σ.h.length sz 0 0)))) ++ [some (.rows t sz [])]⟩ Q) : W cx c σ Q := by
  intro μ a w hr
  have hil : i < σ.h.length := by
    rcases Nat.lt_or_ge i σ.h.length with h' | h'
    · exact h'
    · simp [St.H, List.getElem?_eq_none h'] at hi
  generalize hn : σ.h.length = n at *
  have hmn : μ n = none := hr.mu n (by omega)
  have hμ : ∀ j y, μ j = some y → setMu μ n none j = some y := by
    intro j y hy
    have hjn : j ≠ n := by rintro rfl; rw [hmn] at hy; cases hy
    simp [setMu, hjn, hy]
  have eH : ∀ j, St.H ⟨σ.t, σ.h.set i (some (.box tb (cs.set p (.row n sz 0 0)))) ++ [some (.rows t sz [])]⟩ j = if j = n then some (.rows t sz []) else if j = i then some (.box tb (cs.set p (.row n sz 0 0))) else σ.H j := by
    intro j
    simp only [St.H]
    by_cases hj : j < n
    · rw [List.getElem?_append_left (by simp [hn, hj]), if_neg (by omega), List.getElem?_set]
      by_cases hji : i = j
      · subst hji; simp [hn, hj]
      · rw [if_neg hji, if_neg (fun h => hji h.symm)]
    · by_cases hjn : j = n
      · subst hjn; rw [List.getElem?_append_right (by simp [hn])]; simp [hn]
      · have h1 : σ.h[j]? = none := List.getElem?_eq_none (by omega)
        rw [List.getElem?_eq_none (by simp [hn]; omega), if_neg hjn, if_neg (by omega), h1]
  have sub : ∀ j, St.H ⟨σ.t, σ.h.set i (some (.box tb (cs.set p (.row n sz 0 0)))) ++ [some (.rows t sz [])]⟩ j ≠ none → j = n ∨ (j ≠ n ∧ σ.H j ≠ none) := by
    intro j hj
    rw [eH] at hj
    by_cases hjn : j = n
    · exact .inl hjn
    · rw [if_neg hjn] at hj
      by_cases hji : j = i
      · exact .inr ⟨hjn, by rw [hji, hi]; simp⟩
      · rw [if_neg hji] at hj; exact .inr ⟨hjn, hj⟩
  have hm' : ∀ j, j ≠ n → setMu μ n none j = μ j := fun j hj => by simp [setMu, hj]
  have hmn' : setMu μ n none n = some none := by simp [setMu]
  have hS : ∀ b, cx.Sta σ.H μ w b → cx.Sta (St.H ⟨σ.t, σ.h.set i (some (.box tb (cs.set p (.row n sz 0 0)))) ++ [some (.rows t sz [])]⟩) (setMu μ n none) w b := by
    rintro b (hv | ⟨h1, h2, h3, h4⟩)
    · exact .inl hv
    · refine .inr ⟨h1, h2, h3, fun j hj he => ?_⟩
      rcases sub j hj with rfl | ⟨hjn, hq⟩
      · rw [hmn'] at he; cases he
      · rw [hm' j hjn] at he; exact h4 j hq he
  have ev0 := Ev.refl w (fun _ => False)
  refine h (setMu μ n none) a w ⟨⟨hr.rr.n, hr.rr.dfr, fun s y hy => ?_, fun j o ho => ?_, fun j b hj hb => ?_, fun j k b hj hk hbj hbk => ?_, hr.rr.fr, hr.rr.vlt, hr.rr.blt⟩, fun j hj => ?_, fun j hj => ?_, ?_⟩
  · obtain ⟨v, h1, h2⟩ := hr.rr.tm s y hy
    exact ⟨v, h1, h2.evolve ev0 (fun _ h => h.elim) hS hμ⟩
  · rw [eH] at ho
    by_cases hjn : j = n
    · subst hjn
      rw [if_pos rfl] at ho; injection ho with ho; subst ho
      exact .rowsNil hmn' hsz
    · rw [if_neg hjn] at ho
      by_cases hji : j = i
      · subst hji
        rw [if_pos rfl] at ho; injection ho with ho; subst ho
        have h0 := hr.rr.ob j _ hi
        cases h0 with
        | box b1 b2 b3 b4 b5 =>
          refine .box (hμ _ _ b1) b2 (by simpa using b3) (fun q x v hx hv => ?_) b5
          rw [List.getElem?_set] at hx
          by_cases hpq : p = q
          · subst hpq
            have hlt : p < cs.length := (List.getElem?_eq_some_iff.1 hp).1
            simp [hlt] at hx; subst hx
            have := b4 p _ v hp hv
            cases this
            exact .rowNil hmn'
          · rw [if_neg hpq] at hx
            exact (b4 q x v hx hv).evolve ev0 (fun _ h => h.elim) hS hμ
      · rw [if_neg hji] at ho
        exact (hr.rr.ob j _ ho).evolve ev0 (fun _ h => h.elim) hS hμ (fun _ _ h => h)
  · rcases sub j hj with rfl | ⟨hjn, hq⟩
    · rw [hmn'] at hb; cases hb
    · rw [hm' j hjn] at hb; exact hr.rr.own j b hq hb
  · rcases sub j hj with rfl | ⟨hjn, hq⟩
    · rw [hmn'] at hbj; cases hbj
    · rcases sub k hk with rfl | ⟨hkn, hq2⟩
      · rw [hmn'] at hbk; cases hbk
      · rw [hm' j hjn] at hbj; rw [hm' k hkn] at hbk
        exact hr.rr.inj j k b hq hq2 hbj hbk
  · have : n + 1 ≤ j := by simpa [hn] using hj
    rw [hm' j (by omega)]
    exact hr.mu j (by omega)
  · rw [hm' j (by have := hr.kle; omega)]
    exact hr.bor j hj
  · simp [hn]; have := hr.kle; omega
attribute [go_sem] mvR mvT mvH
end Go.Proofs.YtnclclpfmldocaaGreat
