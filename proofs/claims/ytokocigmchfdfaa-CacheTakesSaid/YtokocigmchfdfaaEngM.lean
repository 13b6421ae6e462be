/- Engine, part M: statements, loops, whole functions. -/
import Derived.Test.YtokocigmchfdfaaEngL
set_option linter.unusedSimpArgs false
set_option linter.unusedVariables false
namespace Go.Proofs.Ytokocigmchfdfaa
open Go.RowKit

def W (cx : Cx) (c : Code) (σ : St) (Q : Exit → St → Prop) : Prop :=
  ∀ μ a w, RRs cx σ μ a w → c.wp cx.P (fun e a' w' => ∃ σ' μ', Q e σ' ∧ RRs cx σ' μ' a' w') a w

theorem W_mono {cx : Cx} {c : Code} {σ : St} {Q Q' : Exit → St → Prop} (h : W cx c σ Q) (hq : ∀ e σ, Q e σ → Q' e σ) : W cx c σ Q' :=
  fun μ a w hr => wp_mono (h μ a w hr) fun _ _ _ ⟨σ', μ', h1, h2⟩ => ⟨σ', μ', hq _ _ h1, h2⟩

theorem W_skip {cx : Cx} {σ : St} {Q : Exit → St → Prop} (h : Q .normal σ) : W cx .skip σ Q := fun μ _ _ hr => wp_skip ⟨σ, μ, h, hr⟩
theorem W_label {cx : Cx} {l : Nat} {σ : St} {Q : Exit → St → Prop} (h : Q .normal σ) : W cx (.label l) σ Q := fun μ _ _ hr => wp_label ⟨σ, μ, h, hr⟩
theorem W_ret {cx : Cx} {σ : St} {Q : Exit → St → Prop} (h : Q .ret σ) : W cx .ret σ Q := fun μ _ _ hr => wp_ret ⟨σ, μ, h, hr⟩
theorem W_exit {cx : Cx} {id : Nat} {σ : St} {Q : Exit → St → Prop} (h : Q (.exit id) σ) : W cx (.exit id) σ Q := fun μ _ _ hr => wp_exit ⟨σ, μ, h, hr⟩

def thenQ (K : St → Prop) (Q : Exit → St → Prop) : Exit → St → Prop
  | .normal, σ => K σ
  | e, σ => Q e σ
def blockQ (id : Nat) (Q : Exit → St → Prop) : Exit → St → Prop
  | .exit id', σ => if id' = id then Q .normal σ else Q (.exit id') σ
  | e, σ => Q e σ

theorem W_seq {cx : Cx} {x y : Code} {σ : St} {Q : Exit → St → Prop} (h : W cx x σ (thenQ (fun σ' => W cx y σ' Q) Q)) : W cx (.seq x y) σ Q := by
  intro μ a w hr
  refine wp_seq (wp_mono (h μ a w hr) ?_)
  rintro e a' w' ⟨σ', μ', h1, h2⟩
  cases e with
  | normal => exact h1 μ' a' w' h2
  | _ => exact ⟨σ', μ', h1, h2⟩

theorem W_block {cx : Cx} {id : Nat} {x : Code} {σ : St} {Q : Exit → St → Prop} (h : W cx x σ (blockQ id Q)) : W cx (.block id x) σ Q := by
  intro μ a w hr
  refine wp_block (wp_mono (h μ a w hr) ?_)
  rintro e a' w' ⟨σ', μ', h1, h2⟩
  cases e with
  | exit id' =>
    simp only [Exit.inBlock, blockQ] at h1 ⊢
    by_cases hid : id' = id
    · rw [if_pos hid] at h1 ⊢; exact ⟨σ', μ', h1, h2⟩
    · rw [if_neg hid] at h1 ⊢; exact ⟨σ', μ', h1, h2⟩
  | _ => exact ⟨σ', μ', h1, h2⟩

theorem W_cond {cx : Cx} {c : Operand} {x y : Code} {σ : St} {Q : Exit → St → Prop} {b : Bool} (hc : getT σ.T c = some (.d (.bool b))) (ht : b = true → W cx x σ Q) (hf : b = false → W cx y σ Q) : W cx (.cond c x y) σ Q := by
  intro μ a w hr
  have := hr.rr.eval (ts := σ.T) (fun _ _ => rfl) hc
  generalize hv : a.eval c = v at this
  cases this with
  | d this =>
    cases this
    exact wp_cond_split hv (fun h => ht h μ a w hr) (fun h => hf h μ a w hr)

/-- a test whose outcome is not known -/
theorem W_tf {cx : Cx} {c : Operand} {x y : Code} {σ : St} {Q : Exit → St → Prop} {p q : Prop} (hc : getT σ.T c = some (.tf p q)) (ht : p → W cx x σ Q) (hf : q → W cx y σ Q) : W cx (.cond c x y) σ Q := by
  intro μ a w hr
  have := hr.rr.eval (ts := σ.T) (fun _ _ => rfl) hc
  generalize hv : a.eval c = v at this
  cases this with
  | tf h1 h2 => exact wp_cond_split hv (fun h => ht (h1 h) μ a w hr) (fun h => hf (h2 h) μ a w hr)

/-- what is still looked at -/
def keepT (t : List (Nat × AV)) : List Nat → List (Nat × AV)
  | [] => []
  | s :: L => match look t s with
    | some x => (s, x) :: keepT t L
    | none => keepT t L
def St.keep (σ : St) (L : List Nat) : St := ⟨keepT σ.t L, σ.h⟩

theorem keepT_look (t : List (Nat × AV)) : ∀ (L : List Nat) (s : Nat) (x : AV), look (keepT t L) s = some x → look t s = some x
  | [], s, x, h => by simp [keepT, look] at h
  | q :: L, s, x, h => by
    simp only [keepT] at h
    split at h
    · rename_i y hy
      simp only [look] at h
      split at h
      · rename_i hs; subst hs; injection h with h; subst h; exact hy
      · exact keepT_look t L s x h
    · exact keepT_look t L s x h

theorem RRs.keep {cx : Cx} {σ : St} {μ : Mu} {a : Act} {w : World} (h : RRs cx σ μ a w) (L : List Nat) : RRs cx (σ.keep L) μ a w :=
  ⟨h.rr.forget (fun s x hx => keepT_look σ.t L s x hx), h.mu, h.bor, h.kle⟩

theorem W_region {cx : Cx} {id : Nat} {l : List Oper} {σ : St} {Q : Exit → St → Prop} (L : List Nat) (h : opsV cx.P cx.n (l.map (·.dst)) l σ fun σ' => Q .normal (σ'.keep L)) : W cx (.region id l.toArray false) σ Q :=
  fun μ a w hr => wp_region_list (opsV_sound _ σ _ μ a w (by simpa using h) hr fun _ μ' _ _ h1 h2 => ⟨_, μ', h1, h2.keep L⟩)

theorem W_draw {cx : Cx} {id : Nat} {l : List Oper} {σ : St} {Q : Exit → St → Prop} (L : List Nat) (hm : cx.P.follows .mixedOrders = true)
    (h : opsD cx.P cx.n (l.map (·.dst)) l σ [] fun feet σ' => chkR l.toArray feet = true ∧ Q .normal (σ'.keep L)) : W cx (.region id l.toArray true) σ Q :=
  fun μ a w hr => region_draw (K := fun σ' => Q .normal (σ'.keep L)) hm (by simpa using h) hr fun _ μ' _ _ h1 h2 => ⟨_, μ', h1, h2.keep L⟩

/-! ### a state seen as a poorer one, its objects under other numbers -/
theorem Rep.unren {w : World} {S : Nat → Prop} {μ : Mu} {ρ : Nat → Nat} {y : AV} {v : Value} (h : Rep w S μ y v) : ∀ x : AV, y = x.ren ρ → Rep w S (fun i => μ (ρ i)) x v := by
  induction h with
  | d h => intro x hx; cases x <;> simp [AV.ren] at hx; subst hx; exact .d h
  | ptr h => intro x hx; cases x <;> simp [AV.ren] at hx; obtain ⟨rfl, rfl⟩ := hx; exact .ptr h
  | ep h => intro x hx; cases x <;> simp [AV.ren] at hx; obtain ⟨rfl, rfl, rfl, rfl⟩ := hx; exact .ep h
  | dp f a b c => intro x hx; cases x <;> simp [AV.ren] at hx; subst hx; exact .dp f a b c
  | rowNil h => intro x hx; cases x <;> simp [AV.ren] at hx; obtain ⟨rfl, rfl, rfl, rfl⟩ := hx; exact .rowNil h
  | row h1 h2 h3 h4 h5 => intro x hx; cases x <;> simp [AV.ren] at hx; obtain ⟨rfl, rfl, rfl, rfl⟩ := hx; exact .row h1 h2 h3 h4 h5
  | subNil => intro x hx; cases x <;> simp [AV.ren] at hx; obtain ⟨rfl, rfl, rfl, rfl⟩ := hx; exact .subNil
  | sub h1 h2 h3 => intro x hx; cases x <;> simp [AV.ren] at hx; obtain ⟨rfl, rfl, rfl, rfl⟩ := hx; exact .sub h1 h2 h3
  | rowc h1 h2 h3 h4 h5 => intro x hx; cases x <;> simp [AV.ren] at hx; obtain ⟨rfl, rfl, rfl, rfl⟩ := hx; exact .rowc h1 h2 h3 h4 h5
  | nil => intro x hx; cases x <;> simp [AV.ren] at hx; exact .nil
  | nilp => intro x hx; cases x <;> simp [AV.ren] at hx; exact .nilp
  | ifc _ ih => intro x hx; cases x <;> simp [AV.ren] at hx; obtain ⟨rfl, rfl⟩ := hx; exact .ifc (ih _ rfl)
  | mp h => intro x hx; cases x <;> simp [AV.ren] at hx; subst hx; exact .mp h
  | fn h1 _ ih =>
    intro x hx; cases x <;> simp [AV.ren] at hx
    obtain ⟨rfl, rfl⟩ := hx
    rw [renL_map] at h1 ih
    exact .fn (by simpa using h1) (fun j x v hx hv => ih j (x.ren ρ) v (by simp [hx]) hv x rfl)
  | agg h1 _ h3 ih =>
    intro x hx; cases x <;> simp [AV.ren] at hx
    subst hx
    rw [renL_map] at h1 ih
    exact .agg (by simpa using h1) (fun j x v hx hv => ih j (x.ren ρ) v (by simp [hx]) hv x rfl) h3
  | tup h1 _ ih =>
    intro x hx; cases x <;> simp [AV.ren] at hx
    subst hx
    rw [renL_map] at h1 ih
    exact .tup (by simpa using h1) (fun j x v hx hv => ih j (x.ren ρ) v (by simp [hx]) hv x rfl)
  | tf h1 h2 => intro x hx; cases x <;> simp [AV.ren] at hx; exact .tf (fun hb => hx.1.1 (h1 hb)) (fun hb => hx.2.1 (h2 hb))
  | any => intro x hx; cases x <;> simp [AV.ren] at hx; exact .any

theorem ObRep.unren {w : World} {S : Nat → Prop} {μ : Mu} {ρ : Nat → Nat} {i : Nat} {o : Ob} (h : ObRep w S μ (ρ i) (o.ren ρ)) : ObRep w S (fun i => μ (ρ i)) i o := by
  cases o with
  | box t cs =>
    simp only [Ob.ren] at h
    cases h with
    | box h1 h2 h3 h4 h5 =>
      rw [renL_map] at h3 h4
      exact .box h1 h2 (by simpa using h3) (fun j x v hx hv => (h4 j (x.ren ρ) v (by simp [hx]) hv).unren x rfl) h5
  | rows t sz rs =>
    simp only [Ob.ren] at h
    cases h with
    | rowsNil h1 h2 => exact .rowsNil h1 h2
    | rows h1 h2 h3 h4 h5 h6 => exact .rows h1 h2 h3 h4 h5 h6

def subT (ρ : Nat → Nat) (t : List (Nat × AV)) : List (Nat × AV) → Prop
  | [] => True
  | (s, x) :: l => look t s = some (x.ren ρ) ∧ subT ρ t l
def subH (ρ : Nat → Nat) (h : List (Option Ob)) : List (Option Ob) → List Nat → Prop
  | [], [] => True
  | none :: g, _ :: L => subH ρ h g L
  | some o :: g, i :: L => (h[i]?).join = some (o.ren ρ) ∧ subH ρ h g L
  | _, _ => False
def rho (L : List Nat) (n : Nat) (i : Nat) : Nat := match L[i]? with
  | some j => j
  | none => n + i
def fixes : Nat → List Nat → Nat → Bool
  | 0, _, _ => true
  | k + 1, x :: L, i => (x == i) && fixes k L (i + 1)
  | _ + 1, [], _ => false

/-- σ' is σ with less remembered; its objects are those of σ at the numbers L -/
def Sub (k : Nat) (L : List Nat) (σ' σ : St) : Prop :=
  subT (rho L σ.h.length) σ.t σ'.t ∧ subH (rho L σ.h.length) σ.h σ'.h L ∧ distinct L = true ∧ L.all (fun i => decide (i < σ.h.length)) = true ∧ fixes k L 0 = true

theorem subT_look {ρ : Nat → Nat} {t : List (Nat × AV)} : ∀ {l : List (Nat × AV)}, subT ρ t l → ∀ s x, look l s = some x → look t s = some (x.ren ρ)
  | [], _, s, x, h => by simp [look] at h
  | (q, y) :: l, hs, s, x, h => by
    simp only [look] at h
    split at h
    · rename_i e; subst e; injection h with h; subst h; exact hs.1
    · exact subT_look hs.2 s x h

theorem subH_len {ρ : Nat → Nat} {h : List (Option Ob)} : ∀ {g : List (Option Ob)} {L : List Nat}, subH ρ h g L → g.length = L.length
  | [], [], _ => rfl
  | [], _ :: _, hs => by exact hs.elim
  | _ :: _, [], hs => by cases ‹Option Ob› <;> exact hs.elim
  | none :: g, _ :: L, hs => by simp [subH_len (g := g) hs]
  | some o :: g, i :: L, hs => by simp [subH_len (g := g) hs.2]
theorem subH_get {ρ : Nat → Nat} {h : List (Option Ob)} : ∀ {g : List (Option Ob)} {L : List Nat}, subH ρ h g L → ∀ (i : Nat) (o : Ob), (g[i]?).join = some o → ∃ j, L[i]? = some j ∧ (h[j]?).join = some (o.ren ρ)
  | [], [], _, i, o, hi => by simp at hi
  | [], _ :: _, hs, _, _, _ => by exact hs.elim
  | _ :: _, [], hs, _, _, _ => by cases ‹Option Ob› <;> exact hs.elim
  | none :: g, q :: L, hs, i, o, hi => by
    cases i with
    | zero => simp at hi
    | succ i => simpa using subH_get (g := g) hs i o (by simpa using hi)
  | some o' :: g, q :: L, hs, i, o, hi => by
    cases i with
    | zero => simp at hi; subst hi; exact ⟨q, rfl, hs.1⟩
    | succ i => simpa using subH_get (g := g) hs.2 i o (by simpa using hi)

theorem fixes_get : ∀ {k : Nat} {L : List Nat} {i : Nat}, fixes k L i = true → ∀ j, j < k → L[j]? = some (i + j)
  | 0, _, _, _, j, hj => by omega
  | k + 1, [], _, h, _, _ => by simp [fixes] at h
  | k + 1, x :: L, i, h, j, hj => by
    simp only [fixes, Bool.and_eq_true, beq_iff_eq] at h
    cases j with
    | zero => simp [h.1]
    | succ j => have := fixes_get h.2 j (by omega); simp [this]; omega

theorem RRs.sub {cx : Cx} {σ σ' : St} {μ : Mu} {a : Act} {w : World} {L : List Nat} (h : RRs cx σ μ a w) (hs : Sub cx.k L σ' σ) : RRs cx σ' (fun i => μ (rho L σ.h.length i)) a w := by
  obtain ⟨hT, hH, hd, hlt, hf⟩ := hs
  have hlen := subH_len hH
  have live : ∀ i, σ'.H i ≠ none → ∃ j, L[i]? = some j ∧ rho L σ.h.length i = j ∧ σ.H j ≠ none := by
    intro i hi
    obtain ⟨o, ho⟩ := Option.ne_none_iff_exists'.1 hi
    obtain ⟨j, h1, h2⟩ := subH_get hH i o ho
    exact ⟨j, h1, by simp [rho, h1], by unfold St.H; rw [h2]; simp⟩
  have hS : ∀ b, cx.Sta σ.H μ w b → cx.Sta σ'.H (fun i => μ (rho L σ.h.length i)) w b := by
    intro b hb
    rcases hb with hv | ⟨h1, h2, h3, h4⟩
    · exact .inl hv
    · refine .inr ⟨h1, h2, h3, fun i hi he => ?_⟩
      obtain ⟨j, _, e, hj⟩ := live i hi
      simp only [e] at he
      exact h4 j hj he
  have ev0 := Ev.refl w (fun _ => False)
  refine ⟨⟨h.rr.n, h.rr.dfr, fun s x hx => ?_, fun i o ho => ?_, fun i b hi hb => ?_, fun i j b hi hj hbi hbj => ?_, h.rr.fr, h.rr.vlt, h.rr.blt⟩, fun i hi => ?_, fun i hi => ?_, ?_⟩
  · obtain ⟨v, h1, h2⟩ := h.rr.tm s _ (subT_look hT s x hx)
    exact ⟨v, h1, (h2.unren x rfl).evolve ev0 (fun _ h => h.elim) hS (fun _ _ h => h)⟩
  · obtain ⟨j, h1, h2⟩ := subH_get hH i o ho
    have e : rho L σ.h.length i = j := by simp [rho, h1]
    have h3 := h.rr.ob j _ h2
    rw [← e] at h3
    exact (ObRep.unren h3).evolve ev0 (fun _ h => h.elim) hS (fun _ _ h => h) (fun _ _ h => h)
  · obtain ⟨j, _, e, hj⟩ := live i hi
    simp only [e] at hb
    exact h.rr.own j b hj hb
  · obtain ⟨p, p1, e1, hp⟩ := live i hi
    obtain ⟨q, q1, e2, hq⟩ := live j hj
    simp only [e1] at hbi
    simp only [e2] at hbj
    obtain rfl := h.rr.inj p q b hp hq hbi hbj
    exact distinct_inj hd i j p p1 q1
  · have : L[i]? = none := List.getElem?_eq_none (by omega)
    simp only [rho, this]
    exact h.mu _ (by omega)
  · have := fixes_get hf i hi
    simp only [Nat.zero_add] at this
    simp only [rho, this]
    exact h.bor i hi
  · rw [hlen]
    rcases Nat.lt_or_ge L.length cx.k with hl | hl
    · have := fixes_get hf L.length hl
      simp at this
    · exact hl

theorem W_sub {cx : Cx} {c : Code} {σ σ' : St} {Q : Exit → St → Prop} (L : List Nat) (hs : Sub cx.k L σ' σ) (h : W cx c σ' Q) : W cx c σ Q :=
  fun _ a w hr => h _ a w (hr.sub hs)

/-- a loop: st x: the state at the head, of which p x is known; m x goes down -/
theorem W_loop {cx : Cx} {c : Code} {σ : St} {Q : Exit → St → Prop} {X : Type} (st : X → St) (p : X → Prop) (m : X → Nat) (x0 : X) (hp : p x0) (L0 : List Nat) (hs : Sub cx.k L0 (st x0) σ)
    (round : ∀ x, p x → W cx c (st x) (thenQ (fun σ' => ∃ x' L, p x' ∧ m x' < m x ∧ Sub cx.k L (st x') σ') Q)) : W cx (.loop c) σ Q := by
  intro μ a w hr
  refine wp_loop_ghost (fun n a w => ∃ x μ, p x ∧ m x = n ∧ RRs cx (st x) μ a w) (m x0) ⟨x0, _, hp, rfl, hr.sub hs⟩ ?_
  rintro n a w ⟨x, μ, hpx, rfl, hrx⟩
  refine wp_mono (round x hpx μ a w hrx) ?_
  rintro e a' w' ⟨σ', μ', h1, h2⟩
  cases e with
  | normal =>
    obtain ⟨x', L, hp', hm', hs'⟩ := h1
    exact ⟨m x', hm', x', _, hp', rfl, h2.sub hs'⟩
  | _ => exact ⟨σ', μ', h1, h2⟩

/-- an empty slice becomes an object of its own -/
theorem W_adopt {cx : Cx} {c : Code} {σ : St} {Q : Exit → St → Prop} (s : Nat) (t : TypeId) (sz : Nat) (hsz : 0 < sz) (hs : look σ.t s = some .nil) (h : W cx c ⟨(s, .row σ.h.length sz 0 0) :: σ.t, σ.h ++ [some (.rows t sz [])]⟩ Q) : W cx c σ Q := by
  intro μ a w hr
  have hn : μ σ.h.length = none := hr.mu _ (Nat.le_refl _)
  have key := hr.rr.regrow hn (.rows t sz []) (.row σ.h.length sz 0 0) [] [] (nb := none) (.inl rfl) (Ev.refl w (fun _ => False)) (fun _ h => h.elim) (fun _ h => by cases h) (fun S' _ => .rowsNil (by simp [setMu]) hsz)
  obtain ⟨v, h1, h2⟩ := hr.rr.tm s _ hs
  cases h2
  refine h (setMu μ σ.h.length none) a w ⟨?_, fun i hi => ?_, fun i hi => ?_, by simp; have := hr.kle; omega⟩
  · have e1 : St.H ⟨(s, .row σ.h.length sz 0 0) :: σ.t, σ.h ++ [some (.rows t sz [])]⟩ = appH σ.h.length ⟨.row σ.h.length sz 0 0, [.rows t sz []], [], []⟩ σ.H := St.app_H σ (some s) ⟨.row σ.h.length sz 0 0, [.rows t sz []], [], []⟩ rfl
    rw [e1]
    refine ⟨key.n, key.dfr, fun q x hx => ?_, key.ob, key.own, key.inj, key.fr, key.vlt, key.blt⟩
    simp only [St.T, look] at hx
    split at hx
    · rename_i e; subst e; injection hx with hx; subst hx
      exact ⟨_, h1, .rowNil (by simp [setMu])⟩
    · exact key.tm q x hx
  · simp at hi
    have : i ≠ σ.h.length := by omega
    simp [setMu, this]; exact hr.mu i (by omega)
  · have : i ≠ σ.h.length := by have := hr.kle; omega
    simp [setMu, this]; exact hr.bor i hi

/-! ### whole functions -/
def flatD : D → Prop
  | .sl rows => rows = []
  | _ => True
mutual
def flatA : AV → Prop
  | .d x => flatD x
  | .dp _ => False
  | .fn _ cs => flatL cs
  | .agg cs => flatL cs
  | .tup cs => flatL cs
  | .ifc _ x => flatA x
  | _ => True
def flatL : List AV → Prop
  | [] => True
  | x :: l => flatA x ∧ flatL l
end
def flatO : Ob → Prop
  | .box _ cs => flatL cs
  | .rows _ _ rs => ∀ r ∈ rs, ∀ x ∈ r, flatD x
def flatOs : List Ob → Prop
  | [] => True
  | o :: l => flatO o ∧ flatOs l

theorem flatL_mem : ∀ {l : List AV}, flatL l → ∀ x ∈ l, flatA x
  | [], _, x, h => by cases h
  | y :: l, hf, x, h => by
    rcases List.mem_cons.1 h with rfl | h
    · exact hf.1
    · exact flatL_mem hf.2 x h
theorem flatOs_mem : ∀ {l : List Ob}, flatOs l → ∀ x ∈ l, flatO x
  | [], _, x, h => by cases h
  | y :: l, hf, x, h => by
    rcases List.mem_cons.1 h with rfl | h
    · exact hf.1
    · exact flatOs_mem hf.2 x h
theorem RepD.flat {w : World} {S S' : Nat → Prop} {x : D} {v : Value} (h : RepD w S x v) (hf : flatD x) : RepD w S' x v := by
  cases h with
  | int => exact .int
  | bool => exact .bool
  | nil => exact .nil
  | sl f _ _ _ _ _ => simp only [flatD] at hf; subst hf; exact .nil
theorem Rep.flat {w : World} {S S' : Nat → Prop} {μ : Mu} {x : AV} {v : Value} (h : Rep w S μ x v) (hf : flatA x) : Rep w S' μ x v := by
  induction h with
  | d h => exact .d (h.flat hf)
  | ptr h => exact .ptr h
  | ep h => exact .ep h
  | dp f a b c => exact hf.elim
  | rowNil h => exact .rowNil h
  | row h1 h2 h3 h4 h5 => exact .row h1 h2 h3 h4 h5
  | subNil => exact .subNil
  | sub h1 h2 h3 => exact .sub h1 h2 h3
  | rowc h1 h2 h3 h4 h5 => exact .rowc h1 h2 h3 h4 h5
  | nil => exact .nil
  | nilp => exact .nilp
  | ifc _ ih => exact .ifc (ih hf)
  | mp h => exact .mp h
  | fn h1 _ ih => exact .fn h1 (fun j x v hx hv => ih j x v hx hv (flatL_mem hf x (List.mem_of_getElem? hx)))
  | agg h1 _ h3 ih => exact .agg h1 (fun j x v hx hv => ih j x v hx hv (flatL_mem hf x (List.mem_of_getElem? hx))) h3
  | tup h1 _ ih => exact .tup h1 (fun j x v hx hv => ih j x v hx hv (flatL_mem hf x (List.mem_of_getElem? hx)))
  | tf h1 h2 => exact .tf h1 h2
  | any => exact .any
theorem ObRep.flat {w : World} {S S' : Nat → Prop} {μ : Mu} {i : Nat} {o : Ob} (h : ObRep w S μ i o) (hf : flatO o) : ObRep w S' μ i o := by
  cases h with
  | box h1 h2 h3 h4 h5 => exact .box h1 h2 h3 (fun j x v hx hv => (h4 j x v hx hv).flat (flatL_mem hf x (List.mem_of_getElem? hx))) h5
  | rowsNil h1 h2 => exact .rowsNil h1 h2
  | rows h1 h2 h3 h4 h5 h6 => exact .rows h1 h2 h3 h4 h5 (fun k j r x v hr hx hv => (h6 k j r x v hr hx hv).flat (hf r (List.mem_of_getElem? hr) x (List.mem_of_getElem? hx)))

/-- the values that a function hands back -/
def retV (P : Program) (σ : St) : List ResultVar → (List AV → Prop) → Prop
  | [], K => K []
  | .tmp t :: l, K => withO (look σ.t t) fun x => retV P σ l fun xs => K (x :: xs)
  | .cell a t :: l, K => withO (look σ.t a) fun p => atV σ.H p fun ys _ => ldV P t ys fun x => retV P σ l fun xs => K (x :: xs)

def resOf (tmps : Array Value) : ResultVar → Sem Value
  | .tmp t => pure (tmps.getD t undef)
  | .cell b t => do loadVar t (← asAddr (tmps.getD b undef))
theorem results_eq (fn : Func) (tmps : Array Value) : results fn tmps = (do let vs ← fn.results.mapM (resOf tmps); pure (if h : vs.size = 1 then vs[0] else .tuple vs)) := by
  unfold results
  congr 1

theorem retV_run {cx : Cx} {σ : St} {μ : Mu} {a : Act} {w : World} (hr : RRs cx σ μ a w) : ∀ (l : List ResultVar) (K : List AV → Prop), retV cx.P σ l K → ∃ xs vs, K xs ∧ vs.length = xs.length ∧ xs.length = l.length ∧
    (l.mapM (resOf a.tmps)).run cx.P w = .ok vs w ∧ ∀ (j : Nat) (x : AV) (v : Value), xs[j]? = some x → vs[j]? = some v → Rep w (cx.Sta σ.H μ w) μ x v
  | [], K, h => ⟨[], [], h, rfl, rfl, rfl, by simp⟩
  | .tmp t :: l, K, h => by
    obtain ⟨x, hx, h⟩ := h
    obtain ⟨xs, vs, hK, h1, h2, h3, h4⟩ := retV_run hr l _ h
    obtain ⟨v, h5, h6⟩ := hr.rr.tm t x hx
    refine ⟨x :: xs, v :: vs, hK, by simp [h1], by simp [h2], ?_, fun j y u hy hu => ?_⟩
    · have e : a.tmps.getD t undef = v := by simp [h5]
      simp only [List.mapM_cons, resOf, Sem.run_bind, Sem.run_pure, Result.andThen_ok, h3, e]
    · cases j with
      | zero => simp at hy hu; subst hy hu; exact h6
      | succ j => simp at hy hu; exact h4 j y u hy hu
  | .cell b t :: l, K, h => by
    obtain ⟨p, hp, h⟩ := h
    obtain ⟨ys, rd, h, hrange⟩ := atV_range h
    obtain ⟨v, h5, h6⟩ := hr.rr.tm b p hp
    obtain ⟨bl, off, rfl, hR⟩ := hrange cx σ.H σ.T μ a w v hr.rr h6 (fun _ _ => rfl)
    obtain ⟨x, u, hx, hrun, hrep⟩ := run_load hR h
    obtain ⟨xs, vs, hK, h1, h2, h3, h4⟩ := retV_run hr l _ hx
    refine ⟨x :: xs, u :: vs, hK, by simp [h1], by simp [h2], ?_, fun j y u' hy hu => ?_⟩
    · have e : a.tmps.getD b undef = .pointer (some ⟨bl, off, none⟩) := by simp [h5]
      have hrun' : (loadVar t ⟨bl, off, none⟩).run cx.P w = .ok u w := by simpa [Instr.loadAt, Instr.sureAddr] using hrun
      simp only [List.mapM_cons, resOf, Sem.run_bind, Sem.run_pure, Result.andThen_ok, e, asAddr, hrun', h3]
    · cases j with
      | zero => simp at hy hu; subst hy hu; exact hrep
      | succ j => simp at hy hu; exact h4 j y u' hy hu

def packA : List AV → AV
  | [x] => x
  | xs => .tup xs

/-- the objects that are left: those lent and given up are not -/
def liveO (dead : List Nat) (nin : Nat) : Nat → List Ob → List (Option Ob)
  | _, [] => []
  | k, o :: l => (if (dead.contains k && decide (k < nin)) = true then none else some o) :: liveO dead nin (k + 1) l
theorem liveO_len {dead : List Nat} {nin : Nat} : ∀ (l : List Ob) (k : Nat), (liveO dead nin k l).length = l.length
  | [], _ => rfl
  | _ :: l, k => by simp [liveO, liveO_len l (k + 1)]
theorem liveO_get {dead : List Nat} {nin : Nat} : ∀ (l : List Ob) (k i : Nat) (o : Ob), l[i]? = some o → (nin ≤ k + i ∨ k + i ∉ dead) → ((liveO dead nin k l)[i]?).join = some o
  | [], _, i, _, h, _ => by simp at h
  | x :: l, k, i, o, h, hd => by
    cases i with
    | zero =>
      simp at h; subst h
      have : (dead.contains k && decide (k < nin)) = false := by
        rcases hd with h1 | h1
        · simp; intro _; omega
        · simp; intro h2; exact absurd h2 (by simpa using h1)
      simp only [liveO, this, List.getElem?_cons_zero]; rfl
    | succ i =>
      simp at h
      simp only [liveO, List.getElem?_cons_succ]
      exact liveO_get l (k + 1) i o h (by rw [show k + 1 + i = k + (i + 1) by omega]; exact hd)

/-- what must hold where a function ends -/
def endV (P : Program) (rs : List ResultVar) (al : Bool) (dead : List Nat) (nin : Nat) (res : AV) (outs : List Ob) (σ : St) : Prop :=
  retV P σ rs fun xs => ∃ L, packA xs = res.ren (rho L σ.h.length) ∧ subH (rho L σ.h.length) σ.h (liveO dead nin 0 outs) L ∧ distinct L = true ∧ L.all (fun i => decide (i < σ.h.length)) = true ∧ fixes nin L 0 = true ∧ (al = false → flatA res ∧ flatOs outs)

def endQ (P : Program) (rs : List ResultVar) (al : Bool) (dead : List Nat) (nin : Nat) (res : AV) (outs : List Ob) : Exit → St → Prop
  | .normal, σ => endV P rs al dead nin res outs σ
  | .ret, σ => endV P rs al dead nin res outs σ
  | _, _ => False

def argT : List AV → Nat → List (Nat × AV)
  | [], _ => []
  | x :: l, i => (i, x) :: argT l (i + 1)
theorem argT_look : ∀ (l : List AV) (i s : Nat) (x : AV), look (argT l i) s = some x → i ≤ s ∧ l[s - i]? = some x
  | [], i, s, x, h => by simp [argT, look] at h
  | y :: l, i, s, x, h => by
    simp only [argT, look] at h
    split at h
    · rename_i e; subst e; injection h with h; subst h; simp
    · obtain ⟨h1, h2⟩ := argT_look l (i + 1) s x h
      refine ⟨by omega, ?_⟩
      have : s - i = (s - (i + 1)) + 1 := by omega
      rw [this]; simpa using h2

theorem fn_ok {P : Program} {f : FuncId} {fn : Func} {c : Code} (s : Spec) (hf : P.funcs[f]? = some fn) (hb : fn.body = some c) (hname : (fn.name == "runtime.NumGoroutine") = false)
    (h : ∀ args ins res outs, s.rel args ins res outs → args.length ≤ fn.ntmps ∧ ∀ (w0 : World) (V Bo : Nat → Prop) (mu0 : Mu), W ⟨P, w0, V, Bo, fn.ntmps, ins.length, mu0⟩ c ⟨argT args 0, ins.map some⟩ (endQ P fn.results.toList s.al s.dead ins.length res outs)) : Ok P f s := by
  refine ⟨⟨fn, hf, by simp [hb], hname⟩, ?_⟩
  intro args ins res outs hrel w V Bo μ vals hin
  obtain ⟨hn, h⟩ := h args ins res outs hrel
  refine calls_of_wp hf hb ?_
  have hsz : vals.size ≤ fn.ntmps := by rw [hin.n]; exact hn
  have hH : St.H ⟨argT args 0, ins.map some⟩ = fun i => ins[i]? := by
    funext i; simp only [St.H, List.getElem?_map]; cases ins[i]? <;> rfl
  have hSta : ∀ b, V b → (Cx.Sta ⟨P, w, V, Bo, fn.ntmps, ins.length, μ⟩ (fun i => ins[i]?) μ w) b := fun b hb => .inl hb
  have ev0 := Ev.refl w (fun _ => False)
  have hr0 : RRs ⟨P, w, V, Bo, fn.ntmps, ins.length, μ⟩ ⟨argT args 0, ins.map some⟩ μ { tmps := vals ++ Array.replicate (fn.ntmps - vals.size) undef, defers := [] } w := by
    refine ⟨⟨by simp; omega, rfl, fun q x hx => ?_, fun i o ho => ?_, fun i b hi hb => ?_, fun i j b hi hj => ?_, Ev.refl w _, hin.vlt, fun b hb => ?_⟩, fun i hi => ?_, fun _ _ => rfl, by simp⟩
    · obtain ⟨_, h2⟩ := argT_look args 0 q x hx
      simp only [Nat.sub_zero] at h2
      have hq : q < vals.size := by rw [hin.n]; exact (List.getElem?_eq_some_iff.1 h2).1
      refine ⟨vals[q], by simp [Array.getElem?_append_left hq, hq], ?_⟩
      rw [hH]
      exact (hin.rep q x vals[q] h2 (by simp [hq])).evolve ev0 (fun _ h => h.elim) hSta (fun _ _ h => h)
    · rw [hH] at ho ⊢
      exact (hin.ob i o ho).evolve ev0 (fun _ h => h.elim) hSta (fun _ _ h => h) (fun _ _ h => h)
    · rw [hH] at hi
      have hlt : i < ins.length := by
        rcases Nat.lt_or_ge i ins.length with h | h
        · exact h
        · simp [List.getElem?_eq_none h] at hi
      obtain ⟨o, ho⟩ := Option.ne_none_iff_exists'.1 hi
      refine ⟨.inr (hin.bo i b hlt hb), ?_⟩
      have := hin.ob i o ho
      cases this with
      | box h1 h2 => rw [hb] at h1; injection h1 with h1; injection h1 with h1; subst h1; exact heap_lt h2
      | rowsNil h1 => rw [hb] at h1; cases h1
      | rows h1 h2 => rw [hb] at h1; injection h1 with h1; injection h1 with h1; subst h1; exact heap_lt h2
    · rw [hH] at hi hj
      have lt : ∀ i : Nat, ins[i]? ≠ none → i < ins.length := fun i h => by
        rcases Nat.lt_or_ge i ins.length with h' | h'
        · exact h'
        · exact absurd (List.getElem?_eq_none h') h
      exact hin.inj i j b (lt i hi) (lt j hj)
    · obtain ⟨i, hi, hb'⟩ := hin.bo' b hb
      have := hin.ob i ins[i] (List.getElem?_eq_getElem hi)
      generalize ins[i] = o at this
      cases this with
      | box h1 h2 => rw [hb'] at h1; injection h1 with h1; injection h1 with h1; subst h1; exact heap_lt h2
      | rowsNil h1 => rw [hb'] at h1; cases h1
      | rows h1 h2 => rw [hb'] at h1; injection h1 with h1; injection h1 with h1; subst h1; exact heap_lt h2
    · exact hin.lt i (by simpa using hi)
  refine wp_mono (h w V Bo μ μ _ w hr0) ?_
  rintro e a' w' ⟨σ', μ', hq, hr⟩
  have fin : endV P fn.results.toList s.al s.dead ins.length res outs σ' → a'.defers = [] ∧ ∃ v, (results fn a'.tmps).run P w' = .ok v w' ∧ ∃ v' μ'', Ending.returned v = .returned v' ∧ Out P s.al s.dead V Bo μ w ins.length res outs v' w' μ'' := by
    intro hend
    obtain ⟨xs, vs, ⟨L, hpack, hsub, hdist, hall, hfix, hflat⟩, l1, l2, hrun, hrep⟩ := retV_run hr _ _ hend
    refine ⟨hr.rr.dfr, ?_⟩
    let v : Value := if h : vs.length = 1 then vs[0] else .tuple vs.toArray
    have hres : (results fn a'.tmps).run P w' = .ok v w' := by
      rw [results_eq, Array.mapM_eq_mapM_toList]
      simp only [Sem.run_bind]
      have : ∀ (m : Sem (List Value)), m.run P w' = .ok vs w' → ((Functor.map List.toArray m : Sem (Array Value)).run P w') = .ok vs.toArray w' := by
        intro m hm
        show (m >>= fun l => pure l.toArray).run P w' = _
        rw [Sem.run_bind, hm]; rfl
      rw [this _ hrun]
      simp only [Result.andThen_ok, Sem.run_pure, v, List.size_toArray]
      by_cases h1 : vs.length = 1
      · simp [h1]
      · simp [h1]
    have hrv : Rep w' (Cx.Sta ⟨P, w, V, Bo, fn.ntmps, ins.length, μ⟩ σ'.H μ' w') μ' (res.ren (rho L σ'.h.length)) v := by
      rw [← hpack]
      match xs, l1, hrep with
      | [], l1, hrep =>
        have e : vs = [] := List.eq_nil_of_length_eq_zero (by simpa using l1)
        subst e
        exact .tup rfl (by simp)
      | [x], l1, hrep =>
        obtain ⟨u, rfl⟩ : ∃ u, vs = [u] := List.length_eq_one_iff.1 (by simpa using l1)
        exact hrep 0 x u rfl rfl
      | x :: y :: xs, l1, hrep =>
        have h1 : ¬ vs.length = 1 := by rw [l1]; simp
        simp only [v, dif_neg h1, packA]
        exact .tup (by simp [l1]) (fun j x v hx hv => hrep j x v hx (by simpa using hv))
    have hlenL : outs.length = L.length := by have := subH_len hsub; rwa [liveO_len] at this
    have hout : ∀ (i : Nat) (o : Ob), outs[i]? = some o → (ins.length ≤ i ∨ i ∉ s.dead) → ∃ j, L[i]? = some j ∧ rho L σ'.h.length i = j ∧ σ'.H j = some (o.ren (rho L σ'.h.length)) := by
      intro i o ho hdi
      obtain ⟨j, h1, h2⟩ := subH_get hsub i o (liveO_get outs 0 i o ho (by rw [Nat.zero_add]; exact hdi))
      exact ⟨j, h1, by simp [rho, h1], h2⟩
    have hmu : ∀ i b, μ' (rho L σ'.h.length i) = some (some b) → i < outs.length := by
      intro i b hb
      rcases Nat.lt_or_ge i outs.length with h | h
      · exact h
      · have : L[i]? = none := List.getElem?_eq_none (by omega)
        simp only [rho, this] at hb
        rw [hr.mu _ (by omega)] at hb; cases hb
    have hSo : ∀ b, s.al = true → (Cx.Sta ⟨P, w, V, Bo, fn.ntmps, ins.length, μ⟩ σ'.H μ' w') b → outS s.al V w w' (fun i => μ' (rho L σ'.h.length i)) outs.length b := by
      intro b hal hb
      rcases hb with hv | ⟨h1, h2, h3, h4⟩
      · exact .inl ⟨hal, hv⟩
      · refine .inr ⟨h1, h2, fun i hi he => ?_⟩
        by_cases hdi : ins.length ≤ i ∨ i ∉ s.dead
        · obtain ⟨j, u1, u2, u3⟩ := hout i outs[i] (List.getElem?_eq_getElem hi) hdi
          simp only [u2] at he
          exact h4 j (by rw [u3]; simp) he
        · have hil : i < ins.length := by
            rcases Nat.lt_or_ge i ins.length with h' | h'
            · exact h'
            · exact absurd (.inl h') hdi
          have hfx := fixes_get hfix i hil
          simp only [Nat.zero_add] at hfx
          simp only [rho, hfx] at he
          have he : μ i = some (some b) := (hr.bor i hil).symm.trans he
          have hob := hin.ob i ins[i] (List.getElem?_eq_getElem hil)
          have hblt : b < w.heap.size := by
            generalize ins[i] = oo at hob
            cases hob with
            | box q1 q2 => rw [he] at q1; injection q1 with q1; injection q1 with q1; subst q1; exact heap_lt q2
            | rowsNil q1 => rw [he] at q1; cases q1
            | rows q1 q2 => rw [he] at q1; injection q1 with q1; injection q1 with q1; subst q1; exact heap_lt q2
          exact absurd hblt (Nat.not_lt.2 h1)
    have hle : ins.length ≤ outs.length := by
      rcases Nat.lt_or_ge outs.length ins.length with hl | hl
      · have := fixes_get hfix outs.length hl
        rw [hlenL] at this; simp at this
      · exact hl
    have ev1 := Ev.refl w' (fun _ => False)
    refine ⟨v, hres, v, fun i => μ' (rho L σ'.h.length i), rfl, hr.rr.fr, fun i x hx => ?_, ?_, fun i o ho hdi => ?_, fun i b hi hb => ?_, fun i j b hi hj hdi hdj hbi hbj => ?_, fun i hi => ?_, hle⟩
    · have hi : i < ins.length := by
        rcases Nat.lt_or_ge i ins.length with h | h
        · exact h
        · rw [hin.lt i h] at hx; cases hx
      have := fixes_get hfix i hi
      simp only [Nat.zero_add] at this
      simp only [rho, this]
      rw [hr.bor i hi]; exact hx
    · have h1 := hrv.unren (ρ := rho L σ'.h.length) res rfl
      by_cases hal : s.al = true
      · exact h1.evolve ev1 (fun _ h => h.elim) (fun b hb => hSo b hal hb) (fun _ _ h => h)
      · exact h1.flat (hflat (by simpa using hal)).1
    · obtain ⟨j, u1, u2, u3⟩ := hout i o ho hdi
      have h1 := hr.rr.ob j _ u3
      rw [← u2] at h1
      have h2 := ObRep.unren h1
      by_cases hal : s.al = true
      · exact h2.evolve ev1 (fun _ h => h.elim) (fun b hb => hSo b hal hb) (fun _ _ h => h) (fun _ _ h => h)
      · exact h2.flat (flatOs_mem (hflat (by simpa using hal)).2 o (List.mem_of_getElem? ho))
    · have hil := hmu i b hb
      obtain ⟨j, u1, u2, u3⟩ := hout i outs[i] (List.getElem?_eq_getElem hil) (.inl hi)
      simp only [u2] at hb
      have h1 := hr.rr.own j b (by rw [u3]; simp) hb
      refine ⟨?_, h1.2⟩
      rcases h1.1 with h2 | h2
      · exact .inl h2
      · obtain ⟨q, hq1, hq2⟩ := hin.bo' b h2
        by_cases hqd : q ∈ s.dead
        · exact .inr ⟨q, hq1, hqd, hq2⟩
        exfalso
        have hq3 : μ' q = some (some b) := by rw [hr.bor q hq1]; exact hq2
        have hq4 := fixes_get hfix q hq1
        simp only [Nat.zero_add] at hq4
        obtain ⟨j', v1, v2, v3⟩ := hout q outs[q] (List.getElem?_eq_getElem (by omega)) (.inr hqd)
        rw [hq4] at v1; injection v1 with v1; subst v1
        have hjq := hr.rr.inj j q b (by rw [u3]; simp) (by rw [v3]; simp) hb hq3
        rw [hjq] at u1
        have := distinct_inj hdist i q q u1 hq4
        omega
    · obtain ⟨p, u1, u2, u3⟩ := hout i outs[i] (List.getElem?_eq_getElem hi) hdi
      obtain ⟨q, v1, v2, v3⟩ := hout j outs[j] (List.getElem?_eq_getElem hj) hdj
      simp only [u2] at hbi
      simp only [v2] at hbj
      obtain rfl := hr.rr.inj p q b (by rw [u3]; simp) (by rw [v3]; simp) hbi hbj
      exact distinct_inj hdist i j p u1 v1
    · have : L[i]? = none := List.getElem?_eq_none (by omega)
      simp only [rho, this]
      exact hr.mu _ (by omega)
  cases e with
  | normal => exact fin hq
  | ret => exact fin hq
  | _ => exact hq.elim
end Go.Proofs.Ytokocigmchfdfaa
