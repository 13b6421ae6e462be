/- A flat memory shut: its cells in order; by the kit's walk, the rounds by the engine. -/
import Derived.Test.YtdfolpfibhfmlaaFlV
namespace Go.Proofs.Ytdfolpfibhfmlaa
open Go.RowKit Go.Shelf
attribute [local go_sem] Oper.semAt_some
set_option maxRecDepth 100000
set_option linter.unusedSimpArgs false
set_option linter.unusedVariables false

abbrev lv44FlX : List (Nat × List Nat) := [(0, [1, 2, 12]), (1, [1, 2, 3, 12]), (2, [1, 2, 3, 11, 12]), (3, [1, 2, 3, 4, 12]), (4, [1, 2, 3, 12]), (5, [2])]
abbrev shO (al : List Bool) (mp : List Nat) (l : List Me) (ck : Nat) (k : K3) (cs : List Cl) : List (Option Ob) :=
  [none, none, some (mpO l ck), some (.box 66 [.row 0 1 0 al.length, .row 1 1 0 mp.length, .mp 2]),
    some (.box 26 [.row 0 1 0 al.length, .row 1 1 0 mp.length, .row 6 4 0 cs.length]), some (.box 69 [iv k.1, iv k.2.1, iv k.2.2]), some (.rows 54 4 (cs.map encCl))]
abbrev shT : List (Nat × AV) := [(1, .ptr 3 0), (3, .ptr 4 0), (4, .ptr 5 0)]
def encCV (c : Cl) : List Value := [.int .i64 c.1, .int .i64 c.2.1, .int .i64 c.2.2.1, .int .u64 (c.2.2.2 : Int)]
def celK (l : List Me) (k : K3) : Cl := (k.1, k.2.1, k.2.2, mval l k)
/-- between two rounds -/
def ShI (w : World) (va vm : Value) (b B1 B2 B3 : Nat) (cs : List Cl) (K : Nat → Prop) (W : World) : Prop :=
  ∃ v, Blk W B3 26 #[va, vm, v] ∧ Own encCV 4 (w.heap.size + 4) 54 W v cs ∧ Blk W B1 66 #[va, vm, .map (some b)] ∧ Blk W B2 26 #[.slice none 0 0, .slice none 0 0, .slice none 0 0] ∧ ¬ K B3 ∧ ¬ K B1 ∧ ¬ K B2 ∧ (∀ k, v.ownBlock = some k → ¬ K k) ∧ Below w.heap.size w W ∧ (∀ k, K k → w.heap.size ≤ k ∧ k < W.heap.size) ∧ w.heap.size + 4 ≤ W.heap.size
theorem ShI.calm {α : Type} {w : World} {va vm : Value} {b B1 B2 B3 : Nat} {f : List α → List Cl} : Calm (fun (pre : List α) K W => ShI w va vm b B1 B2 B3 (f pre) K W) := by
  rintro pre K K' A B ⟨v, h3, ho, h1, h2, k3, k1, k2, kv, hB, hK, hsz⟩ hon hKK
  have nk : ∀ {k}, k < A.heap.size → ¬ K k → ¬ K' k := fun hk hn h => by
    rcases hKK _ h with h | h
    · exact hn h
    · omega
  refine ⟨v, (hon.block B3 h3.lt k3).trans h3, own_keep ho (fun k e => hon.block k (ho.lt k e).2 (kv k e)), (hon.block B1 h1.lt k1).trans h1, (hon.block B2 h2.lt k2).trans h2, nk h3.lt k3, nk h1.lt k1, nk h2.lt k2, fun k e => nk (ho.lt k e).2 (kv k e), ?_, ?_, Nat.le_trans hsz hon.size⟩
  · exact ⟨hon.os.trans hB.os, hon.tape.trans hB.tape, hon.output.trans hB.output, Nat.le_trans hB.size hon.size, fun k hkl => (hon.block k (Nat.lt_of_lt_of_le hkl hB.size) (fun h => by have := (hK k h).1; omega)).trans (hB.block k hkl)⟩
  · intro k h
    rcases hKK _ h with h | h
    · have := hK k h; have := hon.size; omega
    · have := hB.size; omega
theorem ShI.calmO {α : Type} {w : World} {va vm : Value} {b B1 B2 B3 n₁ : Nat} {f : List α → List Cl} (hn : w.heap.size ≤ n₁) : CalmO n₁ (fun (pre : List α) K W => ShI w va vm b B1 B2 B3 (f pre) K W) := by
  rintro pre K A l o o' ⟨v, h3, ho, h1, h2, k3, k1, k2, kv, hB, hK, hsz⟩ hl hlo hc
  refine ⟨v, h3.putObj hlo hc, own_keep ho (fun k e => ?_), h1.putObj hlo hc, h2.putObj hlo hc, k3, k1, k2, kv, hB.grown (grownBy_putObj' A l o') hB.size (fun k e => by cases e; omega), fun k h => by simpa using hK k h, by simpa using hsz⟩
  refine World.putObj_heap_other ?_
  rintro rfl
  rcases ho.2 with ⟨rfl, _⟩ | ⟨g, cap, cur, rfl, _, hh, _⟩
  · simp [Value.ownBlock] at e
  · simp [Value.ownBlock] at e
    subst e
    rw [hlo] at hh
    injection hh with hh
    subst hh
    simp [Obj.isCells] at hc
def shutS : Spec := { al := true, rel := fun args ins res outs => ∃ (al : List Bool) (mp : List Nat) (l : List Me) (ck : Nat) (cs : List Cl), l.length ≤ 1000000 ∧ Mok l ck ∧ cs.Perm (l.map (·.1)) ∧ Srt cs ∧
  args = [mmA 0 1 2 al mp] ∧ ins = mmO al mp l ck ∧ res = .agg [.row 0 1 0 al.length, .row 1 1 0 mp.length, .row 3 4 0 cs.length] ∧ outs = mmO al mp l ck ++ [.rows 54 4 (cs.map encCl)] }
theorem shut_at (al : List Bool) (mp : List Nat) (l : List Me) (ck : Nat) (cs : List Cl) (h1 : l.length ≤ 1000000) (h2 : Mok l ck) (h3 : cs.Perm (l.map (·.1))) (h4 : Srt cs) :
  shutS.rel [mmA 0 1 2 al mp] (mmO al mp l ck) (.agg [.row 0 1 0 al.length, .row 1 1 0 mp.length, .row 3 4 0 cs.length]) (mmO al mp l ck ++ [.rows 54 4 (cs.map encCl)]) := ⟨al, mp, l, ck, cs, h1, h2, h3, h4, rfl, rfl, rfl, rfl⟩
theorem mval_at {l : List Me} {ck : Nat} (hM : Mok l ck) {x : Me} (hx : x ∈ l) : mval l (ck3 x.1) = x.1.2.2.2 := by
  unfold mval
  cases hf : fIdx (ck3 x.1) l with
  | none =>
    exfalso
    unfold fIdx at hf
    rw [List.findIdx?_eq_none_iff] at hf
    have := hf x hx
    simp at this
  | some i =>
    obtain ⟨hl, hk⟩ := fIdx_lt hf
    have := nodup_inj hM.kn (List.getElem_mem hl) hx hk
    simp [List.getElem?_eq_getElem hl, this]
theorem celK_all {l : List Me} {ck : Nat} (hM : Mok l ck) {cs : List Cl} (h : cs.Perm (l.map (·.1))) : (cs.map ck3).map (celK l) = cs := by
  rw [List.map_map]
  refine (List.map_congr_left (g := id) fun c hc => ?_).trans (List.map_id _)
  obtain ⟨x, hx, rfl⟩ := List.mem_map.1 (h.mem_iff.1 hc)
  have := mval_at hM hx
  simp only [Function.comp, celK, ck3, id] at this ⊢
  rw [this]
theorem srt_keys {cs : List Cl} (h : Srt cs) : (cs.map ck3).Pairwise BefK := by
  rw [List.pairwise_map]
  exact h.imp fun {a b} hb => hb
theorem kys_perm {l : List Me} {cs : List Cl} (h : cs.Perm (l.map (·.1))) : (cs.map ck3).Perm (kys l) := by
  have := h.map ck3
  rwa [List.map_map] at this
theorem row_form {w : World} {S : Nat → Prop} {μ : Mu} {i sz o len : Nat} {v : Value} (h : Rep w S μ (.row i sz o len) v) : ∃ A c, v = .slice A len c := by
  cases h <;> exact ⟨_, _, rfl⟩
theorem row_pin {w w' : World} {S S' : Nat → Prop} {μ μ' : Mu} {i sz o len : Nat} {v v' : Value} (h : Rep w S μ (.row i sz o len) v) (h' : Rep w' S' μ' (.row i sz o len) v') (hμ : μ' i = μ i) (hsz : 0 < sz)
    (hs : ∀ b arr t, μ i = some (some b) → w.heap[b]? = some (.cells arr t (0, 0)) → ∃ arr' t', w'.heap[b]? = some (.cells arr' t' (0, 0)) ∧ arr'.size = arr.size) : v' = v := by
  cases h with
  | rowNil h1 =>
    cases h' with
    | rowNil => rfl
    | row g1 => rw [hμ, h1] at g1; cases g1
  | row h1 h2 h3 h4 h5 =>
    cases h' with
    | rowNil g1 => rw [hμ, h1] at g1; cases g1
    | row g1 g2 g3 g4 g5 =>
      rw [hμ, h1] at g1
      injection g1 with g1
      injection g1 with g1
      subst g1
      obtain ⟨arr', t', e1, e2⟩ := hs _ _ _ h1 h2
      rw [e1] at g2
      injection g2 with g2
      injection g2 with g2
      subst g2
      rw [e2, h5] at g5
      have := Nat.eq_of_mul_eq_mul_right hsz g5
      congr 1
      omega
/-- where the objects lie in a round -/
def shM (μ : Mu) (b s q : Nat) (nb : Option Nat) : Mu := fun i => if i = 0 then μ 0 else if i = 1 then μ 1 else if i = 2 then some (some b) else if i = 3 then some (some s) else if i = 4 then some (some (s + 1 + 1)) else if i = 5 then some (some q) else if i = 6 then some nb else none
theorem encCl_sc : ∀ c : Cl, ∀ d ∈ encCl c, scalD d = true := by
  intro c d hd
  simp only [encCl, List.mem_cons, List.not_mem_nil, or_false] at hd
  rcases hd with rfl | rfl | rfl | rfl <;> rfl
theorem shut_out {w W : World} {V Bo : Nat → Prop} {μ : Mu} {al : List Bool} {mp : List Nat} {l : List Me} {ck : Nat} {cs : List Cl} {va vm v : Value} {vals : Array Value} {args : List AV} (hin : In V Bo μ w args (mmO al mp l ck) vals) (ra : Rep w V μ (.row 0 1 0 al.length) va) (rm : Rep w V μ (.row 1 1 0 mp.length) vm) (oa : va.oneCell' = true) (om : vm.oneCell' = true)
    (ho : Own encCV 4 w.heap.size 54 W v cs) (hB : Below w.heap.size w W) : ∃ μ', Out Try.prog true [] V Bo μ w 3 (.agg [.row 0 1 0 al.length, .row 1 1 0 mp.length, .row 3 4 0 cs.length]) (mmO al mp l ck ++ [.rows 54 4 (cs.map encCl)]) (.agg #[va, vm, v]) W μ' := by
  obtain ⟨nb, hnb, hrep⟩ := own_obj (encD := encCl) (by decide) (fun _ => rfl) (fun _ => rfl) encCl_sc ho
  have hbo : ∀ b, Bo b → b < w.heap.size := fun b hb => by
    obtain ⟨i, hi, hb'⟩ := hin.bo' b hb
    have := hin.ob i (mmO al mp l ck)[i] (List.getElem?_eq_getElem hi)
    generalize (mmO al mp l ck)[i] = o at this
    cases this with
    | box h1 h2 => rw [hb'] at h1; injection h1 with h1; injection h1 with h1; subst h1; exact heap_lt h2
    | rowsNil h1 => rw [hb'] at h1; cases h1
    | rows h1 h2 => rw [hb'] at h1; injection h1 with h1; injection h1 with h1; subst h1; exact heap_lt h2
    | map h1 h2 => rw [hb'] at h1; injection h1 with h1; injection h1 with h1; subst h1; exact heap_lt h2
    | iter h1 h3 h2 => rw [hb'] at h1; injection h1 with h1; injection h1 with h1; subst h1; exact heap_lt h2
    | siter h1 h2 => rw [hb'] at h1; injection h1 with h1; injection h1 with h1; subst h1; exact heap_lt h2
  have hev := ev_below hB hbo
  have hev0 : Ev w W (fun _ => False) := ev_below hB (fun _ h => h.elim)
  have hμ3 : μ 3 = none := hin.lt 3 (by simp)
  have hμ : ∀ i x, μ i = some x → (if i = 3 then some nb else μ i) = some x := fun i x hx => by
    by_cases h : i = 3
    · rw [h, hμ3] at hx; cases hx
    · rw [if_neg h]; exact hx
  have oc : v.oneCell' = true := by
    rcases ho.2 with ⟨rfl, _⟩ | ⟨g, cap, cur, rfl, _⟩ <;> rfl
  refine ⟨fun i => if i = 3 then some nb else μ i, hev, hμ, ?_, fun i o hi _ => ?_, fun i b hi h => ?_, fun i j b hi hj _ _ h1 h2 => ?_, fun i hi => ?_, by simp⟩
  · refine .agg rfl (fun j x u hx hu => ?_) (fun u hu => ?_)
    · match j, hx, hu with
      | 0, hx, hu => simp at hx hu; subst hx hu; exact ra.evolve hev0 (fun _ h => h.elim) (fun b hb => .inl ⟨rfl, hb⟩) hμ
      | 1, hx, hu => simp at hx hu; subst hx hu; exact rm.evolve hev0 (fun _ h => h.elim) (fun b hb => .inl ⟨rfl, hb⟩) hμ
      | 2, hx, hu => simp at hx hu; subst hx hu; exact (hrep _ _ 3 (by simp)).1
    · simp at hu; rcases hu with rfl | rfl | rfl
      · exact oa
      · exact om
      · exact oc
  · by_cases h3 : i < 3
    · have hi' : (mmO al mp l ck)[i]? = some o := by rw [← hi, List.getElem?_append_left (by simpa using h3)]
      exact (hin.ob i o hi').evolve hev0 (fun _ h => h.elim) (fun b hb => .inl ⟨rfl, hb⟩) hμ (fun _ _ h => h)
    · have h4 := (List.getElem?_eq_some_iff.1 hi).1
      simp at h4
      obtain rfl : i = 3 := by omega
      simp at hi; subst hi
      exact (hrep _ _ 3 (by simp)).2
  · by_cases h3 : i = 3
    · rw [if_pos h3] at h
      injection h with h
      exact ⟨.inl (hnb b h).1, (hnb b h).2⟩
    · rw [if_neg h3, hin.lt i (by simpa using hi)] at h; cases h
  · simp only [List.length_append, List.length_cons, List.length_nil] at hi hj
    by_cases i3 : i = 3
    · by_cases j3 : j = 3
      · rw [i3, j3]
      · rw [if_pos i3] at h1
        rw [if_neg j3] at h2
        injection h1 with h1
        have := (hnb b h1).1
        have := hbo b (hin.bo j b (by simp; omega) h2)
        omega
    · by_cases j3 : j = 3
      · rw [if_neg i3] at h1
        rw [if_pos j3] at h2
        injection h2 with h2
        have := (hnb b h2).1
        have := hbo b (hin.bo i b (by simp; omega) h1)
        omega
      · rw [if_neg i3] at h1
        rw [if_neg j3] at h2
        exact hin.inj i j b (by simp; omega) (by simp; omega) h1 h2
  · simp only [List.length_append, List.length_cons, List.length_nil] at hi
    rw [if_neg (by omega)]
    exact hin.lt i (by simp; omega)
/-- the objects behind a round -/
abbrev shP (al : List Bool) (mp : List Nat) (l : List Me) (ck : Nat) (k : K3) (cs : List Cl) : List (Option Ob) :=
  [none, none, some (mpO l ck), some (.box 66 [.row 0 1 0 al.length, .row 1 1 0 mp.length, .mp 2]),
    some (.box 26 [.row 0 1 0 al.length, .row 1 1 0 mp.length, .row 8 4 0 (cs.length + 1)]), some (.box 69 [iv k.1, iv k.2.1, iv k.2.2]), none, some (.rows 54 4 [encCl (celK l k)]), some (.rows 54 4 (cs.map encCl ++ [encCl (celK l k)]))]
abbrev shB (M : Mu) : Nat → Prop := fun b => ∃ i, 2 ≤ i ∧ i < 7 ∧ M i = some (some b)
noncomputable abbrev shX (W : World) (V : Nat → Prop) (M : Mu) : Cx := ⟨Try.prog, W, V, shB M, 28, 7, M⟩
theorem own_nb {α : Type} {encV : α → List Value} {sz base : Nat} {e : TypeId} {w : World} {v : Value} {l : List α} {nb : Option Nat} (h : Own encV sz base e w v l) (hr : ∀ (S : Nat → Prop) (μ : Mu) (i : Nat), μ i = some nb → Rep w S μ (.row i sz 0 l.length) v) : v.ownBlock = nb := by
  have := hr (fun _ => False) (fun _ => some nb) 0 rfl
  generalize l.length = n at this
  cases this with
  | rowNil h1 => injection h1 with h1; rw [h1]; rfl
  | row h1 => injection h1 with h1; rw [h1]; rfl
theorem agg3 {arr : Array Value} (h : arr.size = 3) : ∃ x y z, arr = #[x, y, z] := by
  match arr, h with
  | ⟨[x, y, z]⟩, _ => exact ⟨x, y, z, rfl⟩

section
variable {w W : World} {V Bo : Nat → Prop} {μ : Mu} {al : List Bool} {mp : List Nat} {l : List Me} {ck : Nat} {cs : List Cl} {va vm v : Value} {vals : Array Value} {args : List AV} {b q : Nat} {k : K3} {nb : Option Nat}
theorem shM_lt (M : Mu) (h : M = shM μ b w.heap.size q nb) {i j b' : Nat} (hb : b < w.heap.size) (hq : w.heap.size + 4 ≤ q) (hnb : ∀ b, nb = some b → w.heap.size + 4 ≤ b) (hne : nb ≠ some q) (hi : 2 ≤ i) (hj : 2 ≤ j) (h1 : M i = some (some b')) (h2 : M j = some (some b')) : i = j := by
  subst h
  have key : ∀ i, 2 ≤ i → shM μ b w.heap.size q nb i = some (some b') → (i = 2 ∧ b' = b) ∨ (i = 3 ∧ b' = w.heap.size) ∨ (i = 4 ∧ b' = w.heap.size + 1 + 1) ∨ (i = 5 ∧ b' = q) ∨ (i = 6 ∧ nb = some b') := by
    intro i hi h
    unfold shM at h
    by_cases e2 : i = 2
    · subst e2; simp at h; exact .inl ⟨rfl, h.symm⟩
    · by_cases e3 : i = 3
      · subst e3; simp at h; exact .inr (.inl ⟨rfl, h.symm⟩)
      · by_cases e4 : i = 4
        · subst e4; simp at h; exact .inr (.inr (.inl ⟨rfl, h.symm⟩))
        · by_cases e5 : i = 5
          · subst e5; simp at h; exact .inr (.inr (.inr (.inl ⟨rfl, h.symm⟩)))
          · by_cases e6 : i = 6
            · subst e6; simp at h; exact .inr (.inr (.inr (.inr ⟨rfl, h⟩)))
            · rw [if_neg (by omega), if_neg (by omega), if_neg e2, if_neg e3, if_neg e4, if_neg e5, if_neg e6] at h
              cases h
  have k1 := key i hi h1
  have k2 := key j hj h2
  rcases k1 with ⟨a1, a2⟩ | ⟨a1, a2⟩ | ⟨a1, a2⟩ | ⟨a1, a2⟩ | ⟨a1, a2⟩ <;> rcases k2 with ⟨c1, c2⟩ | ⟨c1, c2⟩ | ⟨c1, c2⟩ | ⟨c1, c2⟩ | ⟨c1, c2⟩ <;> first | omega | (exfalso; have := hnb _ a2; omega) | (exfalso; have := hnb _ c2; omega) | (exfalso; exact hne (by rw [a2, c2])) | (exfalso; exact hne (by rw [c2, a2]))
theorem shut_rr (hin : In V Bo μ w args (mmO al mp l ck) vals) (ra : Rep w V μ (.row 0 1 0 al.length) va) (rm : Rep w V μ (.row 1 1 0 mp.length) vm) (oa : va.oneCell' = true) (om : vm.oneCell' = true) (hb2 : μ 2 = some (some b)) (hbl : b < w.heap.size) (hmap : w.heap[b]? = some (.map (l.map ent).toArray ck))
    (g3 : Blk W (w.heap.size + 1 + 1) 26 #[va, vm, v]) (ho : Own encCV 4 (w.heap.size + 4) 54 W v cs) (g1 : Blk W w.heap.size 66 #[va, vm, .map (some b)]) (hB : Below w.heap.size w W) (hq : w.heap.size + 4 ≤ q) (hqb : Blk W q 69 (encK k).toArray)
    (hnb : ∀ b, nb = some b → w.heap.size + 4 ≤ b ∧ b < W.heap.size) (hrep : ∀ (S : Nat → Prop) (μ : Mu) (i : Nat), μ i = some nb → Rep W S μ (.row i 4 0 cs.length) v ∧ ObRep W S μ i (.rows 54 4 (cs.map encCl)))
    (a : Act) (hn : a.tmps.size = 28) (hd : a.defers = []) (t1 : a.tmps[1]? = some (.pointer (some ⟨w.heap.size, 0, none⟩))) (t3 : a.tmps[3]? = some (.pointer (some ⟨w.heap.size + 1 + 1, 0, none⟩))) (t4 : a.tmps[4]? = some (.pointer (some ⟨q, 0, none⟩))) :
    RRs (shX W V (shM μ b w.heap.size q nb)) ⟨shT, shO al mp l ck k cs⟩ (shM μ b w.heap.size q nb) a W := by
  have hne : nb ≠ some q := by
    have := own_blk_ne ho hqb (by decide)
    rwa [own_nb ho (fun S μ i h => (hrep S μ i h).1)] at this
  obtain ⟨M, hMd⟩ : ∃ M, shM μ b w.heap.size q nb = M := ⟨_, rfl⟩
  have hinj : ∀ {i j b' : Nat}, 2 ≤ i → 2 ≤ j → M i = some (some b') → M j = some (some b') → i = j := fun hi hj h1 h2 => shM_lt M hMd.symm hbl hq (fun b h => (hnb b h).1) hne hi hj h1 h2
  have m0 : M 0 = μ 0 := by rw [← hMd]; rfl
  have m1 : M 1 = μ 1 := by rw [← hMd]; rfl
  have m2 : M 2 = some (some b) := by rw [← hMd]; rfl
  have m3 : M 3 = some (some w.heap.size) := by rw [← hMd]; rfl
  have m4 : M 4 = some (some (w.heap.size + 1 + 1)) := by rw [← hMd]; rfl
  have m5 : M 5 = some (some q) := by rw [← hMd]; rfl
  have m6 : M 6 = some nb := by rw [← hMd]; rfl
  have m7 : ∀ i, 7 ≤ i → M i = none := fun i hi => by
    rw [← hMd]; unfold shM
    rw [if_neg (by omega), if_neg (by omega), if_neg (by omega), if_neg (by omega), if_neg (by omega), if_neg (by omega), if_neg (by omega)]
  rw [hMd]
  have hev0 : Ev w W (fun _ => False) := ev_below hB (fun _ h => h.elim)
  have rowE : ∀ {S : Nat → Prop} {i len : Nat} {u : Value}, M i = μ i → Rep w V μ (.row i 1 0 len) u → Rep W S M (.row i 1 0 len) u := by
    intro S i len u hm h
    cases h with
    | rowNil h1 => exact .rowNil (hm.trans h1)
    | row h1 h2 h3 h4 h5 => exact .row (hm.trans h1) ((hB.block _ (heap_lt h2)).trans h2) h3 h4 h5
  have hlow : ∀ i b', i < 2 → M i = some (some b') → b' < w.heap.size ∧ Bo b' := fun i b' hi h => by
    have h' : μ i = some (some b') := by
      have : i = 0 ∨ i = 1 := by omega
      rcases this with rfl | rfl
      · rw [← m0]; exact h
      · rw [← m1]; exact h
    refine ⟨?_, hin.bo i b' (by simp; omega) h'⟩
    have := hin.ob i _ (List.getElem?_eq_getElem (show i < (mmO al mp l ck).length by simp; omega))
    generalize (mmO al mp l ck)[i]'_ = o at this
    cases this with
    | box g1 g2 => rw [h'] at g1; injection g1 with g1; injection g1 with g1; subst g1; exact heap_lt g2
    | rowsNil g1 => rw [h'] at g1; cases g1
    | rows g1 g2 => rw [h'] at g1; injection g1 with g1; injection g1 with g1; subst g1; exact heap_lt g2
    | map g1 g2 => rw [h'] at g1; injection g1 with g1; injection g1 with g1; subst g1; exact heap_lt g2
    | iter g1 g3 g2 => rw [h'] at g1; injection g1 with g1; injection g1 with g1; subst g1; exact heap_lt g2
    | siter g1 g2 => rw [h'] at g1; injection g1 with g1; injection g1 with g1; subst g1; exact heap_lt g2
  have hblk : ∀ i b', 2 ≤ i → M i = some (some b') → i < 7 ∧ b' < W.heap.size ∧ (b' = b ∨ w.heap.size ≤ b') := by
    intro i b' hi h
    have hi7 : i < 7 := by
      rcases Nat.lt_or_ge i 7 with h7 | h7
      · exact h7
      · rw [m7 i h7] at h; cases h
    have : i = 2 ∨ i = 3 ∨ i = 4 ∨ i = 5 ∨ i = 6 := by omega
    refine ⟨hi7, ?_⟩
    rcases this with rfl | rfl | rfl | rfl | rfl
    · rw [m2] at h; injection h with h; injection h with h; subst h; exact ⟨Nat.lt_of_lt_of_le hbl hB.size, .inl rfl⟩
    · rw [m3] at h; injection h with h; injection h with h; subst h; exact ⟨g1.lt, .inr (Nat.le_refl _)⟩
    · rw [m4] at h; injection h with h; injection h with h; subst h; exact ⟨g3.lt, .inr (by omega)⟩
    · rw [m5] at h; injection h with h; injection h with h; subst h; exact ⟨hqb.lt, .inr (by omega)⟩
    · rw [m6] at h; injection h with h; have := hnb _ h; exact ⟨this.2, .inr (by omega)⟩
  have hH : ∀ i, St.H ⟨shT, shO al mp l ck k cs⟩ i ≠ none → 2 ≤ i ∧ i < 7 := by
    intro i hi
    unfold St.H at hi
    match i, hi with
    | 0, hi => simp at hi
    | 1, hi => simp at hi
    | i + 2, hi =>
      refine ⟨by omega, ?_⟩
      rcases Nat.lt_or_ge (i + 2) 7 with h7 | h7
      · exact h7
      · rw [List.getElem?_eq_none (by simp; omega)] at hi; simp at hi
  have oc : v.oneCell' = true := by
    rcases ho.2 with ⟨rfl, _⟩ | ⟨g, cap, cur, rfl, _⟩ <;> rfl
  refine ⟨⟨hn, hd, fun s x hx => ?_, fun i o ho' => ?_, fun i b' hi hb' => ?_, fun i j b' hi hj h1 h2 => hinj (hH i hi).1 (hH j hj).1 h1 h2, Ev.refl W _, fun b' hv => ?_, fun b' hb' => ?_⟩, fun i hi => m7 i (by simpa using hi), fun _ _ => rfl, by simp⟩
  · unfold St.T at hx
    simp only [look] at hx
    split at hx
    · rename_i e; subst e; injection hx with hx; subst hx; exact ⟨_, t1, .ptr m3⟩
    · split at hx
      · rename_i e; subst e; injection hx with hx; subst hx; exact ⟨_, t3, .ptr m4⟩
      · split at hx
        · rename_i e; subst e; injection hx with hx; subst hx; exact ⟨_, t4, .ptr m5⟩
        · cases hx
  · have hi := hH i (by rw [ho']; simp)
    have : i = 2 ∨ i = 3 ∨ i = 4 ∨ i = 5 ∨ i = 6 := by omega
    rcases this with rfl | rfl | rfl | rfl | rfl
    · simp [St.H] at ho'; subst ho'; exact .map m2 ((hB.block b hbl).trans hmap)
    · simp [St.H] at ho'; subst ho'
      refine .box m3 g1 rfl (fun j x u hx hu => ?_) (fun u hu => by simp at hu; rcases hu with rfl | rfl | rfl <;> first | exact oa | exact om | rfl)
      match j, hx, hu with
      | 0, hx, hu => simp at hx hu; subst hx hu; exact rowE m0 ra
      | 1, hx, hu => simp at hx hu; subst hx hu; exact rowE m1 rm
      | 2, hx, hu => simp at hx hu; subst hx hu; exact .mp m2
    · simp [St.H] at ho'; subst ho'
      refine .box m4 g3 rfl (fun j x u hx hu => ?_) (fun u hu => by simp at hu; rcases hu with rfl | rfl | rfl <;> first | exact oa | exact om | exact oc)
      match j, hx, hu with
      | 0, hx, hu => simp at hx hu; subst hx hu; exact rowE m0 ra
      | 1, hx, hu => simp at hx hu; subst hx hu; exact rowE m1 rm
      | 2, hx, hu => simp at hx hu; subst hx hu; exact (hrep _ _ 6 m6).1
    · simp [St.H] at ho'; subst ho'
      refine .box m5 hqb rfl (fun j x u hx hu => ?_) (fun u hu => by simp [encK] at hu; rcases hu with rfl | rfl | rfl <;> rfl)
      match j, hx, hu with
      | 0, hx, hu => simp [encK] at hx hu; subst hx hu; exact .d .int
      | 1, hx, hu => simp [encK] at hx hu; subst hx hu; exact .d .int
      | 2, hx, hu => simp [encK] at hx hu; subst hx hu; exact .d .int
    · simp [St.H] at ho'; subst ho'; exact (hrep _ _ 6 m6).2
  · have h2 := hH i hi
    exact ⟨.inr ⟨i, h2.1, h2.2, hb'⟩, (hblk i b' h2.1 hb').2.1⟩
  · obtain ⟨h1, h2⟩ := hin.vlt b' hv
    refine ⟨Nat.lt_of_lt_of_le h1 hB.size, ?_⟩
    rintro ⟨i, hi, hi7, hm⟩
    rcases (hblk i b' hi hm).2.2 with e | e
    · exact h2 (e ▸ hin.bo 2 b (by simp) hb2)
    · omega
  · obtain ⟨i, hi, hi7, hm⟩ := hb'
    exact (hblk i b' hi hm).2.1
theorem rows_own {W : World} {S : Nat → Prop} {M : Mu} {i base : Nat} {e : TypeId} {v : Value} {cs : List Cl} (h : Rep W S M (.row i 4 0 cs.length) v) (ho : ObRep W S M i (.rows e 4 (cs.map encCl))) (hb : ∀ b, M i = some (some b) → base ≤ b) : Own encCV 4 base e W v cs := by
  have hfl : cs.length = (cs.flatMap encCV).length / 4 := by rw [flat_len (sz := 4) (fun _ => rfl)]; omega
  refine ⟨by rw [flat_len (sz := 4) (fun _ => rfl)], ?_⟩
  generalize hlen : cs.length = len at *
  cases h with
  | rowNil h1 => exact .inl ⟨rfl, rfl⟩
  | row h1 h2 h3 h4 h5 =>
    rename_i g c arr t
    generalize hrs : cs.map encCl = rs at ho
    cases ho with
    | rowsNil g1 => rw [h1] at g1; cases g1
    | rows g1 g2 g3 g4 g5 g6 =>
      rename_i g' arr'
      rw [h1] at g1; injection g1 with g1; injection g1 with g1; subst g1
      rw [g2] at h2; injection h2 with h2; injection h2 with e1 e2 e3; subst e1 e2
      refine .inr ⟨g, c, arr', by simp, hb _ h1, g2, h3, h4, by rw [h5, Nat.zero_add], ?_⟩
      refine List.ext_getElem? fun p => ?_
      by_cases hp : p < len * 4
      · have hk : p / 4 < cs.length := by omega
        have hpa : p < arr'.size := by rw [h5, Nat.zero_add]; omega
        rw [List.getElem?_take_of_lt hp, Array.getElem?_toList, Array.getElem?_eq_getElem hpa]
        have hj : p % 4 < (encCV cs[p / 4]).length := by rw [show (encCV cs[p / 4]).length = 4 from rfl]; omega
        have hjd : p % 4 < (encCl cs[p / 4]).length := by rw [show (encCl cs[p / 4]).length = 4 from rfl]; omega
        have e1 := flat_get (enc := encCV) (sz := 4) (fun _ => rfl) cs (p / 4) cs[p / 4] (List.getElem?_eq_getElem hk) (p % 4) _ (List.getElem?_eq_getElem hj)
        rw [show p / 4 * 4 + p % 4 = p by omega] at e1
        rw [e1]
        have e2 := g6 (p / 4) (p % 4) (encCl cs[p / 4]) (encCl cs[p / 4])[p % 4] arr'[p] (by rw [← hrs, List.getElem?_map, List.getElem?_eq_getElem hk]; rfl) (List.getElem?_eq_getElem hjd) (by rw [show p / 4 * 4 + p % 4 = p by omega, Array.getElem?_eq_getElem hpa])
        rw [valD_rep (encCl_sc _ _ (List.getElem_mem hjd)) e2]
        congr 1
        have : encCV cs[p / 4] = (encCl cs[p / 4]).map valD := rfl
        simp only [this, List.getElem_map]
      · rw [List.getElem?_eq_none (by simp; omega), List.getElem?_eq_none (by rw [flat_len (sz := 4) (fun _ => rfl)]; omega)]
theorem shut_post {K : Nat → Prop} {σ' : St} {μ' : Mu} {a' : Act} {W' : World} (hin : In V Bo μ w args (mmO al mp l ck) vals) (ra : Rep w V μ (.row 0 1 0 al.length) va) (rm : Rep w V μ (.row 1 1 0 mp.length) vm) (hb2 : μ 2 = some (some b)) (hbl : b < w.heap.size) (hmap : w.heap[b]? = some (.map (l.map ent).toArray ck))
    (g3 : Blk W (w.heap.size + 1 + 1) 26 #[va, vm, v]) (ho : Own encCV 4 (w.heap.size + 4) 54 W v cs) (g1 : Blk W w.heap.size 66 #[va, vm, .map (some b)]) (g2 : Blk W (w.heap.size + 1) 26 #[.slice none 0 0, .slice none 0 0, .slice none 0 0])
    (n3 : ¬ K (w.heap.size + 1 + 1)) (n1 : ¬ K w.heap.size) (n2 : ¬ K (w.heap.size + 1)) (nv : ∀ k, v.ownBlock = some k → ¬ K k) (hB : Below w.heap.size w W) (hK : ∀ k, K k → w.heap.size ≤ k ∧ k < W.heap.size) (hsz : w.heap.size + 4 ≤ W.heap.size)
    (hq : w.heap.size + 4 ≤ q) (hqK : ¬ K q) (hqb : Blk W q 69 (encK k).toArray) (hnb : ∀ b, nb = some b → w.heap.size + 4 ≤ b ∧ b < W.heap.size) (hrep : ∀ (S : Nat → Prop) (μ : Mu) (i : Nat), μ i = some nb → Rep W S μ (.row i 4 0 cs.length) v ∧ ObRep W S μ i (.rows 54 4 (cs.map encCl)))
    (hσ : σ'.h = shP al mp l ck k cs) (hr : RRs (shX W V (shM μ b w.heap.size q nb)) σ' μ' a' W') :
    KeepsOthers W W' ∧ KeptR (fun k => k < w.heap.size ∨ k = w.heap.size + 1 + 1 + 1) K W W' ∧ ShI w va vm b w.heap.size (w.heap.size + 1) (w.heap.size + 1 + 1) (cs ++ [celK l k]) K W' := by
  have hvb := own_nb ho (fun S μ i h => (hrep S μ i h).1)
  have hne : nb ≠ some q := by
    have := own_blk_ne ho hqb (by decide)
    rwa [hvb] at this
  have hev : Ev W W' (shB (shM μ b w.heap.size q nb)) := hr.rr.fr
  have hbor : ∀ i, i < 7 → μ' i = shM μ b w.heap.size q nb i := hr.bor
  obtain ⟨M, hMd⟩ : ∃ M, shM μ b w.heap.size q nb = M := ⟨_, rfl⟩
  have m0 : M 0 = μ 0 := by rw [← hMd]; rfl
  have m1 : M 1 = μ 1 := by rw [← hMd]; rfl
  have m2 : M 2 = some (some b) := by rw [← hMd]; rfl
  have m3 : M 3 = some (some w.heap.size) := by rw [← hMd]; rfl
  have m4 : M 4 = some (some (w.heap.size + 1 + 1)) := by rw [← hMd]; rfl
  have m5 : M 5 = some (some q) := by rw [← hMd]; rfl
  have m6 : M 6 = some nb := by rw [← hMd]; rfl
  rw [hMd] at hev hbor
  have hH : ∀ i o, (shP al mp l ck k cs)[i]? = some (some o) → ObRep W' (Cx.Sta (shX W V (shM μ b w.heap.size q nb)) σ'.H μ' W') μ' i o := fun i o h => hr.rr.ob i o (by unfold St.H; rw [hσ, h]; rfl)
  have hHn : ∀ i o, (shP al mp l ck k cs)[i]? = some (some o) → σ'.H i ≠ none := fun i o h => by unfold St.H; rw [hσ, h]; simp
  have hBo : ∀ {x : Nat}, shB M x → x = b ∨ x = w.heap.size ∨ x = w.heap.size + 1 + 1 ∨ x = q ∨ nb = some x := by
    rintro x ⟨i, hi, hi7, h⟩
    have : i = 2 ∨ i = 3 ∨ i = 4 ∨ i = 5 ∨ i = 6 := by omega
    rcases this with rfl | rfl | rfl | rfl | rfl
    · rw [m2] at h; injection h with h; injection h with h; exact .inl h.symm
    · rw [m3] at h; injection h with h; injection h with h; exact .inr (.inl h.symm)
    · rw [m4] at h; injection h with h; injection h with h; exact .inr (.inr (.inl h.symm))
    · rw [m5] at h; injection h with h; injection h with h; exact .inr (.inr (.inr (.inl h.symm)))
    · rw [m6] at h; injection h with h; exact .inr (.inr (.inr (.inr h)))
  -- the map
  have hmW : W.heap[b]? = some (.map (l.map ent).toArray ck) := (hB.block b hbl).trans hmap
  have hmW' : W'.heap[b]? = some (.map (l.map ent).toArray ck) := by
    cases hH 2 _ rfl with
    | map c1 c2 => rw [hbor 2 (by omega), m2] at c1; injection c1 with c1; injection c1 with c1; subst c1; exact c2
  -- the rows that came in
  have rowK : ∀ {S S' : Nat → Prop} {i len : Nat} {u u' : Value}, i < 2 → M i = μ i → Rep w V μ (.row i 1 0 len) u → Rep W' S' μ' (.row i 1 0 len) u' → u' = u := by
    intro S S' i len u u' hi hm h h'
    refine row_pin h h' ((hbor i (by omega)).trans hm) (by decide) fun b' arr t hb' hh => ?_
    have hlt := heap_lt hh
    have hbb : b' ≠ b := by
      rintro rfl
      have := hin.inj i 2 b' (by simp; omega) (by simp) hb' hb2
      omega
    refine ⟨arr, t, ?_, rfl⟩
    rw [hev.block b' (Nat.lt_of_lt_of_le hlt hB.size) (fun h => by
      rcases hBo h with e | e | e | e | e
      · exact hbb e
      · omega
      · omega
      · omega
      · have := (hnb _ e).1; omega), hB.block b' hlt]
    exact hh
  -- the box of the opened memory
  have g1' : Blk W' w.heap.size 66 #[va, vm, .map (some b)] := by
    cases hH 3 _ rfl with
    | box c1 c2 c3 c4 c5 =>
      rename_i b' arr
      rw [hbor 3 (by omega), m3] at c1; injection c1 with c1; injection c1 with c1; subst c1
      obtain ⟨x, y, z, rfl⟩ := agg3 c3
      have e0 := rowK (S := V) (by omega) m0 ra (c4 0 _ x rfl rfl)
      have e1 := rowK (S := V) (by omega) m1 rm (c4 1 _ y rfl rfl)
      have e2 := c4 2 _ z rfl rfl
      cases e2 with
      | mp e2 =>
        rw [hbor 2 (by omega), m2] at e2; injection e2 with e2; injection e2 with e2; subst e2
        rw [e0, e1] at c2
        exact c2
  -- the box of the result
  obtain ⟨v', g3', rv'⟩ : ∃ v', Blk W' (w.heap.size + 1 + 1) 26 #[va, vm, v'] ∧ Rep W' (Cx.Sta (shX W V (shM μ b w.heap.size q nb)) σ'.H μ' W') μ' (.row 8 4 0 (cs.length + 1)) v' := by
    cases hH 4 _ rfl with
    | box c1 c2 c3 c4 c5 =>
      rename_i b' arr
      rw [hbor 4 (by omega), m4] at c1; injection c1 with c1; injection c1 with c1; subst c1
      obtain ⟨x, y, z, rfl⟩ := agg3 c3
      have e0 := rowK (S := V) (by omega) m0 ra (c4 0 _ x rfl rfl)
      have e1 := rowK (S := V) (by omega) m1 rm (c4 1 _ y rfl rfl)
      rw [e0, e1] at c2
      exact ⟨z, c2, c4 2 _ z rfl rfl⟩
  have hb8 : ∀ b', μ' 8 = some (some b') → W.heap.size ≤ b' ∨ nb = some b' := by
    intro b' hb'
    rcases (hr.rr.own 8 b' (hHn 8 _ rfl) hb').1 with h | h
    · exact .inl h
    · have h' : shB M b' := by rw [← hMd]; exact h
      obtain ⟨i, hi, hi7, hm⟩ := h'
      by_cases hi6 : i = 6
      · subst hi6; rw [m6] at hm; injection hm with hm; exact .inr hm
      · have : i = 2 ∨ i = 3 ∨ i = 4 ∨ i = 5 := by omega
        have hne' : σ'.H i ≠ none := by
          rcases this with rfl | rfl | rfl | rfl
          · exact hHn 2 _ rfl
          · exact hHn 3 _ rfl
          · exact hHn 4 _ rfl
          · exact hHn 5 _ rfl
        have := hr.rr.inj i 8 b' hne' (hHn 8 _ rfl) ((hbor i hi7).trans hm) hb'
        omega
  have hbase : ∀ b', μ' 8 = some (some b') → w.heap.size + 4 ≤ b' := fun b' h => by
    rcases hb8 b' h with h | h
    · omega
    · exact (hnb _ h).1
  have ho' : Own encCV 4 (w.heap.size + 4) 54 W' v' (cs ++ [celK l k]) := by
    refine rows_own (i := 8) (by simpa using rv') ?_ hbase
    have := hH 8 _ rfl
    simpa using this
  have hv8 : ∀ x, v'.ownBlock = some x → μ' 8 = some (some x) := by
    intro x hx
    generalize cs.length + 1 = n at rv'
    cases rv' with
    | rowNil => simp [Value.ownBlock] at hx
    | row c1 => simp [Value.ownBlock] at hx; subst hx; exact c1
  have far : ∀ {x : Nat}, x < W.heap.size → x ≠ b → x ≠ w.heap.size → x ≠ w.heap.size + 1 + 1 → x ≠ q → nb ≠ some x → W'.heap[x]? = W.heap[x]? := fun hx h1 h2 h3 h4 h5 => hev.block _ hx (fun h => by
    rcases hBo h with e | e | e | e | e
    · exact h1 e
    · exact h2 e
    · exact h3 e
    · exact h4 e
    · exact h5 e)
  refine ⟨⟨hev.size, fun x o hx hc => ?_⟩, ⟨hev.size, fun x hx hRK => ?_⟩, v', g3', ho', g1', ?_, n3, n1, n2, fun x hx => ?_, ?_, fun x hx => ⟨(hK x hx).1, Nat.lt_of_lt_of_le (hK x hx).2 hev.size⟩, Nat.le_trans hsz hev.size⟩
  · have hlt := heap_lt hx
    by_cases hxb : x = b
    · subst hxb; rw [hmW] at hx; injection hx with hx; subst hx; exact hmW'
    · refine (far hlt hxb ?_ ?_ ?_ ?_).trans hx
      · rintro rfl; unfold Blk at g1; rw [hx] at g1; injection g1 with g1; subst g1; simp [Obj.isCells] at hc
      · rintro rfl; unfold Blk at g3; rw [hx] at g3; injection g3 with g3; subst g3; simp [Obj.isCells] at hc
      · rintro rfl; unfold Blk at hqb; rw [hx] at hqb; injection hqb with hqb; subst hqb; simp [Obj.isCells] at hc
      · intro e
        rcases ho.2 with ⟨h, _⟩ | ⟨g, cap, cur, h, _, hh, _⟩
        · rw [h] at hvb; rw [← hvb] at e; simp [Value.ownBlock] at e
        · rw [h] at hvb; rw [← hvb] at e
          simp [Value.ownBlock] at e
          subst e
          rw [hx] at hh; injection hh with hh; subst hh; simp [Obj.isCells] at hc
  · by_cases hxb : x = b
    · subst hxb; rw [hmW, hmW']
    · rcases hRK with (h | h) | h
      · exact far hx hxb (by omega) (by omega) (by omega) (fun e => by have := (hnb _ e).1; omega)
      · exact far hx hxb (by omega) (by omega) (by omega) (fun e => by have := (hnb _ e).1; omega)
      · refine far hx hxb (fun e => n1 (e ▸ h)) (fun e => n3 (e ▸ h)) (fun e => hqK (e ▸ h)) (fun e => nv x (hvb.trans e) h)
  · exact (far g2.lt (by omega) (by omega) (by omega) (by omega) (fun e => by have := (hnb _ e).1; omega)).trans g2
  · rcases hb8 x (hv8 x hx) with h | h
    · intro hk; have := (hK x hk).2; omega
    · exact nv x (hvb.trans h)
  · refine ⟨hev.os.trans hB.os, hev.tape.trans hB.tape, hev.output.trans hB.output, Nat.le_trans hB.size hev.size, fun x hx => ?_⟩
    by_cases hxb : x = b
    · subst hxb; rw [hmW', hmap]
    · exact (far (Nat.lt_of_lt_of_le hx hB.size) hxb (by omega) (by omega) (by omega) (fun e => by have := (hnb _ e).1; omega)).trans (hB.block x hx)
end
set_option maxHeartbeats 4000000 in
theorem shut_ok : Ok Try.prog 44 shutS := by
  refine ⟨⟨_, Try.func44, rfl, rfl⟩, ?_⟩
  rintro args ins res outs ⟨al, mp, l, ck, cs, hl, hM, hpm, hsr, rfl, rfl, rfl, rfl⟩ w V Bo μ vals hin
  obtain ⟨v0, rfl⟩ : ∃ v0, vals = #[v0] := by
    have := hin.n
    match vals, this with
    | ⟨[a]⟩, _ => exact ⟨a, rfl⟩
  have r0 := hin.rep 0 _ v0 rfl rfl
  cases r0 with
  | @agg _ vs hs1 hs2 hs3 =>
  obtain ⟨va, vm, vv, rfl⟩ : ∃ va vm vv, vs = #[va, vm, vv] := by
    match vs, hs1 with
    | ⟨[a, b, c]⟩, _ => exact ⟨a, b, c, rfl⟩
  have ra := hs2 0 _ va rfl rfl
  have rm := hs2 1 _ vm rfl rfl
  have rv := hs2 2 _ vv rfl rfl
  have oa := hs3 va (by simp)
  have om := hs3 vm (by simp)
  clear hs1 hs2 hs3
  cases rv with
  | @mp _ b hb2 =>
  have hmap : w.heap[b]? = some (.map (l.map ent).toArray ck) := by
    cases hin.ob 2 _ rfl with
    | map b1 b2 => rw [hb2] at b1; injection b1 with b1; injection b1 with b1; subst b1; exact b2
  have hbl := heap_lt hmap
  have hks := kys_perm hpm
  have hso := srt_keys hsr
  have hcel := celK_all hM hpm
  have hklen : cs.length ≤ 1000000 := by rw [hpm.length_eq]; simpa using hl
  generalize hksd : cs.map ck3 = ks at *
  obtain ⟨Aa, ca, rfl⟩ := row_form ra
  obtain ⟨Am, cm, rfl⟩ := row_form rm
  refine (callsIn_wide (n := 20)).1 ?_
  refine callsIn_of_wp_marks Try.func44 rfl trivial ?_ rfl
  simp only [Try.ntmps44, List.size_toArray, List.length_cons, List.length_nil, Nat.reduceAdd, Nat.reduceSub, Array.replicate_succ, Array.replicate_zero, List.push_toArray, List.append_toArray, List.nil_append, List.cons_append]
  gi_wp2
  refine ⟨trivial, (callsIn_wide.2 (sorted_calls _ _ _ rfl rfl rfl _)).mono ?_⟩
  rintro e w5 ⟨rfl, hw5⟩
  gi_wp2
  generalize hVA : Value.slice Aa al.length ca = va at *
  generalize hVM : Value.slice Am mp.length cm = vm at *
  have h1 : Blk w5 w.heap.size 66 #[va, vm, .map (some b)] := by rw [← hw5]; exact (((blk_new rfl).alloc _).alloc _).alloc _
  have h2 : Blk w5 (w.heap.size + 1) 26 #[.slice none 0 0, .slice none 0 0, .slice none 0 0] := by rw [← hw5]; exact ((blk_new (by simp)).alloc _).alloc _
  have h3 : Blk w5 (w.heap.size + 1 + 1) 26 #[va, vm, .slice none 0 0] := by rw [← hw5]; exact (blk_new (by simp)).alloc _
  have h4 : Blk w5 (w.heap.size + 1 + 1 + 1) 66 #[va, vm, .map (some b)] := by rw [← hw5]; exact blk_new (by simp)
  have hB5 : Below w.heap.size w w5 := by rw [← hw5]; exact (by repeat (first | exact Below.refl _ _ | assumption | apply Below.drew | apply b_drewN | apply b_alloc | (refine Below.setCell ?_ (by (try simp); (try omega)) _) | (refine b_then ?_ (by assumption))))
  have hs5 : w5.heap.size = w.heap.size + 4 := by rw [← hw5]; simp
  clear hw5
  have hpre : ∀ W1 : World, Below w5.heap.size w5 W1 → StPre (fun k => k < w.heap.size ∨ k = w.heap.size + 1 + 1 + 1) (w.heap.size + 1 + 1 + 1) b va vm l ck W1 := by
    intro W1 hB
    exact ⟨h4.call hB, (hB.block b (by omega)).trans ((hB5.block b hbl).trans hmap), .inr rfl, .inl hbl⟩
  refine wpIn_rangeSet (by omega) (gf := 79) (lb := #[.pointer (some ⟨w.heap.size + 1 + 1 + 1, 0, none⟩)]) rfl (enters_of Try.func79 (by kernel_rfl) rfl)
    (sorted1_set 19 (w.heap.size + 1 + 1 + 1) b (fun k => k < w.heap.size ∨ k = w.heap.size + 1 + 1 + 1) (by omega) va vm l ck hM hl ks hks hso) hpre (fun k hk => by rcases hk with hk | hk <;> omega) (by rintro k h; exact h.elim) (fun _ => rfl)
    (fun pre K W => ShI w va vm b w.heap.size (w.heap.size + 1) (w.heap.size + 1 + 1) (pre.map (celK l)) K W) ShI.calm (ShI.calmO (by omega)) ?start
    (fun x K a' W => ∃ q, (w.heap.size + 4 ≤ q ∧ ¬ K q) ∧ a' = { tmps := #[.agg #[va, vm, .map (some b)], .pointer (some ⟨w.heap.size, 0, none⟩), .pointer (some ⟨w.heap.size + 1, 0, none⟩), .pointer (some ⟨w.heap.size + 1 + 1, 0, none⟩), .pointer (some ⟨q, 0, none⟩), .pointer (some ⟨w.heap.size, 0, none⟩), va,
          .pointer (some ⟨w.heap.size, 1, none⟩), vm, .agg #[va, vm, .slice none 0 0], .agg #[va, vm, .map (some b)], .func (.func 79) #[] #[.pointer (some ⟨w.heap.size + 1 + 1 + 1, 0, none⟩)], vK x,
          undef, undef, undef, undef, undef, undef, undef, undef, undef, undef, undef, undef, undef, undef, undef], defers := [] } ∧ Blk W q 69 (encK x).toArray)
    (fun x _ a' A l o o' ⟨q, h0, h1, h2⟩ hl hc => ⟨q, h0, h1, h2.putObj hl hc⟩) ?assign ?body ?done
  case start =>
    refine ⟨.slice none 0 0, h3, Own.nil _, h1, h2, by simp, by simp, by simp, fun k e => by simp [Value.ownBlock] at e, hB5, fun k h => h.elim, by omega⟩
  case assign =>
    rintro lp pre ⟨k1, k2, k3⟩ K W Kf hi hKf
    have hi' := hi
    obtain ⟨_, _, _, _, _, _, _, _, _, _, hK', hsz'⟩ := hi'
    simp only [kA, vK]
    gi_wp2
    exact hKf _ _ (KeepsOthers.alloc W _) ⟨by simp, fun k hk _ => Below.heap_alloc _ _ k hk⟩ (ShI.calm (f := fun p : List K3 => p.map (celK l)) pre K K W _ hi (OnlyK.alloc _ _ _) (fun k h => .inl h)) ⟨_, ⟨hsz', fun h => by have := (hK' _ h).2; omega⟩, rfl, blk_new rfl⟩
  case body =>
    rintro lp pre ⟨k1, k2, k3⟩ K a' W ⟨v, g3, ho, g1, g2, n3, n1, n2, nv, hB, hK, hsz⟩ ⟨q, ⟨hq0, hqK⟩, rfl, hq⟩ ⟨xs, rfl, hpfx⟩
    have hpl : (pre.map (celK l)).length ≤ 1000000 := by
      have e1 := hpfx.length_le
      have e2 : xs.length ≤ 1000000 := by rw [← hksd]; simpa using hklen
      simp only [List.length_append, List.length_cons, List.length_nil] at e1
      rw [List.length_map]
      omega
    generalize hcs' : pre.map (celK l) = cs' at *
    obtain ⟨nb, hnb, hrep⟩ := own_obj (encD := encCl) (by decide) (fun _ => rfl) (fun _ => rfl) encCl_sc ho
    refine wpIn_block ?_
    refine region_drawIn (cx := shX W V (shM μ b w.heap.size q nb)) (σ := ⟨shT, shO al mp l ck (k1, k2, k3) cs'⟩) (μ := shM μ b w.heap.size q nb) (K := fun σ' => σ'.h = shP al mp l ck (k1, k2, k3) cs') ?nd ?noout ?mo ?gops ?grr ?gpost
    case nd => kernel_rfl
    case mo => kernel_rfl
    case noout => rintro ⟨a, w, h⟩; exact h.elim
    case gops =>
      have ecl : encCl (celK l (k1, k2, k3)) = [.int .i64 k1, .int .i64 k2, .int .i64 k3, .int .u64 (mval l (k1, k2, k3) : Int)] := rfl
      repeat' (first
        | (with_reducible first | refine W_seq ?_ | refine W_block ?_ | refine endQ_ret ?_ | refine endQ_normal ?_)
        | ((with_reducible first | refine hK _ ?_ | refine hK _ _ ?_); clear hK K)
        | ((refine ext_mlookup (k1, k2, k3) rfl ?_ rfl rfl rfl ?_) <;> simp only [go_sem, seval, reduceCtorEq])
        | ((first | (with_reducible first | refine ops_cons (fun K hK => ?_) | refine opsd_cons (fun K hK => ?_) | refine ops_nil ?_) | ((with_reducible refine opsd_nil ?_); refine And.intro (by kernel_rfl) ?_) | with_reducible refine callV_snap ?_ | (with_reducible first | refine app_grow ?_ | refine W_reg lv44FlX ?_ | refine W_drw lv44FlX (by kernel_rfl) ?_ | refine W_ret ?_ | refine end_at0 ?_) | (with_reducible refine And.intro (fun h => ?_) (fun h => ?_)) | (with_reducible refine And.intro (by omega) ?_)); (try simp only [go_sem, seval, reduceCtorEq, ecl, lv44FlX, Try.ntmps44, Try.results44, shutS]))
        | fail)
      rfl
    case grr => exact shut_rr hin ra rm oa om hb2 hbl hmap g3 ho g1 hB hq0 hq hnb hrep _ rfl rfl rfl rfl rfl
    case gpost =>
      intro σ' μ' a' W' hσ hr
      have := shut_post hin ra rm hb2 hbl hmap g3 ho g1 g2 n3 n1 n2 nv hB hK hsz hq0 hqK hq hnb hrep hσ hr
      rw [← hcs'] at this
      obtain ⟨p1, p2, p3⟩ := this
      refine ⟨p1, p2, ?_⟩
      show ShI w va vm b _ _ _ (List.map (celK l) (pre ++ [(k1, k2, k3)])) K W'
      rw [List.map_append]
      exact p3
  case done =>
    rintro D W K xs rfl ⟨v, g3, ho, g1, g2, n3, n1, n2, nv, hB, hK, hsz⟩ hD hDef
    have c0 : W.cell? ⟨w.heap.size + 1 + 1, 0, none⟩ = some va := g3.cell 0
    have c1 : W.cell? ⟨w.heap.size + 1 + 1, 1, none⟩ = some vm := g3.cell 1
    have c2 : W.cell? ⟨w.heap.size + 1 + 1, 2, none⟩ = some v := g3.cell 2
    have d0 : W.cell? ⟨w.heap.size + 1, 0, none⟩ = some (.slice none 0 0) := g2.cell 0
    have d1 : W.cell? ⟨w.heap.size + 1, 1, none⟩ = some (.slice none 0 0) := g2.cell 1
    have d2 : W.cell? ⟨w.heap.size + 1, 2, none⟩ = some (.slice none 0 0) := g2.cell 2
    have f0 : W.frozen? ⟨w.heap.size + 1, 0, none⟩ = false := g2.frozen 0
    have f1 : W.frozen? ⟨w.heap.size + 1, 1, none⟩ = false := g2.frozen 1
    have f2 : W.frozen? ⟨w.heap.size + 1, 2, none⟩ = false := g2.frozen 2
    obtain ⟨Av, cv, rfl⟩ : ∃ A c, v = .slice A cs.length c := by
      have hcl : (xs.map (celK l)).length = cs.length := by rw [hcel]
      rcases ho.2 with ⟨rfl, h0⟩ | ⟨g, cap, cur, rfl, _⟩
      · rw [hcl] at h0; rw [h0]; exact ⟨_, _, rfl⟩
      · rw [hcl]; exact ⟨_, _, rfl⟩
    subst hVA hVM
    gi_wp2
    obtain ⟨W7, hW7⟩ : ∃ W7, (((W.setCell ⟨w.heap.size + 1, 0, none⟩ (.slice Aa al.length ca)).setCell ⟨w.heap.size + 1, 1, none⟩ (.slice Am mp.length cm)).setCell ⟨w.heap.size + 1, 2, none⟩ (.slice Av cs.length cv)) = W7 := ⟨_, rfl⟩
    have hDne : D ≠ w.heap.size + 1 := by omega
    have hD7 : W7.heap[D]? = some (.deferred (some [])) := by
      rw [← hW7, Below.heap_setCell _ _ _ _ hDne, Below.heap_setCell _ _ _ _ hDne, Below.heap_setCell _ _ _ _ hDne]; exact hDef
    have g27 : Blk W7 (w.heap.size + 1) 26 #[.slice Aa al.length ca, .slice Am mp.length cm, .slice Av cs.length cv] := by
      rw [← hW7]
      have := ((g2.set_ 0 (.slice Aa al.length ca)).set_ 1 (.slice Am mp.length cm)).set_ 2 (.slice Av cs.length cv)
      simpa using this
    have hB7 : Below w.heap.size w W7 := by rw [← hW7]; exact ((hB.setCell (by simp) _).setCell (by simp) _).setCell (by simp) _
    have ho' : Own encCV 4 w.heap.size 54 W (.slice Av cs.length cv) (xs.map (celK l)) := by
      obtain ⟨q1, q2⟩ := ho
      exact ⟨q1, q2.imp id fun ⟨g, cap, cur, e1, e2, r⟩ => ⟨g, cap, cur, e1, by omega, r⟩⟩
    have hown7 : Own encCV 4 w.heap.size 54 W7 (.slice Av cs.length cv) cs := by
      have hne := own_blk_ne ho' g2 (by decide)
      rw [hcel] at ho'
      rw [← hW7]
      exact ((ho'.far (p := ⟨_, 0, none⟩) hne _).far (p := ⟨_, 1, none⟩) hne _).far (p := ⟨_, 2, none⟩) hne _
    rw [hW7]
    refine ⟨by simp, .inl ⟨_, _, rfl, run_takeDeferred hD7, ?_⟩⟩
    have g28 := g27.putObj (o' := .deferred none) hD7 rfl
    have hB8 : Below w.heap.size w (W7.putObj D (.deferred none)) := hB7.grown (grownBy_putObj' W7 D _) hB7.size (fun k e => by cases e; omega)
    have hown8 : Own encCV 4 w.heap.size 54 (W7.putObj D (.deferred none)) (.slice Av cs.length cv) cs := own_keep hown7 (fun k e => by
      refine World.putObj_heap_other ?_
      rintro rfl
      rcases hown7.2 with ⟨h, _⟩ | ⟨g, cap, cur, h, _, hh, _⟩
      · rw [h] at e; simp [Value.ownBlock] at e
      · rw [h] at e
        simp [Value.ownBlock] at e
        subst e
        rw [hD7] at hh
        cases hh)
    generalize W7.putObj D (.deferred none) = W8 at *
    obtain ⟨μ', hout⟩ := shut_out hin ra rm oa om hown8 hB8
    have e0 : W8.cell? ⟨w.heap.size + 1, 0, none⟩ = some (.slice Aa al.length ca) := g28.cell 0
    have e1 : W8.cell? ⟨w.heap.size + 1, 1, none⟩ = some (.slice Am mp.length cm) := g28.cell 1
    have e2 : W8.cell? ⟨w.heap.size + 1, 2, none⟩ = some (.slice Av cs.length cv) := g28.cell 2
    refine ⟨.agg #[.slice Aa al.length ca, .slice Am mp.length cm, .slice Av cs.length cv], ?_, _, μ', rfl, hout⟩
    simp [results, Try.f44]
    go_simp
    trace_state
end Go.Proofs.Ytdfolpfibhfmlaa
