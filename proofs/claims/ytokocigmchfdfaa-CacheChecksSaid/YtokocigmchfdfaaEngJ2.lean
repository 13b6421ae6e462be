/- Engine, part J2: rows written in place: append within the known rows, clear, copy; slices up to the known rows. -/
import Derived.Test.YtokocigmchfdfaaEngJ
set_option linter.unusedSimpArgs false
set_option linter.unusedVariables false
namespace Go.Proofs.Ytokocigmchfdfaa
open Go.RowKit

theorem div_bd {q m j sz : Nat} (hj : j < sz) (h : q * sz + j < m * sz) : q < m := by
  rcases Nat.lt_or_ge q m with h' | h'
  · exact h'
  · have := Nat.mul_le_mul_right sz h'; omega

/-- the cells of a row some rows of which are written anew -/
theorem rows_over {w : World} {S : Nat → Prop} {sz : Nat} {rs src : List (List D)} {arr : Array Value} {k : Nat} {news : List Value} (hle : rs.length * sz ≤ arr.size) (hk : k + src.length ≤ rs.length) (hnl : news.length = src.length * sz)
    (hrl : ∀ (i : Nat) (r : List D), rs[i]? = some r → r.length = sz) (hsl : ∀ r ∈ src, r.length = sz)
    (hcells : ∀ (k j : Nat) (r : List D) (x : D) (v : Value), rs[k]? = some r → r[j]? = some x → arr[k * sz + j]? = some v → RepD w S x v)
    (hn : ∀ (p j : Nat) (r : List D) (x : D) (u : Value), src[p]? = some r → r[j]? = some x → news[p * sz + j]? = some u → RepD w S x u) :
    ∀ (q j : Nat) (r : List D) (x : D) (v : Value), (splice rs k src)[q]? = some r → r[j]? = some x → (splice arr.toList (k * sz) news).toArray[q * sz + j]? = some v → RepD w S x v := by
  intro q j r x v hq hj hv
  rw [splice_get _ _ _ _ hk] at hq
  have hfit : k * sz + news.length ≤ arr.toList.length := by
    rw [hnl, ← Nat.add_mul]; simp; exact Nat.le_trans (Nat.mul_le_mul_right _ hk) hle
  have hv' : (splice arr.toList (k * sz) news)[q * sz + j]? = some v := by simpa using hv
  rw [splice_get _ _ _ _ hfit] at hv'
  split at hq
  · rename_i hc
    have hjs : j < sz := by rw [← hsl r (List.mem_of_getElem? hq)]; exact (List.getElem?_eq_some_iff.1 hj).1
    have h1 : k * sz ≤ q * sz + j := Nat.le_trans (Nat.mul_le_mul_right _ hc.1) (by omega)
    have h2 : q * sz + j < k * sz + news.length := by
      rw [hnl, ← Nat.add_mul]
      have := Nat.mul_le_mul_right sz (show q + 1 ≤ k + src.length by omega)
      rw [Nat.add_mul] at this; omega
    rw [if_pos ⟨h1, h2⟩] at hv'
    refine hn (q - k) j r x v hq hj ?_
    have e : q * sz + j - k * sz = (q - k) * sz + j := by rw [Nat.sub_mul]; have := Nat.mul_le_mul_right sz hc.1; omega
    rw [← e]; exact hv'
  · rename_i hc
    have hjs : j < sz := by rw [← hrl q r hq]; exact (List.getElem?_eq_some_iff.1 hj).1
    have : ¬ (k * sz ≤ q * sz + j ∧ q * sz + j < k * sz + news.length) := by
      rintro ⟨h1, h2⟩
      apply hc
      rw [hnl, ← Nat.add_mul] at h2
      refine ⟨?_, div_bd hjs h2⟩
      rcases Nat.lt_or_ge q k with h' | h'
      · exfalso
        have := Nat.mul_le_mul_right sz (show q + 1 ≤ k from h')
        rw [Nat.add_mul] at this; omega
      · exact h'
    rw [if_neg this] at hv'
    exact hcells q j r x v hq hj (by simpa using hv')

theorem splice_nil {α : Type} (l : List α) (k : Nat) : splice l k [] = l := by simp [splice]

/-- an operation that writes rows of an object in place -/
theorem loc_rowsWr {cx : Cx} {n0 : Nat} {ts : Nat → Option AV} {hs : Nat → Option Ob} {o : Oper} {q k : Nat} {t' : TypeId} {sz : Nat} {rs src : List (List D)} {x : AV} {rd : List Nat} (hd : dstOk cx.n o.dst) (hq : hs q = some (.rows t' sz rs)) (hk : k + src.length ≤ rs.length) (hrd : q ∈ rd)
    (h : ∀ (H : Nat → Option Ob) (T : Nat → Option AV) (μ : Mu) (a : Act) (w : World), RR cx H T μ a w → (∀ y z, y ∈ o.op.operands → getT ts y = some z → Rep w (cx.Sta H μ w) μ z (a.eval y)) → (∀ i, i ∈ rd → H i = hs i) →
      ∃ v, Rep w (cx.Sta H μ w) μ x v ∧ ((src = [] ∧ (execOp a.eval o).run cx.P w = .ok (.value v) w) ∨
        ∃ b arr news, μ q = some (some b) ∧ w.heap[b]? = some (.cells arr t' (0, 0)) ∧ (execOp a.eval o).run cx.P w = .ok (.value v) (w.setRow b (splice arr.toList (k * sz) news).toArray) ∧ news.length = src.length * sz ∧ (∀ r ∈ src, r.length = sz) ∧
          (∀ (p j : Nat) (r : List D) (x : D) (u : Value), src[p]? = some r → r[j]? = some x → news[p * sz + j]? = some u → RepD w (cx.Sta H μ w) x u))) :
    LocOp cx n0 ts hs o ⟨x, [], [(q, some (.rows t' sz (splice rs k src)))], rd⟩ := by
  intro H T μ a w K Q hr hT hH hn hK
  have hHq : H q = some (.rows t' sz rs) := (hH q (.inl hrd)).trans hq
  obtain ⟨v, hv, hcase⟩ := h H T μ a w hr (fun y z hy hz => hr.eval (fun t ht => hT t (ht ▸ hy)) hz) (fun i hi => hH i (.inl hi))
  unfold Oper.wp
  rcases hcase with ⟨rfl, hrun⟩ | ⟨b, arr, news, hb, hheap, hrun, hnl, hsl, hnr⟩
  · rw [hrun]
    rw [splice_nil] at hK
    have e : appH n0 ⟨x, [], [(q, some (.rows t' sz rs))], rd⟩ H = H := by
      funext i
      have : ¬ (n0 ≤ i ∧ i < n0 + 0) := by omega
      by_cases hi : i = q
      · subst hi; simp [appH, Eff.wlook, hHq] <;> omega
      · simp [appH, Eff.wlook, Ne.symm hi] <;> omega
    exact hK _ _ μ (by rw [e]; exact hr.putD hd hv) (fun _ _ h => h) (fun i hi => .inl hi)
  · rw [hrun]
    cases hr.ob q _ hHq with
    | rowsNil c1 _ => rw [hb] at c1; cases c1
    | rows c1 c2 c3 c4 c5 c6 =>
      rename_i b' arr'
      rw [hb] at c1; injection c1 with c1; injection c1 with c1; subst c1
      rw [hheap] at c2; injection c2 with c2; injection c2 with c2; subst c2
      have hfit : k * sz + news.length ≤ arr.toList.length := by
        rw [hnl, ← Nat.add_mul]; simp; exact Nat.le_trans (Nat.mul_le_mul_right _ hk) c4
      have hsz : (splice arr.toList (k * sz) news).toArray.size = arr.size := by simp [splice_length _ _ _ hfit]
      have hev := Ev.setRow hheap hsz
      have hns : ∀ c, c = b → ¬ cx.Sta H μ w c := fun c hc => hc ▸ hr.notSta (by simp [hHq]) hb
      have hlen : (splice rs k src).length = rs.length := splice_length _ _ _ hk
      have hov := rows_over (S := cx.Sta H μ w) (w := w) c4 hk hnl c5 hsl c6 hnr
      have key := hr.write (by simp [hHq]) hb n0 (.rows t' sz (splice rs k src)) x rd hev (.rows hb (setRow_heap w b arr _ t' _ hheap) c3 (by rw [hsz, hlen]; exact c4)
        (fun i r hi => by
          rw [splice_get _ _ _ _ hk] at hi
          split at hi
          · exact hsl r (List.mem_of_getElem? hi)
          · exact c5 i r hi)
        (fun p j r y u hp hj hu => (hov p j r y u hp hj hu).evolve hev hns (fun _ h => h)))
      refine hK _ _ μ (key.putD hd ?_) (fun _ _ h => h) (fun i hi => .inl hi)
      refine hv.evolve hev hns (fun c hc => ?_) (fun _ _ h => h)
      rcases hc with hc | ⟨u1, u2, u3, u4⟩
      · exact .inl hc
      · refine .inr ⟨u1, Nat.lt_of_lt_of_le u2 hev.size, u3, fun i hi he => ?_⟩
        by_cases hiq : i = q
        · subst hiq; exact u4 i (by rw [hHq]; simp) he
        · refine u4 i ?_ he
          have : ¬ (n0 ≤ i ∧ i < n0 + 0) := by omega
          simpa [appH, Eff.wlook, Ne.symm hiq, this] using hi

/-! ### append within the rows that are known -/
def apI (P : Program) (hs : Nat → Option Ob) (t : TypeId) (x y : AV) (K : AV → List (Nat × Option Ob) → List Nat → Prop) : Prop :=
  (TL P t).ok = true ∧ ∃ e, (TL P t).selem = some e ∧ (TL P e).ok = true ∧ 0 < (TL P e).size ∧
    srcV hs (TL P e).size y fun src rd =>
      match x with
      | .row i sz 0 len => (match hs i with
        | some (.rows t' sz' rs) => t' = e ∧ sz = (TL P e).size ∧ sz' = sz ∧ len + src.length ≤ rs.length ∧ K (.row i sz 0 (len + src.length)) [(i, some (.rows t' sz' (splice rs len src)))] (i :: rd)
        | _ => False)
      | _ => False

theorem loc_appendI {cx : Cx} {n0 : Nat} {ts : Nat → Option AV} {hs : Nat → Option Ob} {o : Oper} {t : TypeId} {y z : Operand} {x s : AV} {K : Eff → Prop} (hd : dstOk cx.n o.dst)
    (ho : o.op = .call { callee := .builtin .append, args := #[y, z], argTypes := #[t, t] }) (hy : getT ts y = some x) (hz : getT ts z = some s)
    (h : apI cx.P hs t x s fun v wr rd => K ⟨v, [], wr, rd⟩) : ∃ e, LocOp cx n0 ts hs o e ∧ K e := by
  obtain ⟨hok, e, hse, hoke, hsz, h⟩ := h
  have hu := TL_selem hok hse
  obtain ⟨i, _, h1, _, hsi, _⟩ := TL_ok hoke
  obtain ⟨src, rd, h, hsrc⟩ := srcV_reads h
  have hmy : y ∈ o.op.operands := by simp [Op.operands, ho, Call.operands]
  have hmz : z ∈ o.op.operands := by simp [Op.operands, ho, Call.operands]
  cases x with
  | row q sz o' len =>
    cases o' with
    | succ _ => exact h.elim
    | zero =>
      simp only at h
      split at h
      · rename_i t' sz' rs hob
        obtain ⟨rfl, e1, rfl, hlr, hK⟩ := h
        refine ⟨_, loc_rowsWr hd hob hlr (by simp) fun H T μ a w hr he hH => ?_, hK⟩
        have hHq : H q = some (.rows t' sz' rs) := (hH q (by simp)).trans hob
        obtain ⟨⟨news, hnews, hnl, hnrep⟩, hsl⟩ := hsrc cx H T μ a w (a.eval z) hr (fun p hp => hH p (by simp [hp])) (he z _ hmz hz)
        have hx := he y _ hmy hy
        have hi : sz' = i.size := by omega
        have hex : ∀ v' w', (Builtin.append_ #[t, t] o.type #[a.eval y, a.eval z]).run cx.P w = .ok v' w' → (execOp a.eval o).run cx.P w = .ok (.value v') w' := by
          intro v' w' hrun
          simp only [execOp, ho, resolve, invoke, builtin, Sem.run_bind, Sem.run_pure, Result.andThen_ok, List.map_toArray, List.map_cons, List.map_nil, hrun]
        generalize hvy : a.eval y = vy at hx
        cases hx with
        | rowNil hb =>
          have hr0 : rs.length = 0 := by
            cases hr.ob q _ hHq with
            | rowsNil _ _ => rfl
            | rows c1 => rw [hb] at c1; cases c1
          have hs0 : src = [] := List.eq_nil_of_length_eq_zero (by omega)
          subst hs0
          have hz0 : ∃ A c, a.eval z = .slice A 0 c := by
            rcases hnews with ⟨A, c, e2, _⟩ | ⟨a', c, e2, _⟩
            · exact ⟨A, c, e2⟩
            · exact ⟨some a', c, e2⟩
          obtain ⟨A, c, hz0⟩ := hz0
          refine ⟨.slice none 0 0, .rowNil hb, .inl ⟨rfl, hex _ _ ?_⟩⟩
          rw [hvy, hz0]
          cases A <;> simp [Builtin.append_, run_underlying hu, sizeOf, typeInfo, h1, Builtin.lenOf, Builtin.firstCells, loadCells, loadCellsFrom]
        | row hb b2 b3 b4 b5 =>
          rename_i b c arr tt
          cases hr.ob q _ hHq with
          | rowsNil c1 _ => rw [hb] at c1; cases c1
          | rows c1 c2 c3 c4 c5 c6 =>
            rename_i b' arr'
            rw [hb] at c1; injection c1 with c1; injection c1 with c1; subst c1
            rw [b2] at c2; injection c2 with c2; injection c2 with e3 e4; subst e3 e4
            have hrc : rs.length ≤ c := by
              rw [b5, Nat.zero_add] at c4
              exact Nat.le_of_mul_le_mul_right c4 c3
            have hv : Rep w (cx.Sta H μ w) μ (.row q sz' 0 (len + src.length)) (.slice (some ⟨b, 0 * sz', none⟩) (len + src.length) c) := .row hb b2 (by omega) b4 b5
            simp only [Nat.zero_mul] at hv hvy
            refine ⟨_, hv, ?_⟩
            rcases hnews with ⟨A, c0, e2, e5, e6⟩ | ⟨a', c0, e2, e5, e6, e7⟩
            · have hs0 : src = [] := List.eq_nil_of_length_eq_zero e5
              subst hs0
              refine .inl ⟨rfl, hex _ _ ?_⟩
              rw [hvy, e2]
              cases A <;> simp [Builtin.append_, run_underlying hu, sizeOf, typeInfo, h1, Builtin.lenOf, Builtin.firstCells, loadCells, loadCellsFrom, b3, storeCells]
            · refine .inr ⟨b, arr, news, hb, b2, hex _ _ ?_, by rw [hnl, e1], fun r hr' => by rw [hsl r hr', e1], fun p j r x u hp hj hu' => hnrep p j r x u hp hj (by rw [← e1]; exact hu')⟩
              have hnl' : news.length = src.length * i.size := by rw [hnl, ← e1, hi]
              have hfit : len * i.size + news.length ≤ arr.size := by
                rw [hnl', ← Nat.add_mul, ← hi]; exact Nat.le_trans (Nat.mul_le_mul_right _ hlr) c4
              have hrun := run_append_room (P := cx.P) (w := w) t o.type _ i hu h1 b len c arr b2 a' src.length c0 news hnl' e6 e7 (by omega) hfit
              rw [hvy, e2, hrun, hi]
              rfl
      · exact h.elim
  | _ => exact h.elim

/-! ### clear -/
def clV (P : Program) (hs : Nat → Option Ob) (t : TypeId) (x : AV) (K : List (Nat × Option Ob) → List Nat → Prop) : Prop :=
  (TL P t).ok = true ∧ ∃ e, (TL P t).selem = some e ∧ ∃ z, (TL P e).zero = some z ∧ z.length = (TL P e).size ∧ ∃ zr, z.mapM toD = some zr ∧
    match x with
    | .sub i sz o len => (match hs i with
      | some (.rows t' sz' rs) => sz = (TL P e).size ∧ sz' = sz ∧ o + len ≤ rs.length ∧ K [(i, some (.rows t' sz' (splice rs o (List.replicate len zr))))] [i]
      | _ => False)
    | _ => False

theorem zeroCells_get (z : Array Value) (n p j : Nat) (hp : p < n) (hj : j < z.size) : (Builtin.zeroCells z n).toList[p * z.size + j]? = z[j]? := by
  have hlt : p * z.size + j < n * z.size := by
    have := Nat.mul_le_mul_right z.size (show p + 1 ≤ n from hp)
    rw [Nat.add_mul] at this; omega
  have hm : (p * z.size + j) % z.size = j := by rw [Nat.add_comm, Nat.add_mul_mod_self_right, Nat.mod_eq_of_lt hj]
  simp [Builtin.zeroCells, hlt, hm, hj]

theorem loc_clear {cx : Cx} {n0 : Nat} {ts : Nat → Option AV} {hs : Nat → Option Ob} {o : Oper} {t : TypeId} {y : Operand} {x : AV} {K : Eff → Prop} (hd : dstOk cx.n o.dst)
    (ho : o.op = .call { callee := .builtin .clear, args := #[y], argTypes := #[t] }) (hy : getT ts y = some x)
    (h : clV cx.P hs t x fun wr rd => K ⟨.any, [], wr, rd⟩) : ∃ e, LocOp cx n0 ts hs o e ∧ K e := by
  obtain ⟨hok, e, hse, zc, hzc, hzl, zr, hzr, h⟩ := h
  have hu := TL_selem hok hse
  obtain ⟨i, zv, h1, h2, h3, hsi, hoke, h4, h5⟩ := TL_zero hzc
  obtain ⟨m1, m2⟩ := mapM_get _ _ hzr
  have hmy : y ∈ o.op.operands := by simp [Op.operands, ho, Call.operands]
  cases x with
  | sub q sz o' len =>
    simp only at h
    split at h
    · rename_i t' sz' rs hob
      obtain ⟨e1, rfl, hlr, hK⟩ := h
      refine ⟨_, loc_rowsWr (k := o') (src := List.replicate len zr) hd hob (by simpa using hlr) (by simp) fun H T μ a w hr he hH => ?_, hK⟩
      have hHq : H q = some (.rows t' sz' rs) := (hH q (by simp)).trans hob
      have hx := he y _ hmy hy
      have hex : ∀ w', (Builtin.clear_ #[t] o.type #[a.eval y]).run cx.P w = .ok (.tuple #[]) w' → (execOp a.eval o).run cx.P w = .ok (.value (.tuple #[])) w' := by
        intro w' hrun
        simp only [execOp, ho, resolve, invoke, builtin, Sem.run_bind, Sem.run_pure, Result.andThen_ok, List.map_toArray, List.map_cons, List.map_nil, hrun]
      refine ⟨.tuple #[], .any, ?_⟩
      generalize hvy : a.eval y = vy at hx
      cases hx with
      | subNil =>
        refine .inl ⟨rfl, hex _ ?_⟩
        rw [hvy]
        rename_i A c
        cases A <;> simp [Builtin.clear_, run_underlying hu]
      | sub hb b3 b4 =>
        rename_i b c
        rcases Nat.eq_zero_or_pos len with hl0 | hl0
        · subst hl0
          refine .inl ⟨rfl, hex _ ?_⟩
          rw [hvy]
          simp [Builtin.clear_, run_underlying hu]
        · cases hr.ob q _ hHq with
          | rowsNil c1 _ => rw [hb] at c1; cases c1
          | rows c1 c2 c3 c4 c5 c6 =>
            rename_i b' arr
            rw [hb] at c1; injection c1 with c1; injection c1 with c1; subst c1
            have hzs : zv.cells.size = sz' := by omega
            have hlen : (Builtin.zeroCells zv.cells len).toList.length = len * sz' := by simp [size_zeroCells, hzs]
            refine .inr ⟨b, arr, (Builtin.zeroCells zv.cells len).toList, hb, c2, hex _ ?_, by rw [hlen]; simp, ?_, ?_⟩
            · have hfit : o' * sz' + 0 + (Builtin.zeroCells zv.cells len).toList.length ≤ arr.size := by
                rw [hlen, Nat.add_zero, ← Nat.add_mul]; exact Nat.le_trans (Nat.mul_le_mul_right _ hlr) c4
              have hst := run_storeCells_at cx.P b (o' * sz') t' (Builtin.zeroCells zv.cells len).toList 0 arr w c2 hfit (fun v hv => by
                simp [Builtin.zeroCells] at hv
                obtain ⟨p, hp, rfl⟩ := hv
                have hz0 : 0 < zv.cells.size := by
                  rcases Nat.eq_zero_or_pos zv.cells.size with h0 | h0
                  · rw [h0, Nat.mul_zero] at hp; omega
                  · exact h0
                have hml := Nat.mod_lt p hz0
                rw [getElem!_pos zv.cells _ hml]
                exact h5 _ (Array.getElem_mem hml))
              simp only [Nat.add_zero] at hst
              obtain ⟨l', rfl⟩ : ∃ l', len = l' + 1 := ⟨len - 1, by omega⟩
              rw [hvy]
              simp [Builtin.clear_, run_underlying hu, zeroValue, typeInfo, h1, h2, hst, splice]
            · intro r hr'
              rw [List.eq_of_mem_replicate hr']; omega
            · intro p j r y' u hp hj hu'
              have hpl : p < len := by have := (List.getElem?_eq_some_iff.1 hp).1; simpa using this
              have hrz : r = zr := by rw [List.getElem?_replicate] at hp; split at hp <;> simp_all
              subst hrz
              have hjl : j < zv.cells.size := by have := (List.getElem?_eq_some_iff.1 hj).1; omega
              rw [← hzs, zeroCells_get _ _ _ _ hpl hjl] at hu'
              have hjz : j < zc.length := by omega
              have htd := m2 j zc[j] y' (List.getElem?_eq_getElem hjz) hj
              exact toD_rep htd (h4 w (cx.Sta H μ w) μ j zc[j] u (List.getElem?_eq_getElem hjz) hu')
    · exact h.elim
  | _ => exact h.elim

/-! ### copy -/
def cpV (P : Program) (hs : Nat → Option Ob) (t : TypeId) (x y : AV) (K : AV → List (Nat × Option Ob) → List Nat → Prop) : Prop :=
  (TL P t).ok = true ∧ ∃ e, (TL P t).selem = some e ∧ (TL P e).ok = true ∧
    srcV hs (TL P e).size y fun src rd =>
      match x with
      | .sub i sz o len => (match hs i with
        | some (.rows t' sz' rs) => sz = (TL P e).size ∧ sz' = sz ∧ o + min src.length len ≤ rs.length ∧ K (.d (.int .i64 (min src.length len : Nat))) [(i, some (.rows t' sz' (splice rs o (src.take (min src.length len)))))] (i :: rd)
        | _ => False)
      | _ => False

/-! ### slices up to the rows that are known -/
def OptOk3 (a : Act) (x : Option Operand) (cap m : Int) : Prop :=
  match x with
  | none => m = cap
  | some y => ∃ k, a.eval y = .int k m

theorem run_sliceC {P : Program} (w : World) (a : Act) (lo mx : Option Operand) (y : Operand) (l h m : Int) (len cap : Nat) (hl : OptOk a lo 0 l) (hh : ∃ k, a.eval y = .int k h) (hm : OptOk3 a mx cap m) (h0 : 0 ≤ l) (h1 : l ≤ h) (h2 : h ≤ m) (h3 : m ≤ cap) :
    (Instr.sliceBounds true len cap (lo.map a.eval) (some (a.eval y)) (mx.map a.eval)).run P w = .ok (l.toNat, h.toNat, m.toNat) w := by
  have sb : ∀ (k : IntKind) (i : Int) (y : Nat) (code : BoundsCode), 0 ≤ i → i ≤ y → (Instr.sliceBound (.int k i) y code).run P w = .ok i.toNat w := fun k i y code a b => run_sliceBound w k i y code a b
  obtain ⟨k, hk⟩ := hh
  unfold Instr.sliceBounds
  have e1 : h ≤ (m.toNat : Int) := by omega
  have e2 : l ≤ (h.toNat : Int) := by omega
  cases mx with
  | none =>
    simp only [OptOk3] at hm; subst hm
    cases lo with
    | none => simp only [OptOk] at hl; subst hl; simp [hk, sb k h cap _ (by omega) (by omega)]
    | some x => obtain ⟨k', hk'⟩ := hl; simp [hk, hk', sb k h cap _ (by omega) (by omega), sb k' l h.toNat _ h0 e2]
  | some z =>
    obtain ⟨k2, hk2⟩ := hm
    cases lo with
    | none => simp only [OptOk] at hl; subst hl; simp [hk, hk2, sb k2 m cap _ (by omega) h3, sb k h m.toNat _ (by omega) e1]
    | some x => obtain ⟨k', hk'⟩ := hl; simp [hk, hk', hk2, sb k2 m cap _ (by omega) h3, sb k h m.toNat _ (by omega) e1, sb k' l h.toNat _ h0 e2]

def optM (ts : Nat → Option AV) (x : Option Operand) (dflt : Int) (K : Int → Prop) : Prop := optI ts x dflt K

def sl2V (P : Program) (t : TypeId) (x : AV) (ts : Nat → Option AV) (hs : Nat → Option Ob) (lo hi mx : Option Operand) (K : AV → List Nat → Prop) : Prop :=
  (TL P t).ok = true ∧ ∃ e, (TL P t).selem = some e ∧ (TL P e).ok = true ∧ 0 < (TL P e).size ∧ ∃ hy, hi = some hy ∧
    match x with
    | .row i sz 0 len => (match hs i with
      | some (.rows _ sz' rs) => optI ts lo 0 fun l => optI ts hi len fun h => optI ts mx rs.length fun m => sz = (TL P e).size ∧ sz' = sz ∧ 0 ≤ l ∧ l ≤ h ∧ h ≤ m ∧ m ≤ rs.length ∧ K (.sub i sz l.toNat (h.toNat - l.toNat)) [i]
      | _ => False)
    | _ => False

theorem loc_slice2 {cx : Cx} {n0 : Nat} {ts : Nat → Option AV} {hs : Nat → Option Ob} {o : Oper} {t : TypeId} {y : Operand} {lo hi mx : Option Operand} {x : AV} {K : Eff → Prop} (hd : dstOk cx.n o.dst) (ho : o.op = .slice t y lo hi mx) (hy : getT ts y = some x)
    (h : sl2V cx.P t x ts hs lo hi mx fun x rd => K ⟨x, [], [], rd⟩) : ∃ e, LocOp cx n0 ts hs o e ∧ K e := by
  obtain ⟨hok, e, hse, hoke, hsz, hyo, rfl, h⟩ := h
  have hu := TL_selem hok hse
  obtain ⟨i, _, h1, _, hsi, _⟩ := TL_ok hoke
  have hmy : y ∈ o.op.operands := by simp [Op.operands, ho]
  have hmh : hyo ∈ o.op.operands := by simp [Op.operands, ho]
  have hml : ∀ q, lo = some q → q ∈ o.op.operands := by rintro q rfl; simp [Op.operands, ho]
  have hmx : ∀ q, mx = some q → q ∈ o.op.operands := by rintro q rfl; simp [Op.operands, ho]
  cases x with
  | row q sz o' len =>
    cases o' with
    | succ _ => exact h.elim
    | zero =>
      simp only at h
      split at h
      · rename_i t' sz' rs hob
        obtain ⟨l, h, hl⟩ := optI_ok (cx := cx) h hml
        obtain ⟨hh, h, hh'⟩ := optI_ok (cx := cx) h (fun q hq => by injection hq with hq; exact hq ▸ hmh)
        obtain ⟨m, h, hm'⟩ := optI_ok (cx := cx) h hmx
        obtain ⟨e1, rfl, a0, a1, a2, a3, hK⟩ := h
        refine ⟨_, loc_val hd fun H T μ a w hr he hH => ?_, hK⟩
        have hHq : H q = some (.rows t' sz' rs) := (hH q (by simp)).trans hob
        have hx := he y _ hmy hy
        have ol := hl H μ a w he
        have oh : ∃ k, a.eval hyo = .int k hh := hh' H μ a w he
        have om := hm' H μ a w he
        generalize hvy : a.eval y = vy at hx
        have fin : ∀ (A : Option Addr) (c : Nat), vy = .slice A len c → rs.length ≤ c → ∃ m' : Nat, (execOp a.eval o).run cx.P w = .ok (.value (.slice (if m' = l.toNat then A else A.map (·.add (l.toNat * i.size))) (hh.toNat - l.toNat) (m' - l.toNat))) w ∧ hh.toNat ≤ m' ∧ m' ≤ c := by
          intro A c hv hc
          have om3 : ∃ m' : Int, OptOk3 a mx c m' ∧ hh ≤ m' ∧ m' ≤ c := by
            cases mx with
            | none => exact ⟨c, rfl, by omega, Int.le_refl _⟩
            | some z => exact ⟨m, om, a2, by omega⟩
          obtain ⟨m', o3, o4, o5⟩ := om3
          have hb := run_sliceC (P := cx.P) w a lo mx hyo l hh m' len c ol oh o3 a0 a1 o4 o5
          refine ⟨m'.toNat, ?_, by omega, by omega⟩
          simp only [execOp, ho, hvy, hv, Option.map_some]
          refine run_v ?_
          simp [Instr.sliceAt, run_underlying hu, Instr.slice, hb, sizeOf, typeInfo, h1]
        cases hx with
        | rowNil hb =>
          have hr0 : rs.length = 0 := by
            cases hr.ob q _ hHq with
            | rowsNil _ _ => rfl
            | rows c1 => rw [hb] at c1; cases c1
          obtain ⟨m', hrun, _⟩ := fin none 0 rfl (by omega)
          have e2 : hh.toNat - l.toNat = 0 := by omega
          rw [e2] at hrun ⊢
          exact ⟨_, hrun, .subNil⟩
        | row hb b2 b3 b4 b5 =>
          rename_i b c arr tt
          cases hr.ob q _ hHq with
          | rowsNil c1 _ => rw [hb] at c1; cases c1
          | rows c1 c2 c3 c4 c5 c6 =>
            rename_i b' arr'
            rw [hb] at c1; injection c1 with c1; injection c1 with c1; subst c1
            rw [b2] at c2; injection c2 with c2; injection c2 with e3 e4; subst e3 e4
            have hrc : rs.length ≤ c := by
              rw [b5, Nat.zero_add] at c4
              exact Nat.le_of_mul_le_mul_right c4 c3
            obtain ⟨m', hrun, hm1, hm2⟩ := fin _ c rfl hrc
            rcases Nat.eq_zero_or_pos (hh.toNat - l.toNat) with e2 | e2
            · rw [e2] at hrun ⊢
              exact ⟨_, hrun, .subNil⟩
            · rw [if_neg (by omega)] at hrun
              simp only [Option.map_some, Addr_add] at hrun
              refine ⟨_, hrun, ?_⟩
              have e4 : 0 * sz' + l.toNat * i.size = l.toNat * sz' := by rw [Nat.zero_mul, Nat.zero_add, e1, hsi]
              rw [e4]
              exact .sub hb (by omega) (by omega)
      · exact h.elim
  | _ => exact h.elim
end Go.Proofs.Ytokocigmchfdfaa
