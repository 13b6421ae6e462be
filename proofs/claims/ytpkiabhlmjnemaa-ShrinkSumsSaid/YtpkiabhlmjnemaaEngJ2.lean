import Derived.Test.YtpkiabhlmjnemaaEngJ

/- Engine, part J2: rows written in place: append within the known rows, clear, copy; slices up to the known rows. -/
namespace Go.Proofs.Ytpkiabhlmjnemaa
set_option linter.unusedSimpArgs false
set_option linter.unusedVariables false
open Go.RowKit

theorem div_bd {q m j sz : Nat} (hj : j < sz) (h : q * sz + j < m * sz) : q < m := by
  rcases Nat.lt_or_ge q m with h' | h'
  · exact h'
  · have := Nat.mul_le_mul_right sz h'; omega

/-- the cells of a row some rows of which are written anew -/
theorem rows_over {w : World} {S : Nat → Prop} {sz : Nat} {rs src : List (List D)} {arr : Array Value} {k : Nat} {news : List Value} (hle : rs.length * sz ≤ arr.size) (hk : k + src.length ≤ rs.length) (hnl : news.length = src.length * sz)
    (hrl : ∀ (i : Nat) (r : List D), rs[i]? = some r → r.length = sz) (hsl : ∀ r ∈ src, r.length = sz)
    (hcells : ∀ (k j : Nat) (r : List D) (x : D) (v : Value), rs[k]? = some r → r[j]? = some x → arr[k * sz + j]? = some v → RepD w S x v)
    (hn : ∀ (p j : Nat) (r : List D) (x : D) (u : Value), src[p]? = some r → r[j]? = some x → news[p * sz + j]? = some u → RepD w S x u) :
    ∀ (q j : Nat) (r : List D) (x : D) (v : Value), (splice rs k src)[q]? = some r → r[j]? = some x → (splice arr.toList (k * sz) news).toArray[q * sz + j]? = some v → RepD w S x v := by
  intro q j r x v hq hj hv
  rw [splice_get _ _ _ _ hk] at hq
  have hfit : k * sz + news.length ≤ arr.toList.length := by
    rw [hnl, ← Nat.add_mul]; simp; exact Nat.le_trans (Nat.mul_le_mul_right _ hk) hle
  have hv' : (splice arr.toList (k * sz) news)[q * sz + j]? = some v := by simpa using hv
  rw [splice_get _ _ _ _ hfit] at hv'
  split at hq
  · rename_i hc
    have hjs : j < sz := by rw [← hsl r (List.mem_of_getElem? hq)]; exact (List.getElem?_eq_some_iff.1 hj).1
    have h1 : k * sz ≤ q * sz + j := Nat.le_trans (Nat.mul_le_mul_right _ hc.1) (by omega)
    have h2 : q * sz + j < k * sz + news.length := by
      rw [hnl, ← Nat.add_mul]
      have := Nat.mul_le_mul_right sz (show q + 1 ≤ k + src.length by omega)
      rw [Nat.add_mul] at this; omega
    rw [if_pos ⟨h1, h2⟩] at hv'
    refine hn (q - k) j r x v hq hj ?_
    have e : q * sz + j - k * sz = (q - k) * sz + j := by rw [Nat.sub_mul]; have := Nat.mul_le_mul_right sz hc.1; omega
    rw [← e]; exact hv'
  · rename_i hc
    have hjs : j < sz := by rw [← hrl q r hq]; exact (List.getElem?_eq_some_iff.1 hj).1
    have : ¬ (k * sz ≤ q * sz + j ∧ q * sz + j < k * sz + news.length) := by
      rintro ⟨h1, h2⟩
      apply hc
      rw [hnl, ← Nat.add_mul] at h2
      refine ⟨?_, div_bd hjs h2⟩
      rcases Nat.lt_or_ge q k with h' | h'
      · exfalso
        have := Nat.mul_le_mul_right sz (show q + 1 ≤ k from h')
        rw [Nat.add_mul] at this; omega
      · exact h'
    rw [if_neg this] at hv'
    exact hcells q j r x v hq hj (by simpa using hv')

theorem splice_nil {α : Type} (l : List α) (k : Nat) : splice l k [] = l := by simp [splice]

/-- an operation that writes rows of an object in place -/
theorem loc_rowsWr {cx : Cx} {n0 : Nat} {ts : Nat → Option AV} {hs : Nat → Option Ob} {o : Oper} {q k : Nat} {t' : TypeId} {sz : Nat} {rs src : List (List D)} {x : AV} {rd : List Nat} (hd : dstOk cx.n o.dst) (hq : hs q = some (.rows t' sz rs)) (hk : k + src.length ≤ rs.length) (hrd : q ∈ rd)
    (h : ∀ (H : Nat → Option Ob) (T : Nat → Option AV) (μ : Mu) (a : Act) (w : World), RR cx H T μ a w → (∀ y z, y ∈ o.op.operands → getT ts y = some z → Rep w (cx.Sta H μ w) μ z (a.eval y)) → (∀ i, i ∈ rd → H i = hs i) →
      ∃ v, Rep w (cx.Sta H μ w) μ x v ∧ ((src = [] ∧ (execOp a.eval o).run cx.P w = .ok (.value v) w) ∨
        ∃ b arr news, μ q = some (some b) ∧ w.heap[b]? = some (.cells arr t' (0, 0)) ∧ (execOp a.eval o).run cx.P w = .ok (.value v) (w.setRow b (splice arr.toList (k * sz) news).toArray) ∧ news.length = src.length * sz ∧ (∀ r ∈ src, r.length = sz) ∧
          (∀ (p j : Nat) (r : List D) (x : D) (u : Value), src[p]? = some r → r[j]? = some x → news[p * sz + j]? = some u → RepD w (cx.Sta H μ w) x u))) :
    LocOp cx n0 ts hs o ⟨x, [], [(q, some (.rows t' sz (splice rs k src)))], rd⟩ := by
  intro H T μ a w K Q hr hT hH hn hK
  have hHq : H q = some (.rows t' sz rs) := (hH q (.inl hrd)).trans hq
  obtain ⟨v, hv, hcase⟩ := h H T μ a w hr (fun y z hy hz => hr.eval (fun t ht => hT t (ht ▸ hy)) hz) (fun i hi => hH i (.inl hi))
  unfold Oper.wp
  rcases hcase with ⟨rfl, hrun⟩ | ⟨b, arr, news, hb, hheap, hrun, hnl, hsl, hnr⟩
  · rw [hrun]
    rw [splice_nil] at hK
    have e : appH n0 ⟨x, [], [(q, some (.rows t' sz rs))], rd⟩ H = H := by
      funext i
      have : ¬ (n0 ≤ i ∧ i < n0 + 0) := by omega
      by_cases hi : i = q
      · subst hi; simp [appH, Eff.wlook, hHq] <;> omega
      · simp [appH, Eff.wlook, Ne.symm hi] <;> omega
    exact hK _ _ μ (by rw [e]; exact hr.putD hd hv) (fun _ _ h => h) (fun i hi => .inl hi)
  · rw [hrun]
    cases hr.ob q _ hHq with
    | rowsNil c1 _ => rw [hb] at c1; cases c1
    | rows c1 c2 c3 c4 c5 c6 =>
      rename_i b' arr'
      rw [hb] at c1; injection c1 with c1; injection c1 with c1; subst c1
      rw [hheap] at c2; injection c2 with c2; injection c2 with c2; subst c2
      have hfit : k * sz + news.length ≤ arr.toList.length := by
        rw [hnl, ← Nat.add_mul]; simp; exact Nat.le_trans (Nat.mul_le_mul_right _ hk) c4
      have hsz : (splice arr.toList (k * sz) news).toArray.size = arr.size := by simp [splice_length _ _ _ hfit]
      have hev := Ev.setRow hheap hsz
      have hns : ∀ c, c = b → ¬ cx.Sta H μ w c := fun c hc => hc ▸ hr.notSta (by simp [hHq]) hb
      have hlen : (splice rs k src).length = rs.length := splice_length _ _ _ hk
      have hov := rows_over (S := cx.Sta H μ w) (w := w) c4 hk hnl c5 hsl c6 hnr
      have key := hr.write (by simp [hHq]) hb n0 (.rows t' sz (splice rs k src)) x rd hev (.rows hb (setRow_heap w b arr _ t' _ hheap) c3 (by rw [hsz, hlen]; exact c4)
        (fun i r hi => by
          rw [splice_get _ _ _ _ hk] at hi
          split at hi
          · exact hsl r (List.mem_of_getElem? hi)
          · exact c5 i r hi)
        (fun p j r y u hp hj hu => (hov p j r y u hp hj hu).evolve hev hns (fun _ h => h)))
      refine hK _ _ μ (key.putD hd ?_) (fun _ _ h => h) (fun i hi => .inl hi)
      refine hv.evolve hev hns (fun c hc => ?_) (fun _ _ h => h)
      rcases hc with hc | ⟨u1, u2, u3, u4⟩
      · exact .inl hc
      · refine .inr ⟨u1, Nat.lt_of_lt_of_le u2 hev.size, u3, fun i hi he => ?_⟩
        by_cases hiq : i = q
        · subst hiq; exact u4 i (by rw [hHq]; simp) he
        · refine u4 i ?_ he
          have : ¬ (n0 ≤ i ∧ i < n0 + 0) := by omega
          simpa [appH, Eff.wlook, Ne.symm hiq, this] using hi

/-! ### append within the rows that are known -/
def apI (P : Program) (hs : Nat → Option Ob) (t : TypeId) (x y : AV) (K : AV → List (Nat × Option Ob) → List Nat → Prop) : Prop :=
  (TL P t).ok = true ∧ ∃ e, (TL P t).selem = some e ∧ (TL P e).ok = true ∧ 0 < (TL P e).size ∧
    srcV hs (TL P e).size y fun src rd =>
      match x with
      | .row i sz 0 len => (match hs i with
        | some (.rows t' sz' rs) => t' = e ∧ sz = (TL P e).size ∧ sz' = sz ∧ len + src.length ≤ rs.length ∧ K (.row i sz 0 (len + src.length)) [(i, some (.rows t' sz' (splice rs len src)))] (i :: rd)
        | _ => False)
      | _ => False

theorem loc_appendI {cx : Cx} {n0 : Nat} {ts : Nat → Option AV} {hs : Nat → Option Ob} {o : Oper} {t : TypeId} {y z : Operand} {x s : AV} {K : Eff → Prop} (hd : dstOk cx.n o.dst)
    (ho : o.op = .call { callee := .builtin .append, args := #[y, z], argTypes := #[t, t] }) (hy : getT ts y = some x) (hz : getT ts z = some s)
    (h : apI cx.P hs t x s fun v wr rd => K ⟨v, [], wr, rd⟩) : ∃ e, LocOp cx n0 ts hs o e ∧ K e := by
  obtain ⟨hok, e, hse, hoke, hsz, h⟩ := h
  have hu := TL_selem hok hse
  obtain ⟨i, _, h1, _, hsi, _⟩ := TL_ok hoke
  obtain ⟨src, rd, h, hsrc⟩ := srcV_reads h
  have hmy : y ∈ o.op.operands := by simp [Op.operands, ho, Call.operands]
  have hmz : z ∈ o.op.operands := by simp [Op.operands, ho, Call.operands]
  cases x with
  | row q sz o' len =>
    cases o' with
    | succ _ => exact h.elim
    | zero =>
      simp only at h
      split at h
      · rename_i t' sz' rs hob
        obtain ⟨rfl, e1, rfl, hlr, hK⟩ := h
        refine ⟨_, loc_rowsWr hd hob hlr (by simp) fun H T μ a w hr he hH => ?_, hK⟩
        have hHq : H q = some (.rows t' sz' rs) := (hH q (by simp)).trans hob
        obtain ⟨⟨news, hnews, hnl, hnrep⟩, hsl⟩ := hsrc cx H T μ a w (a.eval z) hr (fun p hp => hH p (by simp [hp])) (he z _ hmz hz)
        have hx := he y _ hmy hy
        have hi : sz' = i.size := by omega
        have hex : ∀ v' w', (Builtin.append_ #[t, t] o.type #[a.eval y, a.eval z]).run cx.P w = .ok v' w' → (execOp a.eval o).run cx.P w = .ok (.value v') w' := by
          intro v' w' hrun
          simp only [execOp, ho, resolve, invoke, builtin, Sem.run_bind, Sem.run_pure, Result.andThen_ok, List.map_toArray, List.map_cons, List.map_nil, hrun]
        generalize hvy : a.eval y = vy at hx
        cases hx with
        | rowNil hb =>
          have hr0 : rs.length = 0 := by
            cases hr.ob q _ hHq with
            | rowsNil _ _ => rfl
            | rows c1 => rw [hb] at c1; cases c1
          have hs0 : src = [] := List.eq_nil_of_length_eq_zero (by omega)
          subst hs0
          have hz0 : ∃ A c, a.eval z = .slice A 0 c := by
            rcases hnews with ⟨A, c, e2, _⟩ | ⟨a', c, e2, _⟩
            · exact ⟨A, c, e2⟩
            · exact ⟨some a', c, e2⟩
          obtain ⟨A, c, hz0⟩ := hz0
          refine ⟨.slice none 0 0, .rowNil hb, .inl ⟨rfl, hex _ _ ?_⟩⟩
          rw [hvy, hz0]
          cases A <;> simp [Builtin.append_, run_underlying hu, sizeOf, typeInfo, h1, Builtin.lenOf, Builtin.firstCells, loadCells, loadCellsFrom]
        | row hb b2 b3 b4 b5 =>
          rename_i b c arr tt
          cases hr.ob q _ hHq with
          | rowsNil c1 _ => rw [hb] at c1; cases c1
          | rows c1 c2 c3 c4 c5 c6 =>
            rename_i b' arr'
            rw [hb] at c1; injection c1 with c1; injection c1 with c1; subst c1
            rw [b2] at c2; injection c2 with c2; injection c2 with e3 e4; subst e3 e4
            have hrc : rs.length ≤ c := by
              rw [b5, Nat.zero_add] at c4
              exact Nat.le_of_mul_le_mul_right c4 c3
            have hv : Rep w (cx.Sta H μ w) μ (.row q sz' 0 (len + src.length)) (.slice (some ⟨b, 0 * sz', none⟩) (len + src.length) c) := .row hb b2 (by omega) b4 b5
            simp only [Nat.zero_mul] at hv hvy
            refine ⟨_, hv, ?_⟩
            rcases hnews with ⟨A, c0, e2, e5, e6⟩ | ⟨a', c0, e2, e5, e6, e7⟩
            · have hs0 : src = [] := List.eq_nil_of_length_eq_zero e5
              subst hs0
              refine .inl ⟨rfl, hex _ _ ?_⟩
              rw [hvy, e2]
              cases A <;> simp [Builtin.append_, run_underlying hu, sizeOf, typeInfo, h1, Builtin.lenOf, Builtin.firstCells, loadCells, loadCellsFrom, b3, storeCells]
            · refine .inr ⟨b, arr, news, hb, b2, hex _ _ ?_, by rw [hnl, e1], fun r hr' => by rw [hsl r hr', e1], fun p j r x u hp hj hu' => hnrep p j r x u hp hj (by rw [← e1]; exact hu')⟩
              have hnl' : news.length = src.length * i.size := by rw [hnl, ← e1, hi]
              have hfit : len * i.size + news.length ≤ arr.size := by
                rw [hnl', ← Nat.add_mul, ← hi]; exact Nat.le_trans (Nat.mul_le_mul_right _ hlr) c4
              have hrun := run_append_room (P := cx.P) (w := w) t o.type _ i hu h1 b len c arr b2 a' src.length c0 news hnl' e6 e7 (by omega) hfit
              rw [hvy, e2, hrun, hi]
              rfl
      · exact h.elim
  | _ => exact h.elim

/-! ### clear -/
def clV (P : Program) (hs : Nat → Option Ob) (t : TypeId) (x : AV) (K : List (Nat × Option Ob) → List Nat → Prop) : Prop :=
  (TL P t).ok = true ∧ ∃ e, (TL P t).selem = some e ∧ ∃ z, (TL P e).zero = some z ∧ z.length = (TL P e).size ∧ ∃ zr, z.mapM toD = some zr ∧
    match x with
    | .sub i sz o len => (match hs i with
      | some (.rows t' sz' rs) => sz = (TL P e).size ∧ sz' = sz ∧ o + len ≤ rs.length ∧ K [(i, some (.rows t' sz' (splice rs o (List.replicate len zr))))] [i]
      | _ => False)
    | _ => False

theorem zeroCells_get (z : Array Value) (n p j : Nat) (hp : p < n) (hj : j < z.size) : (Builtin.zeroCells z n).toList[p * z.size + j]? = z[j]? := by
  have hlt : p * z.size + j < n * z.size := by
    have := Nat.mul_le_mul_right z.size (show p + 1 ≤ n from hp)
    rw [Nat.add_mul] at this; omega
  have hm : (p * z.size + j) % z.size = j := by rw [Nat.add_comm, Nat.add_mul_mod_self_right, Nat.mod_eq_of_lt hj]
  simp [Builtin.zeroCells, hlt, hm, hj]

theorem loc_clear {cx : Cx} {n0 : Nat} {ts : Nat → Option AV} {hs : Nat → Option Ob} {o : Oper} {t : TypeId} {y : Operand} {x : AV} {K : Eff → Prop} (hd : dstOk cx.n o.dst)
    (ho : o.op = .call { callee := .builtin .clear, args := #[y], argTypes := #[t] }) (hy : getT ts y = some x)
    (h : clV cx.P hs t x fun wr rd => K ⟨.any, [], wr, rd⟩) : ∃ e, LocOp cx n0 ts hs o e ∧ K e := by
  obtain ⟨hok, e, hse, zc, hzc, hzl, zr, hzr, h⟩ := h
  have hu := TL_selem hok hse
  obtain ⟨i, zv, h1, h2, h3, hsi, hoke, h4, h5⟩ := TL_zero hzc
  obtain ⟨m1, m2⟩ := mapM_get _ _ hzr
  have hmy : y ∈ o.op.operands := by simp [Op.operands, ho, Call.operands]
  cases x with
  | sub q sz o' len =>
    simp only at h
    split at h
    · rename_i t' sz' rs hob
      obtain ⟨e1, rfl, hlr, hK⟩ := h
      refine ⟨_, loc_rowsWr (k := o') (src := List.replicate len zr) hd hob (by simpa using hlr) (by simp) fun H T μ a w hr he hH => ?_, hK⟩
      have hHq : H q = some (.rows t' sz' rs) := (hH q (by simp)).trans hob
      have hx := he y _ hmy hy
      have hex : ∀ w', (Builtin.clear_ #[t] o.type #[a.eval y]).run cx.P w = .ok (.tuple #[]) w' → (execOp a.eval o).run cx.P w = .ok (.value (.tuple #[])) w' := by
        intro w' hrun
        simp only [execOp, ho, resolve, invoke, builtin, Sem.run_bind, Sem.run_pure, Result.andThen_ok, List.map_toArray, List.map_cons, List.map_nil, hrun]
      refine ⟨.tuple #[], .any, ?_⟩
      generalize hvy : a.eval y = vy at hx
      cases hx with
      | subNil =>
        refine .inl ⟨rfl, hex _ ?_⟩
        rw [hvy]
        rename_i A c
        cases A <;> simp [Builtin.clear_, run_underlying hu]
      | sub hb b3 b4 =>
        rename_i b c
        rcases Nat.eq_zero_or_pos len with hl0 | hl0
        · subst hl0
          refine .inl ⟨rfl, hex _ ?_⟩
          rw [hvy]
          simp [Builtin.clear_, run_underlying hu]
        · cases hr.ob q _ hHq with
          | rowsNil c1 _ => rw [hb] at c1; cases c1
          | rows c1 c2 c3 c4 c5 c6 =>
            rename_i b' arr
            rw [hb] at c1; injection c1 with c1; injection c1 with c1; subst c1
            have hzs : zv.cells.size = sz' := by omega
            have hlen : (Builtin.zeroCells zv.cells len).toList.length = len * sz' := by simp [size_zeroCells, hzs]
            refine .inr ⟨b, arr, (Builtin.zeroCells zv.cells len).toList, hb, c2, hex _ ?_, by rw [hlen]; simp, ?_, ?_⟩
            · have hfit : o' * sz' + 0 + (Builtin.zeroCells zv.cells len).toList.length ≤ arr.size := by
                rw [hlen, Nat.add_zero, ← Nat.add_mul]; exact Nat.le_trans (Nat.mul_le_mul_right _ hlr) c4
              have hst := run_storeCells_at cx.P b (o' * sz') t' (Builtin.zeroCells zv.cells len).toList 0 arr w c2 hfit (fun v hv => by
                simp [Builtin.zeroCells] at hv
                obtain ⟨p, hp, rfl⟩ := hv
                have hz0 : 0 < zv.cells.size := by
                  rcases Nat.eq_zero_or_pos zv.cells.size with h0 | h0
                  · rw [h0, Nat.mul_zero] at hp; omega
                  · exact h0
                have hml := Nat.mod_lt p hz0
                rw [getElem!_pos zv.cells _ hml]
                exact h5 _ (Array.getElem_mem hml))
              simp only [Nat.add_zero] at hst
              obtain ⟨l', rfl⟩ : ∃ l', len = l' + 1 := ⟨len - 1, by omega⟩
              rw [hvy]
              simp [Builtin.clear_, run_underlying hu, zeroValue, typeInfo, h1, h2, hst, splice]
            · intro r hr'
              rw [List.eq_of_mem_replicate hr']; omega
            · intro p j r y' u hp hj hu'
              have hpl : p < len := by have := (List.getElem?_eq_some_iff.1 hp).1; simpa using this
              have hrz : r = zr := by rw [List.getElem?_replicate] at hp; split at hp <;> simp_all
              subst hrz
              have hjl : j < zv.cells.size := by have := (List.getElem?_eq_some_iff.1 hj).1; omega
              rw [← hzs, zeroCells_get _ _ _ _ hpl hjl] at hu'
              have hjz : j < zc.length := by omega
              have htd := m2 j zc[j] y' (List.getElem?_eq_getElem hjz) hj
              exact toD_rep htd (h4 w (cx.Sta H μ w) μ j zc[j] u (List.getElem?_eq_getElem hjz) hu')
    · exact h.elim
  | _ => exact h.elim

/-! ### slices up to the rows that are known -/
def OptOk3 (a : Act) (x : Option Operand) (cap m : Int) : Prop :=
  match x with
  | none => m = cap
  | some y => ∃ k, a.eval y = .int k m

theorem run_sliceC {P : Program} (w : World) (a : Act) (lo mx : Option Operand) (y : Operand) (l h m : Int) (len cap : Nat) (hl : OptOk a lo 0 l) (hh : ∃ k, a.eval y = .int k h) (hm : OptOk3 a mx cap m) (h0 : 0 ≤ l) (h1 : l ≤ h) (h2 : h ≤ m) (h3 : m ≤ cap) :
    (Instr.sliceBounds true len cap (lo.map a.eval) (some (a.eval y)) (mx.map a.eval)).run P w = .ok (l.toNat, h.toNat, m.toNat) w := by
  have sb : ∀ (k : IntKind) (i : Int) (y : Nat) (code : BoundsCode), 0 ≤ i → i ≤ y → (Instr.sliceBound (.int k i) y code).run P w = .ok i.toNat w := fun k i y code a b => run_sliceBound w k i y code a b
  obtain ⟨k, hk⟩ := hh
  unfold Instr.sliceBounds
  have e1 : h ≤ (m.toNat : Int) := by omega
  have e2 : l ≤ (h.toNat : Int) := by omega
  cases mx with
  | none =>
    simp only [OptOk3] at hm; subst hm
    cases lo with
    | none => simp only [OptOk] at hl; subst hl; simp [hk, sb k h cap _ (by omega) (by omega)]
    | some x => obtain ⟨k', hk'⟩ := hl; simp [hk, hk', sb k h cap _ (by omega) (by omega), sb k' l h.toNat _ h0 e2]
  | some z =>
    obtain ⟨k2, hk2⟩ := hm
    cases lo with
    | none => simp only [OptOk] at hl; subst hl; simp [hk, hk2, sb k2 m cap _ (by omega) h3, sb k h m.toNat _ (by omega) e1]
    | some x => obtain ⟨k', hk'⟩ := hl; simp [hk, hk', hk2, sb k2 m cap _ (by omega) h3, sb k h m.toNat _ (by omega) e1, sb k' l h.toNat _ h0 e2]

def optM (ts : Nat → Option AV) (x : Option Operand) (dflt : Int) (K : Int → Prop) : Prop := optI ts x dflt K

def sl2V (P : Program) (t : TypeId) (x : AV) (ts : Nat → Option AV) (hs : Nat → Option Ob) (lo hi mx : Option Operand) (K : AV → List Nat → Prop) : Prop :=
  (TL P t).ok = true ∧ ∃ e, (TL P t).selem = some e ∧ (TL P e).ok = true ∧ 0 < (TL P e).size ∧ ∃ hy, hi = some hy ∧
    match x with
    | .row i sz 0 len => (match hs i with
      | some (.rows _ sz' rs) => optI ts lo 0 fun l => optI ts hi len fun h => optI ts mx rs.length fun m => sz = (TL P e).size ∧ sz' = sz ∧ 0 ≤ l ∧ l ≤ h ∧ h ≤ m ∧ m ≤ rs.length ∧ K (.sub i sz l.toNat (h.toNat - l.toNat)) [i]
      | _ => False)
    | .d (.sl rows) => optI ts lo 0 fun l => optI ts hi rows.length fun h => optI ts mx rows.length fun m => 0 ≤ l ∧ l ≤ h ∧ h ≤ m ∧ m ≤ rows.length ∧ (∀ r ∈ rows, r.length = (TL P e).size) ∧ K (.d (.sl ((rows.drop l.toNat).take (h.toNat - l.toNat)))) []
    | _ => False

theorem RepD.recap {w : World} {S : Nat → Prop} {rows : List (List D)} {A : Option Addr} {n c c' : Nat} (h : RepD w S (.sl rows) (.slice A n c)) (hc : n ≤ c') : RepD w S (.sl rows) (.slice A n c') := by
  cases h with
  | nil => exact .nil
  | sl f hS hc0 hsz hcell hrep => exact .sl f hS hc hsz hcell hrep
theorem RepD.len {w : World} {S : Nat → Prop} {rows : List (List D)} {A : Option Addr} {n c : Nat} (h : RepD w S (.sl rows) (.slice A n c)) : n = rows.length ∧ rows.length ≤ c := by
  cases h with
  | nil => simp
  | sl f hS hc0 hsz hcell hrep => exact ⟨rfl, hc0⟩

theorem loc_slice2 {cx : Cx} {n0 : Nat} {ts : Nat → Option AV} {hs : Nat → Option Ob} {o : Oper} {t : TypeId} {y : Operand} {lo hi mx : Option Operand} {x : AV} {K : Eff → Prop} (hd : dstOk cx.n o.dst) (ho : o.op = .slice t y lo hi mx) (hy : getT ts y = some x)
    (h : sl2V cx.P t x ts hs lo hi mx fun x rd => K ⟨x, [], [], rd⟩) : ∃ e, LocOp cx n0 ts hs o e ∧ K e := by
  obtain ⟨hok, e, hse, hoke, hsz, hyo, rfl, h⟩ := h
  have hu := TL_selem hok hse
  obtain ⟨i, _, h1, _, hsi, _⟩ := TL_ok hoke
  have hmy : y ∈ o.op.operands := by simp [Op.operands, ho]
  have hmh : hyo ∈ o.op.operands := by simp [Op.operands, ho]
  have hml : ∀ q, lo = some q → q ∈ o.op.operands := by rintro q rfl; simp [Op.operands, ho]
  have hmx : ∀ q, mx = some q → q ∈ o.op.operands := by rintro q rfl; simp [Op.operands, ho]
  cases x with
  | row q sz o' len =>
    cases o' with
    | succ _ => exact h.elim
    | zero =>
      simp only at h
      split at h
      · rename_i t' sz' rs hob
        obtain ⟨l, h, hl⟩ := optI_ok (cx := cx) h hml
        obtain ⟨hh, h, hh'⟩ := optI_ok (cx := cx) h (fun q hq => by injection hq with hq; exact hq ▸ hmh)
        obtain ⟨m, h, hm'⟩ := optI_ok (cx := cx) h hmx
        obtain ⟨e1, rfl, a0, a1, a2, a3, hK⟩ := h
        refine ⟨_, loc_val hd fun H T μ a w hr he hH => ?_, hK⟩
        have hHq : H q = some (.rows t' sz' rs) := (hH q (by simp)).trans hob
        have hx := he y _ hmy hy
        have ol := hl H μ a w he
        have oh : ∃ k, a.eval hyo = .int k hh := hh' H μ a w he
        have om := hm' H μ a w he
        generalize hvy : a.eval y = vy at hx
        have fin : ∀ (A : Option Addr) (c : Nat), vy = .slice A len c → rs.length ≤ c → ∃ m' : Nat, (execOp a.eval o).run cx.P w = .ok (.value (.slice (if m' = l.toNat then A else A.map (·.add (l.toNat * i.size))) (hh.toNat - l.toNat) (m' - l.toNat))) w ∧ hh.toNat ≤ m' ∧ m' ≤ c := by
          intro A c hv hc
          have om3 : ∃ m' : Int, OptOk3 a mx c m' ∧ hh ≤ m' ∧ m' ≤ c := by
            cases mx with
            | none => exact ⟨c, rfl, by omega, Int.le_refl _⟩
            | some z => exact ⟨m, om, a2, by omega⟩
          obtain ⟨m', o3, o4, o5⟩ := om3
          have hb := run_sliceC (P := cx.P) w a lo mx hyo l hh m' len c ol oh o3 a0 a1 o4 o5
          refine ⟨m'.toNat, ?_, by omega, by omega⟩
          simp only [execOp, ho, hvy, hv, Option.map_some]
          refine run_v ?_
          simp [Instr.sliceAt, run_underlying hu, Instr.slice, hb, sizeOf, typeInfo, h1]
        cases hx with
        | rowNil hb =>
          have hr0 : rs.length = 0 := by
            cases hr.ob q _ hHq with
            | rowsNil _ _ => rfl
            | rows c1 => rw [hb] at c1; cases c1
          obtain ⟨m', hrun, _⟩ := fin none 0 rfl (by omega)
          have e2 : hh.toNat - l.toNat = 0 := by omega
          rw [e2] at hrun ⊢
          exact ⟨_, hrun, .subNil⟩
        | row hb b2 b3 b4 b5 =>
          rename_i b c arr tt
          cases hr.ob q _ hHq with
          | rowsNil c1 _ => rw [hb] at c1; cases c1
          | rows c1 c2 c3 c4 c5 c6 =>
            rename_i b' arr'
            rw [hb] at c1; injection c1 with c1; injection c1 with c1; subst c1
            rw [b2] at c2; injection c2 with c2; injection c2 with e3 e4; subst e3 e4
            have hrc : rs.length ≤ c := by
              rw [b5, Nat.zero_add] at c4
              exact Nat.le_of_mul_le_mul_right c4 c3
            obtain ⟨m', hrun, hm1, hm2⟩ := fin _ c rfl hrc
            rcases Nat.eq_zero_or_pos (hh.toNat - l.toNat) with e2 | e2
            · rw [e2] at hrun ⊢
              exact ⟨_, hrun, .subNil⟩
            · rw [if_neg (by omega)] at hrun
              simp only [Option.map_some, Addr_add] at hrun
              refine ⟨_, hrun, ?_⟩
              have e4 : 0 * sz' + l.toNat * i.size = l.toNat * sz' := by rw [Nat.zero_mul, Nat.zero_add, e1, hsi]
              rw [e4]
              exact .sub hb (by omega) (by omega)
      · exact h.elim
  | d x =>
    cases x with
    | sl rows =>
      simp only at h
      obtain ⟨l, h, hl⟩ := optI_ok (cx := cx) h hml
      obtain ⟨hh, h, hh'⟩ := optI_ok (cx := cx) h (fun q hq => by injection hq with hq; exact hq ▸ hmh)
      obtain ⟨m, h, hm'⟩ := optI_ok (cx := cx) h hmx
      obtain ⟨a0, a1, a2, a3, hro, hK⟩ := h
      refine ⟨_, loc_val hd fun H T μ a w hr he hH => ?_, hK⟩
      have hx := he y _ hmy hy
      have ol := hl H μ a w he
      have oh : ∃ k, a.eval hyo = .int k hh := hh' H μ a w he
      have om := hm' H μ a w he
      generalize hvy : a.eval y = vy at hx
      cases hx with
      | d hx =>
        obtain ⟨A, len, c, rfl⟩ : ∃ A len c, vy = .slice A len c := by cases hx <;> exact ⟨_, _, _, rfl⟩
        obtain ⟨rfl, hlc⟩ := hx.len
        have om3 : ∃ m' : Int, OptOk3 a mx c m' ∧ hh ≤ m' ∧ m' ≤ c := by
          cases mx with
          | none => exact ⟨c, rfl, by omega, Int.le_refl _⟩
          | some z => exact ⟨m, om, a2, by omega⟩
        obtain ⟨m', o3, o4, o5⟩ := om3
        have hb := run_sliceC (P := cx.P) w a lo mx hyo l hh m' rows.length c ol oh o3 a0 a1 o4 o5
        have h1' := RepD.sub (l := 0) (n := hh.toNat) (sz := (TL cx.P e).size) hx hro (by omega)
        have eA : (if c = 0 then A else A.map (·.add (0 * (TL cx.P e).size))) = A := by
          split
          · rfl
          · cases A with
            | none => rfl
            | some q => simp [Addr.add]
        rw [eA, Nat.sub_zero, List.drop_zero] at h1'
        have h2' := (h1'.recap (c' := m'.toNat) (by omega))
        have hlt : (rows.take hh.toNat).length = hh.toNat := by simp; omega
        have h2'' : RepD w (cx.Sta H μ w) (.sl (rows.take hh.toNat)) (.slice A (rows.take hh.toNat).length m'.toNat) := by rw [hlt]; exact h2'
        have h3' := RepD.sub (l := l.toNat) (n := hh.toNat - l.toNat) (sz := (TL cx.P e).size) h2'' (fun r hr => hro r (List.mem_of_mem_take hr)) (by omega)
        have e5 : ((rows.take hh.toNat).drop l.toNat).take (hh.toNat - l.toNat) = (rows.drop l.toNat).take (hh.toNat - l.toNat) := by
          rw [List.drop_take, List.take_take, Nat.min_self]
        rw [e5] at h3'
        refine ⟨_, ?_, .d h3'⟩
        simp only [execOp, ho, hvy, Option.map_some]
        refine run_v ?_
        simp [Instr.sliceAt, run_underlying hu, Instr.slice, hb, sizeOf, typeInfo, h1, hsi]
    | _ => exact h.elim
  | _ => exact h.elim
end Go.Proofs.Ytpkiabhlmjnemaa

/- Engine, part J3: rows whose capacity is known: cap, slices up to it, append beyond it; copy between rows. -/
namespace Go.Proofs.Ytpkiabhlmjnemaa
set_option linter.unusedSimpArgs false
set_option linter.unusedVariables false
open Go.RowKit

theorem splice_get2 {α : Type} (l m : List α) (off j : Nat) (h : off ≤ l.length) : (splice l off m)[j]? = if off ≤ j ∧ j < off + m.length then m[j - off]? else l[j]? := by
  unfold splice
  have hl : (l.take off).length = off := by simp; omega
  by_cases h1 : j < off
  · rw [if_neg (by omega), List.append_assoc, List.getElem?_append_left (by omega), List.getElem?_take, if_pos h1]
  · by_cases h2 : j < off + m.length
    · rw [if_pos (by omega), List.append_assoc, List.getElem?_append_right (by omega), hl, List.getElem?_append_left (by omega)]
    · rw [if_neg (by omega), List.append_assoc, List.getElem?_append_right (by omega), hl, List.getElem?_append_right (by omega), List.getElem?_drop]
      congr 1; omega

/-- an operation that writes rows of an object in place, beyond the known ones if need be -/
theorem loc_rowsWr2 {cx : Cx} {n0 : Nat} {ts : Nat → Option AV} {hs : Nat → Option Ob} {o : Oper} {q k : Nat} {t' : TypeId} {sz : Nat} {rs src : List (List D)} {x : AV} {rd : List Nat} (hd : dstOk cx.n o.dst) (hq : hs q = some (.rows t' sz rs)) (hk : k ≤ rs.length) (hrd : q ∈ rd)
    (h : ∀ (H : Nat → Option Ob) (T : Nat → Option AV) (μ : Mu) (a : Act) (w : World), RR cx H T μ a w → (∀ y z, y ∈ o.op.operands → getT ts y = some z → Rep w (cx.Sta H μ w) μ z (a.eval y)) → (∀ i, i ∈ rd → H i = hs i) →
      ∃ v, Rep w (cx.Sta H μ w) μ x v ∧ ((src = [] ∧ (execOp a.eval o).run cx.P w = .ok (.value v) w) ∨
        ∃ b arr news, μ q = some (some b) ∧ w.heap[b]? = some (.cells arr t' (0, 0)) ∧ (execOp a.eval o).run cx.P w = .ok (.value v) (w.setRow b (splice arr.toList (k * sz) news).toArray) ∧ news.length = src.length * sz ∧ (k + src.length) * sz ≤ arr.size ∧ (∀ r ∈ src, r.length = sz) ∧
          (∀ (p j : Nat) (r : List D) (x : D) (u : Value), src[p]? = some r → r[j]? = some x → news[p * sz + j]? = some u → RepD w (cx.Sta H μ w) x u))) :
    LocOp cx n0 ts hs o ⟨x, [], [(q, some (.rows t' sz (splice rs k src)))], rd⟩ := by
  intro H T μ a w K Q hr hT hH hn hK
  have hHq : H q = some (.rows t' sz rs) := (hH q (.inl hrd)).trans hq
  obtain ⟨v, hv, hcase⟩ := h H T μ a w hr (fun y z hy hz => hr.eval (fun t ht => hT t (ht ▸ hy)) hz) (fun i hi => hH i (.inl hi))
  unfold Oper.wp
  rcases hcase with ⟨rfl, hrun⟩ | ⟨b, arr, news, hb, hheap, hrun, hnl, hcap, hsl, hnr⟩
  · rw [hrun]
    rw [splice_nil] at hK
    have e : appH n0 ⟨x, [], [(q, some (.rows t' sz rs))], rd⟩ H = H := by
      funext i
      have : ¬ (n0 ≤ i ∧ i < n0 + 0) := by omega
      by_cases hi : i = q
      · subst hi; simp [appH, Eff.wlook, hHq] <;> omega
      · simp [appH, Eff.wlook, Ne.symm hi] <;> omega
    exact hK _ _ μ (by rw [e]; exact hr.putD hd hv) (fun _ _ h => h) (fun i hi => .inl hi)
  · rw [hrun]
    cases hr.ob q _ hHq with
    | rowsNil c1 _ => rw [hb] at c1; cases c1
    | rows c1 c2 c3 c4 c5 c6 =>
      rename_i b' arr'
      rw [hb] at c1; injection c1 with c1; injection c1 with c1; subst c1
      rw [hheap] at c2; injection c2 with c2; injection c2 with c2; subst c2
      have hfit : k * sz + news.length ≤ arr.toList.length := by
        rw [hnl, ← Nat.add_mul]; simpa using hcap
      have hsz : (splice arr.toList (k * sz) news).toArray.size = arr.size := by simp [splice_length _ _ _ hfit]
      have hev := Ev.setRow hheap hsz
      have hns : ∀ c, c = b → ¬ cx.Sta H μ w c := fun c hc => hc ▸ hr.notSta (by simp [hHq]) hb
      have hlen : (splice rs k src).length * sz ≤ arr.size := by
        have e1 : (splice rs k src).length = max rs.length (k + src.length) := by simp [splice]; omega
        rw [e1]
        rcases Nat.le_total rs.length (k + src.length) with h' | h'
        · rw [Nat.max_eq_right h']; exact hcap
        · rw [Nat.max_eq_left h']; exact c4
      have hrow : ∀ (i : Nat) (r : List D), (splice rs k src)[i]? = some r → r.length = sz := by
        intro i r hi
        rw [splice_get2 _ _ _ _ hk] at hi
        split at hi
        · exact hsl r (List.mem_of_getElem? hi)
        · exact c5 i r hi
      have hov : ∀ (p j : Nat) (r : List D) (x : D) (v : Value), (splice rs k src)[p]? = some r → r[j]? = some x → (splice arr.toList (k * sz) news).toArray[p * sz + j]? = some v → RepD w (cx.Sta H μ w) x v := by
        intro p j r x v hp hj hv
        have hjs : j < sz := by rw [← hrow p r hp]; exact (List.getElem?_eq_some_iff.1 hj).1
        have hv' : (splice arr.toList (k * sz) news)[p * sz + j]? = some v := by simpa using hv
        rw [splice_get _ _ _ _ hfit] at hv'
        rw [splice_get2 _ _ _ _ hk] at hp
        split at hp
        · rename_i hc
          have h1 : k * sz ≤ p * sz + j := Nat.le_trans (Nat.mul_le_mul_right _ hc.1) (by omega)
          have h2 : p * sz + j < k * sz + news.length := by
            rw [hnl, ← Nat.add_mul]
            have := Nat.mul_le_mul_right sz (show p + 1 ≤ k + src.length by omega)
            rw [Nat.add_mul] at this; omega
          rw [if_pos ⟨h1, h2⟩] at hv'
          refine hnr (p - k) j r x v hp hj ?_
          have e : p * sz + j - k * sz = (p - k) * sz + j := by rw [Nat.sub_mul]; have := Nat.mul_le_mul_right sz hc.1; omega
          rw [← e]; exact hv'
        · rename_i hc
          have : ¬ (k * sz ≤ p * sz + j ∧ p * sz + j < k * sz + news.length) := by
            rintro ⟨h1, h2⟩
            apply hc
            rw [hnl, ← Nat.add_mul] at h2
            refine ⟨?_, div_bd hjs h2⟩
            rcases Nat.lt_or_ge p k with h' | h'
            · exfalso
              have := Nat.mul_le_mul_right sz (show p + 1 ≤ k from h')
              rw [Nat.add_mul] at this; omega
            · exact h'
          rw [if_neg this] at hv'
          exact c6 p j r x v hp hj (by simpa using hv')
      have key := hr.write (by simp [hHq]) hb n0 (.rows t' sz (splice rs k src)) x rd hev (.rows hb (setRow_heap w b arr _ t' _ hheap) c3 (by rw [hsz]; exact hlen) hrow
        (fun p j r y u hp hj hu => (hov p j r y u hp hj hu).evolve hev hns (fun _ h => h)))
      refine hK _ _ μ (key.putD hd ?_) (fun _ _ h => h) (fun i hi => .inl hi)
      refine hv.evolve hev hns (fun c hc => ?_) (fun _ _ h => h)
      rcases hc with hc | ⟨u1, u2, u3, u4⟩
      · exact .inl hc
      · refine .inr ⟨u1, Nat.lt_of_lt_of_le u2 hev.size, u3, fun i hi he => ?_⟩
        by_cases hiq : i = q
        · subst hiq; exact u4 i (by rw [hHq]; simp) he
        · refine u4 i ?_ he
          have : ¬ (n0 ≤ i ∧ i < n0 + 0) := by omega
          simpa [appH, Eff.wlook, Ne.symm hiq, this] using hi

/-! ### copy -/
/-- the first rows that a copy into a row of length len reads -/
def cpK (hs : Nat → Option Ob) (sz len : Nat) (y : AV) (K : List (List D) → List Nat → Prop) : Prop :=
  match y with
  | .d (.sl rows) => (∀ r ∈ rows, r.length = sz) ∧ rows.length ≤ len ∧ K rows []
  | .row j sz2 o2 len2 => (match hs j with
    | some (.rows _ sz2' rs2) => sz2 = sz ∧ sz2' = sz ∧ o2 + min len2 len ≤ rs2.length ∧ K ((rs2.drop o2).take (min len2 len)) [j]
    | _ => False)
  | _ => False
def cpV (P : Program) (hs : Nat → Option Ob) (t : TypeId) (x y : AV) (K : AV → List (Nat × Option Ob) → List Nat → Prop) : Prop :=
  (TL P t).ok = true ∧ ∃ e, (TL P t).selem = some e ∧ (TL P e).ok = true ∧ 0 < (TL P e).size ∧
    match x with
    | .row i sz o len => (match hs i with
      | some (.rows t' sz' rs) => sz = (TL P e).size ∧ sz' = sz ∧ o ≤ rs.length ∧ cpK hs sz len y fun src rd => K (.d (.int .i64 src.length)) [(i, some (.rows t' sz' (splice rs o src)))] (i :: rd)
      | _ => False)
    | .sub i sz o len => (match hs i with
      | some (.rows t' sz' rs) => sz = (TL P e).size ∧ sz' = sz ∧ cpK hs sz len y fun src rd => o + src.length ≤ rs.length ∧ K (.d (.int .i64 src.length)) [(i, some (.rows t' sz' (splice rs o src)))] (i :: rd)
      | _ => False)
    | _ => False

/-- what a copy's source reads as -/
def CpReads (w : World) (S : Nat → Prop) (sz len : Nat) (src : List (List D)) (v : Value) : Prop :=
  ∃ A sLen sCap, v = .slice A sLen sCap ∧ Nat.min sLen len = src.length ∧ (src.length = 0 ∨ ∃ (a' : Addr) (news : List Value), A = some a' ∧ (∀ r ∈ src, r.length = sz) ∧ news.length = src.length * sz ∧ (∀ j u, news[j]? = some u → w.cell? (a'.add j) = some u) ∧ (∀ u ∈ news, u.oneCell' = true) ∧
    (∀ (p j : Nat) (r : List D) (x : D) (u : Value), src[p]? = some r → r[j]? = some x → news[p * sz + j]? = some u → RepD w S x u))

theorem cpK_reads {hs : Nat → Option Ob} {sz len : Nat} {y : AV} {K : List (List D) → List Nat → Prop} (h : cpK hs sz len y K) : ∃ src rd, K src rd ∧
    ∀ (cx : Cx) (H : Nat → Option Ob) (T : Nat → Option AV) (μ : Mu) (a : Act) (w : World) (v : Value), RR cx H T μ a w → (∀ i, i ∈ rd → H i = hs i) → Rep w (cx.Sta H μ w) μ y v → CpReads w (cx.Sta H μ w) sz len src v := by
  cases y with
  | d s =>
    cases s with
    | sl rows =>
      obtain ⟨hrow, hlen, hK⟩ := h
      refine ⟨_, _, hK, fun cx H T μ a w v hr hH hs' => ?_⟩
      cases v with
      | slice A sl sc =>
        cases hs' with
        | d hs' =>
          obtain ⟨news, hn, hnl, hnr⟩ := hs'.reads hrow
          rcases hn with ⟨A', c', e2, e3, e4⟩ | ⟨a', c', e2, e3, e4, e5⟩
          · injection e2 with e5 e6 e7
            subst e5 e6 e7
            exact ⟨_, _, _, rfl, by rw [e3]; exact Nat.zero_min _, .inl e3⟩
          · injection e2 with e6 e7 e8
            subst e6 e7 e8
            exact ⟨_, _, _, rfl, Nat.min_eq_left hlen, .inr ⟨a', news, rfl, hrow, e3, e4, e5, hnr⟩⟩
      | _ => cases hs' with | d hs' => cases hs'
    | _ => exact h.elim
  | row j sz2 o2 len2 =>
    simp only [cpK] at h
    split at h
    · rename_i t2 sz2' rs2 hob2
      obtain ⟨rfl, rfl, hle2, hK⟩ := h
      have hlt : ((rs2.drop o2).take (min len2 len)).length = min len2 len := by simp; omega
      refine ⟨_, _, hK, fun cx H T μ a w v hr hH hs' => ?_⟩
      have hHj : H j = some (.rows t2 sz2' rs2) := (hH j (by simp)).trans hob2
      unfold CpReads
      rw [hlt]
      cases hs' with
      | rowNil hb => exact ⟨_, _, _, rfl, rfl, .inl (Nat.zero_min _)⟩
      | row hb b2 b3 b4 b5 =>
        rename_i b c arr tt
        obtain ⟨news, hn, hnl, hnr⟩ := own_reads (len := min len2 len) hr hHj hb (by omega) c
        refine ⟨_, _, _, rfl, rfl, ?_⟩
        rw [hlt] at hn hnl
        rcases hn with ⟨A', c', e2, e3, e4⟩ | ⟨a', c', e2, e3, e4, e5⟩
        · exact .inl e3
        · injection e2 with e6 e7 e8
          refine .inr ⟨a', news, e6, fun r hr' => ?_, e3, e4, e5, hnr⟩
          cases hr.ob j _ hHj with
          | rowsNil c1 _ => rw [hb] at c1; cases c1
          | rows c1 c2 c3 c4 c5 c6 =>
            obtain ⟨p, hp⟩ := List.mem_iff_getElem?.1 (List.mem_of_mem_drop (List.mem_of_mem_take hr'))
            exact c5 p r hp
    · exact h.elim
  | _ => exact h.elim

theorem run_copy_rows {P : Program} (w : World) (dT sT ty elem : TypeId) (i : TypeInfo) (g o dLen dCap : Nat) (a : Addr) (sLen sCap n : Nat) (cur : Array Value) (t : TypeId) (cs : List Value)
    (hu : P.underlying dT = some (.slice elem)) (hi : P.info? elem = some i)
    (hg : w.heap[g]? = some (.cells cur t (0, 0))) (hn : n = Nat.min sLen dLen) (hcs : cs.length = n * i.size)
    (hsrc : ∀ j v, cs[j]? = some v → w.cell? (a.add j) = some v) (hfit : o + cs.length ≤ cur.size) (h1 : ∀ v ∈ cs, v.oneCell' = true) :
    (Builtin.copy_ #[dT, sT] ty #[.slice (some ⟨g, o, none⟩) dLen dCap, .slice (some a) sLen sCap]).run P w = .ok (goInt n) (w.setRow g (splice cur.toList o cs).toArray) := by
  have hl := run_loadCells_list (P := P) w a cs hsrc
  have hst := run_storeCells_at P g o t cs 0 cur w hg (by simpa using hfit) h1
  rw [hcs] at hl
  simp only [Nat.add_zero] at hst
  simp [Builtin.copy_, run_underlying hu, Builtin.lenOf, Builtin.firstCells, sizeOf, typeInfo, hi, ← hn, hl, hst, splice]

theorem run_copy_zero {P : Program} (w : World) (dT sT ty elem : TypeId) (i : TypeInfo) (A B : Option Addr) (dLen dCap sLen sCap : Nat) (hu : P.underlying dT = some (.slice elem)) (hi : P.info? elem = some i) (hn : Nat.min sLen dLen = 0) :
    (Builtin.copy_ #[dT, sT] ty #[.slice A dLen dCap, .slice B sLen sCap]).run P w = .ok (goInt 0) w := by
  cases A <;> cases B <;> simp [Builtin.copy_, run_underlying hu, Builtin.lenOf, Builtin.firstCells, sizeOf, typeInfo, hi, hn, storeCells, loadCells, loadCellsFrom]

theorem loc_copy {cx : Cx} {n0 : Nat} {ts : Nat → Option AV} {hs : Nat → Option Ob} {o : Oper} {t : TypeId} {y z : Operand} {x s : AV} {K : Eff → Prop} (hd : dstOk cx.n o.dst)
    (ho : o.op = .call { callee := .builtin .copy, args := #[y, z], argTypes := #[t, t] }) (hy : getT ts y = some x) (hz : getT ts z = some s)
    (h : cpV cx.P hs t x s fun v wr rd => K ⟨v, [], wr, rd⟩) : ∃ e, LocOp cx n0 ts hs o e ∧ K e := by
  obtain ⟨hok, e, hse, hoke, hsz, h⟩ := h
  have hu := TL_selem hok hse
  obtain ⟨i, _, h1, _, hsi, _⟩ := TL_ok hoke
  have hmy : y ∈ o.op.operands := by simp [Op.operands, ho, Call.operands]
  have hmz : z ∈ o.op.operands := by simp [Op.operands, ho, Call.operands]
  have hex : ∀ (a : Act) (w w' : World) (v' : Value), (Builtin.copy_ #[t, t] o.type #[a.eval y, a.eval z]).run cx.P w = .ok v' w' → (execOp a.eval o).run cx.P w = .ok (.value v') w' := by
    intro a w w' v' hrun
    simp only [execOp, ho, resolve, invoke, builtin, Sem.run_bind, Sem.run_pure, Result.andThen_ok, List.map_toArray, List.map_cons, List.map_nil, hrun]
  -- the run, once it is known where the target lies
  have go : ∀ (q sz' o' len : Nat) (t' : TypeId) (rs src : List (List D)) (rd : List Nat), hs q = some (.rows t' sz' rs) → sz' = (TL cx.P e).size → o' ≤ rs.length →
      (∀ (H : Nat → Option Ob) (T : Nat → Option AV) (μ : Mu) (a : Act) (w : World), RR cx H T μ a w → (∀ p, p ∈ q :: rd → H p = hs p) → Rep w (cx.Sta H μ w) μ s (a.eval z) → CpReads w (cx.Sta H μ w) sz' len src (a.eval z)) →
      (∀ (H : Nat → Option Ob) (T : Nat → Option AV) (μ : Mu) (a : Act) (w : World), RR cx H T μ a w → (∀ p, p ∈ q :: rd → H p = hs p) → Rep w (cx.Sta H μ w) μ x (a.eval y) →
        (∃ B dCap, a.eval y = .slice B len dCap ∧ len = 0) ∨ ∃ b dCap arr, a.eval y = .slice (some ⟨b, o' * sz', none⟩) len dCap ∧ μ q = some (some b) ∧ w.heap[b]? = some (.cells arr t' (0, 0)) ∧ (src.length ≤ len → (o' + src.length) * sz' ≤ arr.size)) →
      LocOp cx n0 ts hs o ⟨.d (.int .i64 src.length), [], [(q, some (.rows t' sz' (splice rs o' src)))], q :: rd⟩ := by
    intro q sz' o' len t' rs src rd hob e1 hle hread hdst
    refine loc_rowsWr2 hd hob hle (by simp) fun H T μ a w hr he hH => ?_
    obtain ⟨A, sLen, sCap, hev, hmin, hcase⟩ := hread H T μ a w hr hH (he z _ hmz hz)
    have hsl : src.length ≤ len := by rw [← hmin]; exact Nat.min_le_right _ _
    refine ⟨.int .i64 src.length, .d .int, ?_⟩
    have zero : ∀ B dCap, a.eval y = .slice B len dCap → src.length = 0 → (src = [] ∧ (execOp a.eval o).run cx.P w = .ok (.value (.int .i64 src.length)) w) := by
      intro B dCap hvy' hs0
      refine ⟨List.eq_nil_of_length_eq_zero hs0, hex _ _ _ _ ?_⟩
      rw [hvy', hev, run_copy_zero w t t o.type e i B A len dCap sLen sCap hu h1 (by rw [hmin, hs0]), hs0]; rfl
    rcases hdst H T μ a w hr hH (he y _ hmy hy) with ⟨B, dCap, hvy, hl0⟩ | ⟨b, dCap, arr, hvy, hb, b2, hcap⟩
    · exact .inl (zero _ _ hvy (by omega))
    · rcases hcase with hs0 | ⟨a', news, rfl, hrow, hnl, hnc, hn1, hnr⟩
      · exact .inl (zero _ _ hvy hs0)
      · have hcap := hcap hsl
        refine .inr ⟨b, arr, news, hb, b2, hex _ _ _ _ ?_, hnl, hcap, hrow, hnr⟩
        have hi : sz' = i.size := by omega
        rw [hvy, hev, run_copy_rows w t t o.type e i b (o' * sz') len dCap a' sLen sCap src.length arr _ news hu h1 b2 hmin.symm (by rw [← hi]; exact hnl) hnc (by rw [hnl, ← Nat.add_mul]; exact hcap) hn1]
        rfl
  cases x with
  | row q sz o' len =>
    simp only at h
    split at h
    · rename_i t' sz' rs hob
      obtain ⟨e1, rfl, hle, h⟩ := h
      obtain ⟨src, rd, hK, hrd⟩ := cpK_reads h
      refine ⟨_, go q sz' o' len t' rs src rd hob e1 hle (fun H T μ a w hr hH hs' => hrd cx H T μ a w _ hr (fun p hp => hH p (by simp [hp])) hs') (fun H T μ a w hr hH hx => ?_), hK⟩
      have hHq : H q = some (.rows t' sz' rs) := (hH q (by simp)).trans hob
      generalize a.eval y = vy at hx
      cases hx with
      | rowNil hb => exact .inl ⟨_, _, rfl, rfl⟩
      | row hb b2 b3 b4 b5 =>
        cases hr.ob q _ hHq with
        | rowsNil c1 _ => rw [hb] at c1; cases c1
        | rows c1 c2 c3 c4 c5 c6 =>
          rename_i b' arr'
          rw [hb] at c1; injection c1 with c1; injection c1 with c1; subst c1
          rw [b2] at c2; injection c2 with c2; injection c2 with e3 e4; subst e3 e4
          exact .inr ⟨_, _, _, rfl, hb, b2, fun hl => by rw [b5]; exact Nat.mul_le_mul_right _ (by omega)⟩
    · exact h.elim
  | sub q sz o' len =>
    simp only at h
    split at h
    · rename_i t' sz' rs hob
      obtain ⟨e1, rfl, h⟩ := h
      obtain ⟨src, rd, ⟨hle, hK⟩, hrd⟩ := cpK_reads h
      refine ⟨_, go q sz' o' len t' rs src rd hob e1 (by omega) (fun H T μ a w hr hH hs' => hrd cx H T μ a w _ hr (fun p hp => hH p (by simp [hp])) hs') (fun H T μ a w hr hH hx => ?_), hK⟩
      have hHq : H q = some (.rows t' sz' rs) := (hH q (by simp)).trans hob
      generalize a.eval y = vy at hx
      cases hx with
      | subNil => exact .inl ⟨_, _, rfl, rfl⟩
      | sub hb b3 b4 =>
        cases hr.ob q _ hHq with
        | rowsNil c1 _ => rw [hb] at c1; cases c1
        | rows c1 c2 c3 c4 c5 c6 =>
          rw [hb] at c1; injection c1 with c1; injection c1 with c1; subst c1
          exact .inr ⟨_, _, _, rfl, hb, c2, fun hl => Nat.le_trans (Nat.mul_le_mul_right _ hle) c4⟩
    · exact h.elim
  | _ => exact h.elim

/-! ### cap -/
def capV (P : Program) (t : TypeId) (x : AV) (K : AV → Prop) : Prop :=
  (TL P t).ok = true ∧ (∃ e, (TL P t).selem = some e) ∧ match x with
  | .rowc _ _ _ c => K (.d (.int .i64 c))
  | _ => False

theorem loc_cap {cx : Cx} {n0 : Nat} {ts : Nat → Option AV} {hs : Nat → Option Ob} {o : Oper} {t : TypeId} {y : Operand} {x : AV} {K : Eff → Prop} (hd : dstOk cx.n o.dst) (ho : o.op = .call { callee := .builtin .cap, args := #[y], argTypes := #[t] }) (hy : getT ts y = some x)
    (h : capV cx.P t x fun x => K ⟨x, [], [], []⟩) : ∃ e, LocOp cx n0 ts hs o e ∧ K e := by
  obtain ⟨hok, ⟨e, hse⟩, h⟩ := h
  have hu := TL_selem hok hse
  have hop : y ∈ o.op.operands := by simp [Op.operands, ho, Call.operands]
  cases x with
  | rowc i sz len c =>
    refine ⟨_, loc_val hd fun H T μ a w hr he _ => ⟨.int .i64 c, ?_, .d .int⟩, h⟩
    have h1 := he y _ hop hy
    generalize hv : a.eval y = v at h1
    cases h1 with
    | rowc =>
      have : ∀ A n, (Builtin.cap_ #[t] o.type #[.slice A n c]).run cx.P w = .ok (.int .i64 c) w := fun A n => by simp [Builtin.cap_, run_underlying hu, goInt]
      simp only [execOp, ho, resolve, invoke, builtin, Sem.run_bind, Sem.run_pure, Result.andThen_ok, List.map_toArray, List.map_cons, List.map_nil, hv, this]
  | _ => exact h.elim

/-! ### slices up to the capacity -/
def sl3V (P : Program) (t : TypeId) (x : AV) (ts : Nat → Option AV) (lo hi mx : Option Operand) (K : AV → Prop) : Prop :=
  (TL P t).ok = true ∧ ∃ e, (TL P t).selem = some e ∧ (TL P e).ok = true ∧ mx = none ∧
    match x with
    | .rowc i sz len c => optI ts lo 0 fun l => optI ts hi len fun h => sz = (TL P e).size ∧ 0 ≤ l ∧ l ≤ h ∧ h ≤ c ∧ (match lo with
      | none => K (.rowc i sz h.toNat c)
      | some _ => l < c ∧ K (.row i sz l.toNat (h.toNat - l.toNat)))
    | _ => False

theorem run_sliceD {P : Program} (w : World) (a : Act) (lo hi : Option Operand) (l h : Int) (len cap : Nat) (hl : OptOk a lo 0 l) (hh : OptOk a hi len h) (h0 : 0 ≤ l) (h1 : l ≤ h) (h2 : h ≤ cap) (hc : len ≤ cap) :
    (Instr.sliceBounds true len cap (lo.map a.eval) (hi.map a.eval) none).run P w = .ok (l.toNat, h.toNat, cap) w := by
  cases hi with
  | none =>
    simp only [OptOk] at hh
    exact run_sliceB w a lo none l h len cap hl hh h0 h1 (by omega) hc
  | some y =>
    have := run_sliceC (P := P) w a lo none y l h cap len cap hl hh rfl h0 h1 h2 (Int.le_refl _)
    simpa using this

theorem loc_slice3 {cx : Cx} {n0 : Nat} {ts : Nat → Option AV} {hs : Nat → Option Ob} {o : Oper} {t : TypeId} {y : Operand} {lo hi mx : Option Operand} {x : AV} {K : Eff → Prop} (hd : dstOk cx.n o.dst) (ho : o.op = .slice t y lo hi mx) (hy : getT ts y = some x)
    (h : sl3V cx.P t x ts lo hi mx fun x => K ⟨x, [], [], []⟩) : ∃ e, LocOp cx n0 ts hs o e ∧ K e := by
  obtain ⟨hok, e, hse, hoke, rfl, h⟩ := h
  have hu := TL_selem hok hse
  obtain ⟨i, _, h1, _, hsi, _⟩ := TL_ok hoke
  have hmy : y ∈ o.op.operands := by simp [Op.operands, ho]
  have hml : ∀ q, lo = some q → q ∈ o.op.operands := by rintro q rfl; simp [Op.operands, ho]
  have hmh : ∀ q, hi = some q → q ∈ o.op.operands := by rintro q rfl; simp [Op.operands, ho]
  cases x with
  | rowc q sz len c =>
    simp only at h
    obtain ⟨l, h, hl⟩ := optI_ok (cx := cx) h hml
    obtain ⟨hh, h, hh'⟩ := optI_ok (cx := cx) h hmh
    obtain ⟨e1, a0, a1, a2, h⟩ := h
    have run : ∀ (H : Nat → Option Ob) (μ : Mu) (a : Act) (w : World) (b : Nat), len ≤ c → (∀ y z, y ∈ o.op.operands → getT ts y = some z → Rep w (cx.Sta H μ w) μ z (a.eval y)) → a.eval y = .slice (some ⟨b, 0, none⟩) len c →
        (execOp a.eval o).run cx.P w = .ok (.value (.slice (if c = l.toNat then some ⟨b, 0, none⟩ else some ⟨b, l.toNat * i.size, none⟩) (hh.toNat - l.toNat) (c - l.toNat))) w := by
      intro H μ a w b hlc he hv
      have hb := run_sliceD (P := cx.P) w a lo hi l hh len c (hl H μ a w he) (hh' H μ a w he) a0 a1 a2 hlc
      simp only [execOp, ho, hv, Option.map_none]
      refine run_v ?_
      simp [Instr.sliceAt, run_underlying hu, Instr.slice, hb, sizeOf, typeInfo, h1, Addr_add]
    cases lo with
    | none =>
      simp only at h
      refine ⟨_, loc_val hd fun H T μ a w hr he _ => ?_, h⟩
      have hx := he y _ hmy hy
      have ol : l = 0 := hl H μ a w he
      subst ol
      generalize hv : a.eval y = v at hx
      cases hx with
      | rowc hb b2 b3 b4 b5 =>
        rename_i b arr tt
        have := run H μ a w b b3 he hv
        simp at this
        exact ⟨_, this, .rowc hb b2 (by omega) b4 b5⟩
    | some lo' =>
      simp only at h
      obtain ⟨hlc, hK⟩ := h
      refine ⟨_, loc_val hd fun H T μ a w hr he _ => ?_, hK⟩
      have hx := he y _ hmy hy
      generalize hv : a.eval y = v at hx
      cases hx with
      | rowc hb b2 b3 b4 b5 =>
        rename_i b arr tt
        have := run H μ a w b b3 he hv
        rw [if_neg (by omega)] at this
        have e2 : i.size = sz := by omega
        rw [e2] at this
        refine ⟨_, this, .row hb b2 (by omega) (by omega) ?_⟩
        rw [b5]; congr 1; omega
  | _ => exact h.elim

/-! ### append of so many zero values beyond the capacity: a new row, the old one stays -/
def apZ (P : Program) (hs : Nat → Option Ob) (t tn : TypeId) (x : AV) (n : Int) (K : Ob → Nat → Nat → List Nat → Prop) : Prop :=
  (TL P t).ok = true ∧ (TL P tn).ok = true ∧ (∃ k, (TL P tn).ik = some k) ∧ ∃ e, (TL P t).selem = some e ∧ 0 < (TL P e).size ∧ (TL P e).bytes ≤ 100000 ∧ ∃ z, (TL P e).zero = some z ∧ z.length = (TL P e).size ∧ ∃ zr, z.mapM toD = some zr ∧
      match x with
      | .rowc i sz len c => (match hs i with
        | some (.rows t' sz' rs) => t' = e ∧ sz = (TL P e).size ∧ sz' = sz ∧ len ≤ rs.length ∧ 0 ≤ n ∧ c < len + n ∧ len + n ≤ 1000000000 ∧ K (.rows e (TL P e).size (rs.take len ++ List.replicate n.toNat zr)) (TL P e).size (len + n.toNat) [i]
        | _ => False)
      | _ => False

theorem TL_ik {P : Program} {t : TypeId} {k : IntKind} (hok : (TL P t).ok = true) (h : (TL P t).ik = some k) : P.underlying t = some (.int k) := by
  obtain ⟨i, d, hi, hu, _⟩ := TL_ok hok
  unfold TL at h
  simp only [hi, hu] at h
  cases d <;> simp at h
  subst h; exact hu

theorem run_append_zeros {P : Program} (w : World) (t tn ty e : TypeId) (i : TypeInfo) (z : Value) (kn k : IntKind) (ht : P.underlying t = some (.slice e)) (htn : P.underlying tn = some (.int kn)) (hi : P.info? e = some i) (hz : i.zero = some z)
    (a : Addr) (n cap m : Nat) (olds : List Value) (hol : olds.length = n * i.size) (holds : ∀ j u, olds[j]? = some u → w.cell? (a.add j) = some u)
    (hm : 0 < m) (hs : 0 < i.size) (hcap : cap < n + m) (hmax : n + m ≤ 1000000000) (hby : i.bytes ≤ 100000) (hfits : Builtin.nextslicecap (n + m) cap * i.bytes ≤ 281474976710656) :
    (Builtin.append_ #[t, tn] ty #[.slice (some a) n cap, .int k m]).run P w = .ok (.slice (some ⟨w.heap.size, 0, none⟩) (n + m) (grownCap w (n + m) cap e)) (w.drew.alloc (.cells (olds.toArray ++ Builtin.zeroCells z.cells m ++ Builtin.zeroCells z.cells (grownCap w (n + m) cap e - (n + m))) e)) := by
  have hw : IntKind.i64.wrap (m : Int) = m := by rw [IntKind.wrap_i64]; omega
  have hn : ¬ (n + m ≤ cap) := by omega
  have hneg : ¬ ((m : Int) < 0) := by omega
  have hm0 : m ≠ 0 := by omega
  have hns : ¬ (m * i.size = 0) := Nat.mul_ne_zero hm0 (by omega)
  have h63' : ¬ (9223372036854775807 < ((n : Int) + (m : Int))) := by omega
  have h48' : ¬ (281474976710656 < Builtin.nextslicecap (n + m) cap * i.bytes) := by omega
  have h48i : ¬ (281474976710656 < (m : Int) * (i.bytes : Int)) := by
    rw [← Int.natCast_mul]
    have : m * i.bytes ≤ 1000000000 * 100000 := Nat.mul_le_mul (by omega) hby
    omega
  have hfo := run_firstCells_some (P := P) w.drew i.size n a n cap olds hol (by simpa using holds)
  simp [Builtin.append_, run_underlying ht, run_underlying htn, sizeOf, typeInfo, zeroValue, hi, hz, asInt, asIntOf, hw, hn, hneg, hns, hm0, h63', h48', h48i, Question.forced, hfo, newRow, grownCap]

theorem loc_appendZ {cx : Cx} {n0 : Nat} {ts : Nat → Option AV} {hs : Nat → Option Ob} {o : Oper} {t tn : TypeId} {y z : Operand} {x : AV} {k : IntKind} {n : Int} {K : Eff → Prop} (hd : dstOk cx.n o.dst)
    (ho : o.op = .call { callee := .builtin .append, args := #[y, z], argTypes := #[t, tn] }) (hy : getT ts y = some x) (hz : getT ts z = some (.d (.int k n)))
    (h : apZ cx.P hs t tn x n fun ob sz n rd => K ⟨.row n0 sz 0 n, [ob], [], rd⟩) : ∃ e, LocOp cx n0 ts hs o e ∧ K e := by
  obtain ⟨hok, hokn, ⟨kn, hkn⟩, e, hse, hsz, hby, zc, hzc, hzcl, zr, hzr, h⟩ := h
  have hu := TL_selem hok hse
  have hun := TL_ik hokn hkn
  obtain ⟨i, zv, h1, h2, h3, hsi, hoke, h4, h5⟩ := TL_zero hzc
  obtain ⟨m1, m2⟩ := mapM_get _ _ hzr
  obtain ⟨i', _, h1', _, _, _, hbi⟩ := TL_ok hoke
  rw [h1] at h1'; injection h1' with h1'; subst h1'
  have hzs : zv.cells.size = i.size := by omega
  have hmy : y ∈ o.op.operands := by simp [Op.operands, ho, Call.operands]
  have hmz : z ∈ o.op.operands := by simp [Op.operands, ho, Call.operands]
  cases x with
  | rowc q sz len c =>
    simp only at h
    split at h
    · rename_i t' sz' rs hob
      obtain ⟨rfl, e1, rfl, hlr, hn0', hlt, hmax, hK⟩ := h
      refine ⟨_, ?_, hK⟩
      intro H T μ a w K Q hr hT hH hn hk
      have hHq : H q = some (.rows t' sz' rs) := (hH q (.inl (by simp))).trans hob
      have hxv := hr.eval (fun t ht => hT t (ht ▸ hmy)) hy
      have hsv := hr.eval (fun t ht => hT t (ht ▸ hmz)) hz
      obtain ⟨m, rfl⟩ : ∃ m : Nat, n = m := ⟨n.toNat, by omega⟩
      simp only [Int.toNat_natCast] at hk hK ⊢
      have hip : 0 < i.size := by omega
      have e2 : sz' = i.size := by omega
      have hvz : a.eval z = .int k m := by
        generalize a.eval z = vz at hsv
        cases hsv with | d hsv => cases hsv; rfl
      generalize hvy : a.eval y = vy at hxv
      cases hxv with
      | rowc hb b2 b3 b4 b5 =>
        cases hr.ob q _ hHq with
        | rowsNil c1 _ => rw [hb] at c1; cases c1
        | rows c1 c2 c3 c4 c5 c6 =>
          rename_i b arr tt b' arr'
          rw [hb] at c1; injection c1 with c1; injection c1 with c1; subst c1
          rw [b2] at c2; injection c2 with c2; injection c2 with e3 e4; subst e3 e4
          subst e2
          have hlc : len * i.size ≤ arr.size := by rw [b5]; exact Nat.mul_le_mul_right _ b3
          have hol : (arr.toList.take (len * i.size)).length = len * i.size := by simp; omega
          have holds : ∀ j u, (arr.toList.take (len * i.size))[j]? = some u → w.cell? ((⟨b, 0, none⟩ : Addr).add j) = some u := by
            intro j u hj
            rw [List.getElem?_take] at hj
            split at hj
            · rw [Addr_add]; simp [World.cell?, b2]; simpa using hj
            · cases hj
          have hbytes : (len + m) * i.bytes ≤ 140737488355328 := by
            have : (len + m) * i.bytes ≤ 1000000000 * 100000 := Nat.mul_le_mul (by omega) (by omega)
            omega
          have hfits := growslice_fits (need := len + m) (old := c) (bytes := i.bytes) (by omega) hbytes
          have hrun := run_append_zeros (P := cx.P) w t tn o.type tt i zv kn k hu hun h1 h2 ⟨b, 0, none⟩ len c m (arr.toList.take (len * i.size)) hol holds (by omega) hip (by omega) (by omega) (by omega) hfits
          have hge := grownCap_ge w (len + m) c tt
          have hle := grownCap_le_maxLen w (len + m) c tt (by simp only [maxLen]; omega)
          generalize grownCap w (len + m) c tt = c' at hrun hge hle
          generalize harr2 : (arr.toList.take (len * i.size)).toArray ++ Builtin.zeroCells zv.cells m ++ Builtin.zeroCells zv.cells (c' - (len + m)) = arr2 at hrun
          have hnl : (Builtin.zeroCells zv.cells m).toList.length = (List.replicate m zr).length * i.size := by simp [size_zeroCells, hzs]
          have e8 : arr2.size = c' * i.size := by
            rw [← harr2]
            simp only [Array.size_append, List.size_toArray, size_zeroCells, hzs, hol, ← Nat.add_mul]
            congr 1; omega
          have e9 : arr2.toList.take ((len + m) * i.size) = arr.toList.take (len * i.size) ++ (Builtin.zeroCells zv.cells m).toList := by
            rw [← harr2]
            simp only [Array.toList_append]
            have : (len + m) * i.size = (arr.toList.take (len * i.size) ++ (Builtin.zeroCells zv.cells m).toList).length := by rw [List.length_append, hol, hnl]; simp [Nat.add_mul]
            rw [this]
            exact List.take_left
          have hex : (execOp a.eval o).run cx.P w = .ok (.value (.slice (some ⟨w.heap.size, 0, none⟩) (len + m) c')) (w.drew.alloc (.cells arr2 tt)) := by
            simp only [execOp, ho, resolve, invoke, builtin, Sem.run_bind, Sem.run_pure, Result.andThen_ok, List.map_toArray, List.map_cons, List.map_nil, hvy, hvz, hrun]
          unfold Oper.wp
          rw [hex]
          have hn0 : μ n0 = none := hn 0 (by simp)
          have hrl : ∀ r ∈ rs.take len, r.length = i.size := by
            intro r hr'
            obtain ⟨j, hj⟩ := List.mem_iff_getElem?.1 (List.mem_of_mem_take hr')
            exact c5 j r hj
          have hrn : (rs.take len).length = len := by simp; omega
          have hrep : ∀ (k j : Nat) (r : List D) (x : D) (u : Value), (rs.take len)[k]? = some r → r[j]? = some x → (arr.toList.take (len * i.size))[k * i.size + j]? = some u → RepD w (cx.Sta H μ w) x u := by
            intro k j r x u hk' hj hu
            rw [List.getElem?_take] at hk' hu
            split at hk'
            · split at hu
              · exact c6 k j r x u hk' hj (by simpa using hu)
              · cases hu
            · cases hk'
          have hsl : ∀ r ∈ List.replicate m zr, r.length = i.size := by
            intro r hr'; rw [List.eq_of_mem_replicate hr']; omega
          have hnrep : ∀ (p j : Nat) (r : List D) (x : D) (u : Value), (List.replicate m zr)[p]? = some r → r[j]? = some x → (Builtin.zeroCells zv.cells m).toList[p * i.size + j]? = some u → RepD w (cx.Sta H μ w) x u := by
            intro p j r y' u hp hj hu'
            have hpl : p < m := by have := (List.getElem?_eq_some_iff.1 hp).1; simpa using this
            have hrz : r = zr := by rw [List.getElem?_replicate, if_pos hpl] at hp; injection hp with hp; exact hp.symm
            subst hrz
            have hjl : j < zv.cells.size := by have := (List.getElem?_eq_some_iff.1 hj).1; omega
            rw [← hzs, zeroCells_get _ _ _ _ hpl hjl] at hu'
            have hjz : j < zc.length := by omega
            have htd := m2 j zc[j] y' (List.getElem?_eq_getElem hjz) hj
            exact toD_rep htd (h4 w (cx.Sta H μ w) μ j zc[j] u (List.getElem?_eq_getElem hjz) hu')
          have hall : ∀ (q : Nat) (r : List D), (rs.take len ++ List.replicate m zr)[q]? = some r → r.length = i.size := by
            intro q r hq
            rcases List.mem_append.1 (List.mem_of_getElem? hq) with h | h
            · exact hrl r h
            · exact hsl r h
          rw [hsi] at hk
          have hev : Ev w (w.drew.alloc (.cells arr2 tt)) (fun _ => False) := by
            have hq := Ev.alloc w.drew (.cells arr2 tt)
            exact ⟨hq.os, hq.tape, hq.output, hq.size, hq.block, hq.shape⟩
          have hnewb : (w.drew.alloc (.cells arr2 tt)).heap[w.heap.size]? = some (.cells arr2 tt (0, 0)) := alloc_new w.drew _
          have hlen : (len + m) * i.size ≤ arr2.size := by rw [e8]; exact Nat.mul_le_mul_right _ hge
          have hcells := rows_of_take (m := m) (S := cx.Sta H μ w) (w := w) hip e9 hlen hrn (by simp) hol (by rw [hnl]; simp) hrl hsl hrep hnrep
          have key := hr.fresh hn0 (.rows tt i.size (rs.take len ++ List.replicate m zr)) (.row n0 i.size 0 (len + m)) [q] hev (b := w.heap.size) ⟨Nat.le_refl _, heap_lt hnewb⟩
            (fun S' hS => .rows (by simp [setMu]) hnewb hip (by simp only [List.length_append, hrn, List.length_replicate]; exact hlen) hall (fun k j r x u hk' hj hu => (hcells k j r x u hk' hj hu).evolve hev (fun _ h => h.elim) hS))
          refine hk _ _ _ (key.2.putD hd ?_) (fun p x hx => ?_) (fun p hp => ?_)
          · have := Rep.row (w := w.drew.alloc (.cells arr2 tt)) (S := cx.Sta (appH n0 ⟨.row n0 i.size 0 (len + m), [.rows tt i.size (rs.take len ++ List.replicate m zr)], [], [q]⟩ H) (setMu μ n0 (some w.heap.size)) (w.drew.alloc (.cells arr2 tt))) (μ := setMu μ n0 (some w.heap.size)) (i := n0) (sz := i.size) (o := 0) (len := len + m) (b := w.heap.size) (c := c')
              (by simp [setMu]) hnewb hge hle (by rw [e8]; simp)
            simpa using this
          · have : p ≠ n0 := by rintro rfl; rw [hn0] at hx; cases hx
            simp [setMu, this, hx]
          · by_cases hqn : p = n0
            · subst hqn; exact .inr (by simp)
            · simp [setMu, hqn] at hp; exact .inl hp
    · exact h.elim
  | _ => exact h.elim
end Go.Proofs.Ytpkiabhlmjnemaa
