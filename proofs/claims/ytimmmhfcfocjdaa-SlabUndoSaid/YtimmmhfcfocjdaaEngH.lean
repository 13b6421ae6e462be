/- Engine, part H: slices that the call makes. -/
import Derived.Test.YtimmmhfcfocjdaaEngG
set_option linter.unusedSimpArgs false
set_option linter.unusedVariables false
namespace Go.Proofs.Ytimmmhfcfocjdaa
open Go.RowKit

def chunks (sz : Nat) : Nat → List D → List (List D)
  | 0, _ => []
  | n + 1, l => l.take sz :: chunks sz n (l.drop sz)

theorem chunks_len (sz : Nat) : ∀ (n : Nat) (l : List D), (chunks sz n l).length = n
  | 0, _ => rfl
  | n + 1, l => by simp [chunks, chunks_len sz n]
theorem chunks_get (sz : Nat) : ∀ (n : Nat) (l : List D) (k : Nat) (r : List D), l.length = n * sz → (chunks sz n l)[k]? = some r → r.length = sz ∧ ∀ j, j < sz → r[j]? = l[k * sz + j]?
  | 0, _, _, _, _, h => by simp [chunks] at h
  | n + 1, l, k, r, hl, h => by
    rw [Nat.add_mul, Nat.one_mul] at hl
    cases k with
    | zero =>
      simp [chunks] at h; subst h
      refine ⟨by simp; omega, fun j hj => by simp [List.getElem?_take, hj]⟩
    | succ k =>
      simp [chunks] at h
      obtain ⟨h1, h2⟩ := chunks_get sz n (l.drop sz) k r (by simp; omega) h
      refine ⟨h1, fun j hj => ?_⟩
      rw [h2 j hj, List.getElem?_drop, Nat.add_mul, Nat.one_mul]
      congr 1; omega

theorem flat_rep {α : Type} (z : List α) : ∀ (n j : Nat), j < n * z.length → ((List.replicate n z).flatten)[j]? = z[j % z.length]?
  | 0, j, h => by simp at h
  | n + 1, j, h => by
    rw [List.replicate_succ, List.flatten_cons]
    rw [Nat.add_mul, Nat.one_mul] at h
    by_cases hj : j < z.length
    · rw [List.getElem?_append_left hj, Nat.mod_eq_of_lt hj]
    · rw [List.getElem?_append_right (by omega), flat_rep z n (j - z.length) (by omega), ← Nat.mod_eq_sub_mod (by omega)]

/-- a new row of pure data in a new block -/
theorem loc_newrows {cx : Cx} {n0 : Nat} {ts : Nat → Option AV} {hs : Nat → Option Ob} {o : Oper} {t : TypeId} {sz : Nat} {rs : List (List D)} (hd : dstOk cx.n o.dst) (hsz : 0 < sz) (hrl : ∀ (k : Nat) (r : List D), rs[k]? = some r → r.length = sz) (hm : rs.length ≤ maxLen)
    (h : ∀ (H : Nat → Option Ob) (T : Nat → Option AV) (μ : Mu) (a : Act) (w : World), RR cx H T μ a w → (∀ y z, y ∈ o.op.operands → getT ts y = some z → Rep w (cx.Sta H μ w) μ z (a.eval y)) →
      ∃ (arr : Array Value) (w1 : World), (execOp a.eval o).run cx.P w = .ok (.value (.slice (some ⟨w.heap.size, 0, none⟩) rs.length rs.length)) w1 ∧ Ev w w1 (fun _ => False) ∧ w1.heap[w.heap.size]? = some (.cells arr t (0, 0)) ∧ arr.size = rs.length * sz ∧
        (∀ (k j : Nat) (r : List D) (x : D) (v : Value), rs[k]? = some r → r[j]? = some x → arr[k * sz + j]? = some v → RepD w (cx.Sta H μ w) x v)) :
    LocOp cx n0 ts hs o ⟨.row n0 sz 0 rs.length, [.rows t sz rs], [], []⟩ := by
  intro H T μ a w K Q hr hT hH hn hK
  obtain ⟨arr, w1, h1, hev, hb, h2, h3⟩ := h H T μ a w hr (fun y z hy hz => hr.eval (fun t ht => hT t (ht ▸ hy)) hz)
  unfold Oper.wp
  rw [h1]
  have hn0 : μ n0 = none := hn 0 (by simp)
  have hμ : ∀ i x, μ i = some x → setMu μ n0 (some w.heap.size) i = some x := by
    intro i x hx
    have : i ≠ n0 := by rintro rfl; rw [hn0] at hx; cases hx
    simp [setMu, this, hx]
  have key := hr.fresh hn0 (.rows t sz rs) (.row n0 sz 0 rs.length) [] hev (b := w.heap.size) ⟨Nat.le_refl _, heap_lt hb⟩
    (fun S' hS => .rows (by simp [setMu]) hb hsz (by omega) hrl (fun k j r x v hr hx hv => (h3 k j r x v hr hx hv).evolve hev (fun _ h => h.elim) hS))
  have hrow : Rep w1 (cx.Sta (appH n0 ⟨.row n0 sz 0 rs.length, [.rows t sz rs], [], []⟩ H) (setMu μ n0 (some w.heap.size)) w1) (setMu μ n0 (some w.heap.size)) (.row n0 sz 0 rs.length) (.slice (some ⟨w.heap.size, 0, none⟩) rs.length rs.length) := by
    have := Rep.row (w := w1) (S := cx.Sta (appH n0 ⟨.row n0 sz 0 rs.length, [.rows t sz rs], [], []⟩ H) (setMu μ n0 (some w.heap.size)) w1) (μ := setMu μ n0 (some w.heap.size)) (i := n0) (sz := sz) (o := 0) (len := rs.length) (b := w.heap.size) (c := rs.length) (by simp [setMu]) hb (Nat.le_refl _) hm (by rw [h2]; simp)
    simpa using this
  refine hK _ _ _ (key.2.putD hd hrow) hμ (fun i hi => ?_)
  by_cases hin : i = n0
  · subst hin; exact .inr (by simp)
  · simp [setMu, hin] at hi; exact .inl hi

def bsV (P : Program) (t : TypeId) (len : Nat) (ps : List (Nat × AV)) (K : Ob → Nat → Prop) : Prop :=
  (TL P t).ok = true ∧ ∃ e, (TL P t).selem = some e ∧ 0 < (TL P e).size ∧ len * (TL P e).size ≤ 16777216 ∧ ∃ z, (TL P e).zero = some z ∧ z.length = (TL P e).size ∧
    ∃ cs, fillA (fun i => some (i * (TL P e).size, (TL P e).size)) ((List.replicate len z).flatten) ps = some cs ∧ ∃ ds, cs.mapM toD = some ds ∧ K (.rows e (TL P e).size (chunks (TL P e).size len ds)) (TL P e).size

theorem fillA_len {pl : Nat → Option (Nat × Nat)} : ∀ {ps : List (Nat × AV)} {cs cs' : List AV}, fillA pl cs ps = some cs' → cs'.length = cs.length
  | [], cs, cs', h => by simp [fillA] at h; rw [h]
  | (i, x) :: ps, cs, cs', h => by
    simp only [fillA] at h
    split at h
    · split at h
      · rename_i hc; rw [fillA_len h, splice_length _ _ _ hc.2]
      · cases h
    · cases h

theorem loc_buildSlice {cx : Cx} {n0 : Nat} {ts : Nat → Option AV} {hs : Nat → Option Ob} {o : Oper} {t : TypeId} {len : Nat} {parts : Array (Nat × Operand)} {ps : List (Nat × AV)} {K : Eff → Prop} (hd : dstOk cx.n o.dst) (ho : o.op = .buildSlice t len parts)
    (hp : getP ts parts.toList = some ps) (h : bsV cx.P t len ps fun ob sz => K ⟨.row n0 sz 0 len, [ob], [], []⟩) : ∃ e, LocOp cx n0 ts hs o e ∧ K e := by
  obtain ⟨hok, e, hse, hsz, hmax, z, hz, hzl, cs, hf, ds, hds, hK⟩ := h
  have hu := TL_selem hok hse
  obtain ⟨i, zv, h1, h2, h3, hsi, _, h4, h5⟩ := TL_zero hz
  obtain ⟨gl, gg⟩ := getP_get hp
  have hcl := fillA_len hf
  have hcl2 : cs.length = len * (TL cx.P e).size := by rw [hcl]; simp [hzl]
  obtain ⟨dl, dg⟩ := mapM_get _ _ hds
  have hcl3 : ds.length = len * (TL cx.P e).size := by omega
  have hlen : len ≤ 16777216 := Nat.le_trans (by exact Nat.le_mul_of_pos_right len hsz) hmax
  have key := loc_newrows (cx := cx) (n0 := n0) (ts := ts) (hs := hs) (o := o) (t := e) (sz := (TL cx.P e).size) (rs := chunks (TL cx.P e).size len ds) hd hsz (fun k r hr => (chunks_get _ _ _ k r hcl3 hr).1) (by rw [chunks_len]; unfold maxLen; omega) ?_
  · rw [chunks_len] at key; exact ⟨_, key, hK⟩
  · intro H T μ a w hr he
    have hzs : zv.cells.size = (TL cx.P e).size := by omega
    obtain ⟨arr', h6, h7⟩ := fill_rep (w := w) (S := cx.Sta H μ w) (μ := μ) (pl := fun i => some (i * (TL cx.P e).size, (TL cx.P e).size)) (ps := ps) (qs := (parts.map fun (i, x) => (i, a.eval x)).toList) (cs := (List.replicate len z).flatten)
      (arr := (Array.range (len * (TL cx.P e).size)).map (zv.cells[· % zv.cells.size]!)) ⟨by simp [hzl], fun j x v hx hv => by
          have hj : j < len * (TL cx.P e).size := by
            have := (Array.getElem?_eq_some_iff.1 hv).1; simpa using this
          rw [flat_rep z len j (by rw [hzl]; exact hj)] at hx
          have hm : j % zv.cells.size < zv.cells.size := Nat.mod_lt _ (by omega)
          refine h4 _ _ _ (j % z.length) x v hx ?_
          simp [hj] at hv
          have e1 : z.length = zv.cells.size := by omega
          rw [e1, ← hv]
          simp [hm], fun v hv => by
          simp at hv
          obtain ⟨q, hq, rfl⟩ := hv
          have hm : q % zv.cells.size < zv.cells.size := Nat.mod_lt _ (by omega)
          simp [hm]
          exact h5 _ (by simp)⟩ (by simp; simp at gl; omega) (by
      intro j i1 i2 x v hx hv
      simp only [Array.toList_map, List.getElem?_map] at hv
      cases hq : parts.toList[j]? with
      | none => simp [hq] at hv
      | some q =>
        obtain ⟨i3, y⟩ := q
        simp [hq] at hv
        obtain ⟨rfl, rfl⟩ := hv
        obtain ⟨rfl, hg⟩ := gg j i3 i1 y x hq hx
        refine ⟨rfl, he y x ?_ hg⟩
        simp only [Op.operands, ho]
        have hm : (i1, y) ∈ parts.toList := List.mem_of_getElem? hq
        simp only [List.mem_toArray, List.mem_map]
        exact ⟨_, hm, rfl⟩) hf
    refine ⟨arr', w.alloc (.cells arr' e), ?_, Ev.alloc w _, alloc_new w _, by rw [chunks_len, h7.1]; omega, ?_⟩
    · rw [chunks_len]
      simp only [execOp, ho]
      refine run_v ?_
      have hne : ¬ len * i.size = 0 ∨ len = 0 := by
        rcases Nat.eq_zero_or_pos len with h | h
        · exact .inr h
        · exact .inl (Nat.ne_of_gt (Nat.mul_pos h (by omega)))
      have hle : ¬ 16777216 < len * i.size := by rw [← hsi]; omega
      rw [hsi] at h6
      unfold Instr.buildSlice
      simp only [Sem.run_bind, run_underlying hu, Result.andThen_ok, sizeOf, typeInfo, run_program, h1, Sem.run_pure]
      rcases hne with hne | rfl
      · have h6' : Instr.fill (fun i_1 => some (i_1 * i.size, i.size)) (Array.map (fun x => zv.cells[x % zv.cells.size]!) (Array.range (len * i.size))) (List.map (fun x => (x.fst, a.eval x.snd)) parts.toList) = some arr' := by simpa using h6
        simp [hle, hne, zeroValue, typeInfo, h1, h2, newRow, newObj]
        rw [h6']; rfl
      · have h6' : Instr.fill (fun i_1 => some (i_1 * i.size, i.size)) #[] (List.map (fun x => (x.fst, a.eval x.snd)) parts.toList) = some arr' := by
          have e0 : (Array.map (fun x => zv.cells[x % zv.cells.size]!) (Array.range (0 * i.size))) = #[] := by simp [Array.range]
          rw [e0] at h6; simpa using h6
        have e1 : (Array.map (fun _ => (default : Value)) (Array.range 0)) = #[] := by simp [Array.range]
        simp [newRow, newObj]
        rw [e1, h6']; rfl
    · intro k j r x v hr' hx hv
      obtain ⟨u1, u2⟩ := chunks_get _ _ _ k r hcl3 hr'
      have hj : j < (TL cx.P e).size := by rw [← u1]; exact (List.getElem?_eq_some_iff.1 hx).1
      rw [u2 j hj] at hx
      have hlt : k * (TL cx.P e).size + j < cs.length := by
        have := (List.getElem?_eq_some_iff.1 hx).1; omega
      exact toD_rep (dg _ _ x (List.getElem?_eq_getElem hlt) hx) (h7.2.1 _ _ v (List.getElem?_eq_getElem hlt) hv)

/-! ### make -/
def mkV (P : Program) (t : TypeId) (l c : AV) (K : Ob → Nat → Nat → Prop) : Prop :=
  match l, c with
  | .d (.int _ a), .d (.int _ b) => a = b ∧ (TL P t).ok = true ∧ ∃ e, (TL P t).selem = some e ∧ 0 < (TL P e).size ∧ ∃ z, (TL P e).zero = some z ∧ z.length = (TL P e).size ∧ ∃ zr, z.mapM toD = some zr ∧ 0 ≤ a ∧ a ≤ 1000000000 ∧ (TL P e).bytes ≤ 100000 ∧
      K (.rows e (TL P e).size (List.replicate a.toNat zr)) (TL P e).size a.toNat
  | _, _ => False

theorem loc_makeSlice {cx : Cx} {n0 : Nat} {ts : Nat → Option AV} {hs : Nat → Option Ob} {o : Oper} {t : TypeId} {y y' : Operand} {l c : AV} {K : Eff → Prop} (hd : dstOk cx.n o.dst) (ho : o.op = .makeSlice t y y')
    (hy : getT ts y = some l) (hy' : getT ts y' = some c) (h : mkV cx.P t l c fun ob sz n => K ⟨.row n0 sz 0 n, [ob], [], []⟩) : ∃ e, LocOp cx n0 ts hs o e ∧ K e := by
  unfold mkV at h
  split at h
  · rename_i k a k' b
    obtain ⟨rfl, hok, e, hse, hsz, z, hz, hzl, zr, hzr, h0, hmax, hby, hK⟩ := h
    have hu := TL_selem hok hse
    obtain ⟨i, zv, h1, h2, h3, hsi, hoke, h4, h5⟩ := TL_zero hz
    obtain ⟨dl, dg⟩ := mapM_get _ _ hzr
    obtain ⟨i', _, h1', _, _, _, hbi⟩ := TL_ok hoke
    rw [h1] at h1'; injection h1' with h1'; subst h1'
    have hzs : zv.cells.size = (TL cx.P e).size := by omega
    obtain ⟨n, rfl⟩ := Int.eq_ofNat_of_zero_le h0
    have key := loc_newrows (cx := cx) (n0 := n0) (ts := ts) (hs := hs) (o := o) (t := e) (sz := (TL cx.P e).size) (rs := List.replicate n zr) hd hsz (fun k r hr => by
        obtain ⟨_, rfl⟩ := List.getElem?_eq_some_iff.1 hr; simp; omega) (by simp [maxLen]; omega) ?_
    · simp only [List.length_replicate] at key; exact ⟨_, key, by simpa using hK⟩
    · intro H T μ a w hr he
      have e1 := he y _ (by simp [Op.operands, ho]) hy
      have e2 := he y' _ (by simp [Op.operands, ho]) hy'
      generalize hv1 : a.eval y = v1 at e1
      generalize hv2 : a.eval y' = v2 at e2
      cases e1 with | d e1 => cases e1; cases e2 with | d e2 =>
        cases e2
        obtain ⟨w1, hrun, hown, hg⟩ := run_make_full (P := cx.P) w 0 t e i zv (TL cx.P e).size hu h1 h2 hsi.symm k k' n (by
          have : i.bytes * n ≤ 100000 * 1000000000 := Nat.mul_le_mul (by omega) (by omega)
          omega) (by simp [maxLen]; omega) (Nat.zero_le _)
        obtain ⟨o1, o2⟩ := hown
        rcases o2 with ⟨o2, _⟩ | ⟨g, cap, cur, o2, o3, o4, o5, o6, o7, o8⟩
        · cases o2
        · simp only [Value.slice.injEq, Option.some.injEq, Addr.mk.injEq, and_true, true_and] at o2
          obtain ⟨rfl, rfl⟩ := o2
          refine ⟨cur, w1, ?_, ⟨hg.os, hg.tape, hg.output, hg.size, fun b hb _ => hg.block b hb (by simp), fun _ _ _ _ h => h.elim⟩, o4, by simp [o7], ?_⟩
          · simp only [execOp, ho, hv1, hv2, List.length_replicate]
            exact run_v hrun
          · intro k j r x v hr' hx hv
            have hk : k < n := by have := (List.getElem?_eq_some_iff.1 hr').1; simpa using this
            have : r = zr := by simp [List.getElem?_replicate, hk] at hr'; exact hr'.symm
            subst this
            have hj : j < (TL cx.P e).size := by have := (List.getElem?_eq_some_iff.1 hx).1; omega
            have hkn : (k + 1) * (TL cx.P e).size ≤ n * (TL cx.P e).size := Nat.mul_le_mul_right _ hk
            rw [Nat.add_mul, Nat.one_mul] at hkn
            have hcur : cur.toList = (madeCells zv.cells (n * (TL cx.P e).size)).toList := by
              rw [← o8, List.take_of_length_le (by simp [o7])]
            have hv' : cur.toList[k * (TL cx.P e).size + j]? = some v := by simpa using hv
            rw [hcur] at hv'
            have hm : (k * (TL cx.P e).size + j) % zv.cells.size = j := by
              rw [hzs, Nat.add_comm, Nat.add_mul_mod_self_right, Nat.mod_eq_of_lt hj]
            have hj' : j < zv.cells.size := by omega
            have hlt : k * (TL cx.P e).size + j < n * (TL cx.P e).size := by omega
            simp [madeCells, hlt, hm, hj'] at hv'
            have hjz : j < z.length := by omega
            exact toD_rep (dg j z[j] x (List.getElem?_eq_getElem hjz) hx) (h4 w (cx.Sta H μ w) μ j z[j] v (List.getElem?_eq_getElem hjz) (by simp [hj', hv']))
  · exact h.elim
end Go.Proofs.Ytimmmhfcfocjdaa
