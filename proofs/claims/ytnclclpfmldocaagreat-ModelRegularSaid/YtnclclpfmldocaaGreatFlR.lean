/- maps.Keys of a map of words: the iterator hands out each key once. -/
import Derived.Test.YtnclclpfmldocaaGreatFlQ
import Derived.Test.YtnclclpfmldocaaGreatFlP
namespace Go.Proofs.YtnclclpfmldocaaGreat
open Go.RowKit Go.Shelf Go.ChangeMaps
attribute [local go_sem] Oper.semAt_some
set_option linter.unusedSimpArgs false
set_option linter.unusedVariables false

theorem wpListIn_run {F : Fence} {n : Nat} {P : Program} {w : World} {ops : Array Oper} {rest : List Oper} {o : Oper} {a : Act} {Q : Exit → Act → World → Prop} (hg : o.guard = none) (hd : ∀ c, o.op ≠ .defer c)
    (hab : ∀ f, o.about P w a.eval = some f → F.fn f) {v : Value} {w' : World} (hrun : (execOp a.eval o).run P w = .ok (.value v) w') (h : wpListIn F n P ops Q rest (a.put o.dst v) w') : wpListIn F n P ops Q (o :: rest) a w := by
  refine wpListIn_plain hg fun K hK' => ?_
  unfold Oper.wpIn
  refine ⟨hab, ?_⟩
  rw [Oper.semAt_eq F.round _ _ hd, hrun]
  exact hK' _ _ h
theorem OnlyK.setBlock {K : Nat → Prop} {A : World} {r : Nat} (h : K r) (o : Obj) : OnlyK K A (setBlock A r o) :=
  ⟨rfl, rfl, rfl, by simp [ChangeMaps.setBlock], fun k _ hk => by
    show (A.heap.setIfInBounds r o)[k]? = _
    rw [Array.getElem?_setIfInBounds, if_neg (fun e : r = k => hk (e ▸ h))]⟩
theorem OnlyK.trans {K : Nat → Prop} {A B C : World} (h : OnlyK K A B) (k : OnlyK K B C) : OnlyK K A C :=
  ⟨k.os.trans h.os, k.tape.trans h.tape, k.output.trans h.output, Nat.le_trans h.size k.size, fun j hj hk => (k.block j (Nat.lt_of_lt_of_le hj h.size) hk).trans (h.block j hj hk)⟩
def kA (k : K3) : Array Value := #[vK k]
def kys (l : List Me) : List K3 := l.map fun x => ck3 x.1
structure KyPre (n₀ : Nat → Prop) (g b : Nat) (l : List Me) (ck : Nat) (W : World) : Prop where
  box : Blk W g 145 #[.map (some b)]
  map : W.heap[b]? = some (.map (l.map ent).toArray ck)
  gn : n₀ g
  bn : n₀ b
/-- the entries that have come -/
structure Came (l m : List Me) : Prop where
  nd : (m.map (·.2)).Nodup
  sub : ∀ x ∈ m, x ∈ l
theorem nodup_of_map {α β : Type} {f : α → β} {l : List α} (h : (l.map f).Nodup) : l.Nodup := by
  induction l with
  | nil => exact List.nodup_nil
  | cons a l ih =>
    rw [List.map_cons, List.nodup_cons] at h
    exact List.nodup_cons.2 ⟨fun ha => h.1 (List.mem_map_of_mem ha), ih h.2⟩
theorem Came.snoc {l m : List Me} (h : Came l m) {x : Me} (hx : x ∈ l) (hs : x.2 ∉ m.map (·.2)) : Came l (m ++ [x]) := by
  refine ⟨?_, fun y hy => ?_⟩
  · rw [List.map_append, List.nodup_append]
    refine ⟨h.nd, by simp, fun a ha b hb e => ?_⟩
    simp at hb
    subst hb
    exact hs (e ▸ ha)
  · rcases List.mem_append.1 hy with hy | hy
    · exact h.sub y hy
    · simp at hy; exact hy ▸ hx
theorem Came.perm {l m : List Me} {ck : Nat} (hM : Mok l ck) (h : Came l m) (ha : ∀ x ∈ l, x.2 ∈ m.map (·.2)) : m.Perm l := by
  refine (List.perm_ext_iff_of_nodup (nodup_of_map h.nd) (nodup_of_map hM.sn)).2 fun x => ⟨h.sub x, fun hx => ?_⟩
  obtain ⟨y, hy, e⟩ := List.mem_map.1 (ha x hx)
  rwa [← nodup_inj hM.sn (h.sub y hy) hx e]
theorem Came.ext {l m : List Me} {ck : Nat} (hM : Mok l ck) (h : Came l m) : ∃ r : List Me, (m ++ r).Perm l := by
  refine ⟨l.filter fun y => decide (y.2 ∉ m.map (·.2)), ?_⟩
  refine Came.perm hM ⟨?_, fun x hx => ?_⟩ fun x hx => ?_
  · rw [List.map_append, List.nodup_append]
    refine ⟨h.nd, hM.sn.sublist (List.filter_sublist.map _), fun a ha b hb e => ?_⟩
    obtain ⟨y, hy, rfl⟩ := List.mem_map.1 hb
    have := (List.mem_filter.1 hy).2
    simp only [decide_eq_true_eq] at this
    exact this (e ▸ ha)
  · rcases List.mem_append.1 hx with hx | hx
    · exact h.sub x hx
    · exact (List.mem_filter.1 hx).1
  · by_cases hm : x.2 ∈ m.map (·.2)
    · rw [List.map_append]; exact List.mem_append_left _ hm
    · rw [List.map_append]; exact List.mem_append_right _ (List.mem_map_of_mem (List.mem_filter.2 ⟨hx, by simpa using hm⟩))
def itLeft (l : List Me) (r : Nat) (w : World) : Nat := match w.heap[r]? with
  | some (.mapIter _ _ seen _) => unsn l seen.toList
  | _ => 0
theorem itLeft_at {l : List Me} {r : Nat} {w : World} {m : Option Nat} {s c : Nat} {seen : List Nat} (h : w.heap[r]? = some (.mapIter m s seen.toArray c)) : itLeft l r w = unsn l seen := by
  unfold itLeft; rw [h]

section
variable {F : Fence} {n : Nat} {w : World} {ops : Array Oper} {rest : List Oper} {o : Oper} {a : Act} {Q : Exit → Act → World → Prop} {r : Operand} {b r0 ck c0 since : Nat} {l : List Me} {seen : List Nat}
theorem wpListIn_mrange (hg : o.guard = none) (ho : o.op = .range 145 r) (hm : a.eval r = .map (some b)) (hb : w.heap[b]? = some (.map (l.map ent).toArray ck))
    (h : wpListIn F n Tryz.prog ops Q rest (a.put o.dst (.pointer (some ⟨w.heap.size, 0, none⟩))) (w.alloc (.mapIter (some b) ck #[] ck))) : wpListIn F n Tryz.prog ops Q (o :: rest) a w := by
  have hu := Tryz.underlying145
  refine wpListIn_run hg (fun c h => by rw [ho] at h; cases h) (fun f hf => by simp [Oper.about, ho] at hf) ?_ h
  simp only [execOp, ho, hm]
  refine run_v ?_
  unfold Instr.range
  simp only [Sem.run_bind, run_underlying hu, Result.andThen_ok, gmap hb]
  rfl
theorem wpListIn_mentry {x : Me} (hg : o.guard = none) (ho : o.op = .entry r) (hm : a.eval r = .pointer (some ⟨r0, 0, none⟩)) (hr : w.heap[r0]? = some (.mapIter (some b) since (seen ++ [x.2]).toArray ck)) (hb : w.heap[b]? = some (.map (l.map ent).toArray ck))
    (hx : x ∈ l) (hnd : (l.map (·.2)).Nodup) (h : wpListIn F n Tryz.prog ops Q rest (a.put o.dst (.tuple #[.agg #[.int .i64 x.1.1, .int .i64 x.1.2.1, .int .i64 x.1.2.2.1], vV x.1.2.2.2])) w) : wpListIn F n Tryz.prog ops Q (o :: rest) a w := by
  refine wpListIn_run hg (fun c h => by rw [ho] at h; cases h) (fun f hf => by simp [Oper.about, ho] at hf) ?_ h
  simp only [execOp, ho, hm]
  exact run_v (run_entry_at (P := Tryz.prog) w r0 b since seen.toArray (l.map ent).toArray ck (ent x) (by simpa [ent] using hr) hb (by rw [List.toList_toArray]; exact List.mem_map_of_mem hx) (by simpa [Function.comp_def, ent] using hnd))
theorem wpListIn_mnext (hg : o.guard = none) (ho : o.op = .next r false) (hm : a.eval r = .pointer (some ⟨r0, 0, none⟩)) (hr : w.heap[r0]? = some (.mapIter (some b) since seen.toArray c0)) (hb : w.heap[b]? = some (.map (l.map ent).toArray ck))
    (hold : ∀ x ∈ l, x.2 < since) (hsc : since ≤ c0)
    (hover : (∀ x ∈ l, x.2 ∈ seen) → wpListIn F n Tryz.prog ops Q rest (a.put o.dst (.tuple #[.bool false])) w)
    (hnext : ∀ x w2, Lft l seen x → (∀ K : Nat → Prop, K r0 → OnlyK K w w2) → w2.heap[r0]? = some (.mapIter (some b) since (seen ++ [x.2]).toArray ck) → w2.heap[b]? = some (.map (l.map ent).toArray ck) → wpListIn F n Tryz.prog ops Q rest (a.put o.dst (.tuple #[.bool true, vK (ck3 x.1), vV x.1.2.2.2])) w2) : wpListIn F n Tryz.prog ops Q (o :: rest) a w := by
  rcases run_next_at (P := Tryz.prog) w o.type r0 b since c0 seen.toArray (l.map ent).toArray ck hr hb (by rw [List.toList_toArray]; intro y hy; obtain ⟨z, hz, rfl⟩ := List.mem_map.1 hy; exact hold z hz) hsc with ⟨hz, hrun⟩ | ⟨e, he, w1, hw1, hrun⟩
  · refine wpListIn_run hg (fun c h => by rw [ho] at h; cases h) (fun f hf => by simp [Oper.about, ho] at hf) ?_ (hover fun x hx => ?_)
    · simp only [execOp, ho, hm]; exact run_v hrun
    · have h0 := Array.eq_empty_of_size_eq_zero hz
      unfold leftOf at h0
      rw [Array.filter_eq_empty_iff] at h0
      have := h0 (ent x) (by rw [List.mem_toArray]; exact List.mem_map_of_mem hx)
      simpa [ent] using this
  · obtain ⟨x, hx, rfl, hns⟩ : ∃ x : Me, x ∈ l ∧ ent x = e ∧ x.2 ∉ seen := by
      unfold leftOf at he
      simp only [Array.toList_filter, List.mem_filter, List.toList_toArray, List.mem_map] at he
      obtain ⟨⟨x, h1, h2⟩, h3⟩ := he
      refine ⟨x, h1, h2, ?_⟩
      rw [← h2] at h3
      simpa [ent] using h3
    have hh : w1.heap = w.heap := by rcases hw1 with rfl | rfl <;> rfl
    have hne : r0 ≠ b := by rintro rfl; rw [hr] at hb; cases hb
    refine wpListIn_run hg (fun c h => by rw [ho] at h; cases h) (fun f hf => by simp [Oper.about, ho] at hf) ?_ (hnext x _ ⟨hx, hns⟩ (fun K hK => OnlyK.trans ?_ (OnlyK.setBlock hK (.mapIter (some b) since (seen ++ [x.2]).toArray ck))) (setBlock_at (by rw [hh]; exact hr)) ?_)
    rotate_left
    · rcases hw1 with rfl | rfl
      · exact OnlyK.refl _ _
      · exact OnlyK.drew _ _
    · show (w1.heap.setIfInBounds r0 _)[b]? = _
      rw [Array.getElem?_setIfInBounds, if_neg hne, hh]; exact hb
    simp only [execOp, ho, hm]
    rw [show (seen ++ [x.2]).toArray = seen.toArray.push (ent x).born by simp [ent]]
    exact run_v hrun
end

set_option maxRecDepth 100000 in
set_option maxHeartbeats 1000000 in
theorem keys1_set (n g b : Nat) (n₀ : Nat → Prop) (hn : 2 ≤ n) (l : List Me) (ck : Nat) (hM : Mok l ck) :
    SeqSet n Tryz.prog 128 #[.pointer (some ⟨g, 0, none⟩)] kA n₀ (fun _ => False) (fun xs => xs.Perm (kys l)) (KyPre n₀ g b l ck) := by
  rintro lp C W ⟨hg, hb, hgn, hbn⟩ hC hY h0
  refine callsIn_of_wp Tryz.func128 rfl trivial ?_ rfl
  simp only [Tryz.ntmps128, List.size_toArray, List.length_cons, List.length_nil, Nat.reduceAdd, Nat.reduceSub, Array.replicate_succ, Array.replicate_zero, List.push_toArray, List.append_toArray, List.nil_append, List.cons_append]
  have g0 : W.cell? ⟨g, 0, none⟩ = some (.map (some b)) := hg.cell 0
  gi_wp2_with (first
    | (refine wpListIn_mrange rfl rfl rfl hb ?_)
    | gi_in)
  have hC1 : C [] (fun k => k = W.heap.size) (W.alloc (.mapIter (some b) ck #[] ck)) := hC _ _ _ _ _ h0 (OnlyK.alloc _ _ _) (fun k hk => .inr (by simp; omega))
  have hr1 : (W.alloc (.mapIter (some b) ck #[] ck)).heap[W.heap.size]? = some (.mapIter (some b) ck ([] : List Nat).toArray ck) := World.alloc_heap_new _ _
  have hb1 : (W.alloc (.mapIter (some b) ck #[] ck)).heap[b]? = some (.map (l.map ent).toArray ck) := (Below.heap_alloc _ _ b (heap_lt hb)).trans hb
  have ht1 : KeptR n₀ (fun _ => False) W (W.alloc (.mapIter (some b) ck #[] ck)) := ⟨by simp, fun k hk _ => Below.heap_alloc _ _ k hk⟩
  generalize hr : W.heap.size = r at *
  gi_loopw [3] (fun _ wr => ∃ (m : List Me) (K : Nat → Prop), Came l m ∧ wr.heap[r]? = some (.mapIter (some b) ck (m.map (·.2)).toArray ck) ∧ wr.heap[b]? = some (.map (l.map ent).toArray ck) ∧ K r ∧ C (kys m) K wr) (fun _ wr => itLeft l r wr)
  case atStart => exact ⟨[], fun k => k = r, ⟨List.nodup_nil, by simp⟩, hr1, hb1, rfl, hC1⟩
  case round =>
    obtain ⟨m, K, hm, hri, hbi, hK, hCi⟩ := hrel
    have hit := itLeft_at (l := l) hri
    gi_wp2_with (first
      | (refine wpListIn_mnext rfl rfl rfl hri hbi hM.lt (Nat.le_refl _) (fun hov => ?_) (fun x w2 hxs hon2 hr2 hb2 => ?_))
      | (refine wpListIn_mentry rfl rfl rfl hr2 hb2 hxs.1 hM.sn ?_)
      | gi_in)
    · gi_wp2
      go_end0
      exact ⟨⟨_, rfl⟩, kys m, K, (hm.perm hM hov).map _, hCi⟩
    · have hext : ∃ xs : List K3, xs.Perm (kys l) ∧ kys m ++ [ck3 x.1] <+: xs := by
        obtain ⟨q, hp⟩ := (hm.snoc hxs.1 hxs.2).ext hM
        exact ⟨kys (m ++ [x] ++ q), hp.map _, by simp [kys]⟩
      obtain ⟨o3, ho3⟩ : ∃ o3 : Obj, Obj.cells #[Value.int IntKind.i64 x.1.1, Value.int IntKind.i64 x.1.2.1, Value.int IntKind.i64 x.1.2.2.1] 113 = o3 := ⟨_, rfl⟩
      have hC3 : C (kys m) K (w2.alloc o3) := hC _ _ _ _ _ hCi ((hon2 K hK).trans (OnlyK.alloc _ _ _)) (fun k h => .inl h)
      have hr3 : (w2.alloc o3).heap[r]? = some (.mapIter (some b) ck (m.map (·.2) ++ [x.2]).toArray ck) := (Below.heap_alloc _ _ _ (heap_lt hr2)).trans hr2
      have hb3 : (w2.alloc o3).heap[b]? = some (.map (l.map ent).toArray ck) := (Below.heap_alloc _ _ _ (heap_lt hb2)).trans hb2
      obtain ⟨fn, tmps, assign, body, hy, hR⟩ := hY (kys m) (ck3 x.1) K _ hC3 hext
      dsimp only [kA, vK, ck3] at hy
      rw [ho3]
      generalize w2.alloc o3 = w3 at *
      rw [hy, Oper.uponIn_round]
      refine ⟨fun _ => by omega, hR.mono ?_⟩
      rintro e W4 ⟨rfl, hC4, hk4⟩
      simp only [Act.put, List.setIfInBounds_toArray, List.set_cons_succ, List.set_cons_zero]
      have hr4 := (hk4.2 r (heap_lt hr3) (.inr hK)).trans hr3
      have hb4 := (hk4.2 b (heap_lt hb3) (.inl hbn)).trans hb3
      gi_wp2
      go_roundw
      case rel => exact ⟨m ++ [x], K, hm.snoc hxs.1 hxs.2, by simpa using hr4, hb4, hK, by simpa [kys] using hC4⟩
      case measure =>
        rw [itLeft_at (seen := m.map (·.2) ++ [x.2]) hr4, hit]
        exact unsn_lt hxs.1 hxs.2
end Go.Proofs.YtnclclpfmldocaaGreat
