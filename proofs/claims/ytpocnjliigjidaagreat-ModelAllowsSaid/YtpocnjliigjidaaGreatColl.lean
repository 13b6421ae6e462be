import Derived.Test.YtpocnjliigjidaaGreatFlQ
import Derived.Test.YtpocnjliigjidaaGreatFlP
import Derived.Deep.Quiet
import Derived.Deep.QuietTactic
import Derived.Deep.RegionHeld3
import Derived.LoopN
import Derived.Handy
import Derived.Shelf.SlSortCmp.KitK
import Derived.StillTailTactics
/- maps.Keys of a map of words: the iterator hands out each key once. -/
namespace Go.Proofs.YtpocnjliigjidaaGreat
open Go.RowKit Go.Shelf Go.ChangeMaps
attribute [local go_sem] Oper.semAt_some
set_option linter.unusedSimpArgs false
set_option linter.unusedVariables false
theorem wpListIn_run {F : Fence} {n : Nat} {P : Program} {w : World} {ops : Array Oper} {rest : List Oper} {o : Oper} {a : Act} {Q : Exit → Act → World → Prop} (hg : o.guard = none) (hd : ∀ c, o.op ≠ .defer c)
    (hab : ∀ f, o.about P w a.eval = some f → F.fn f) {v : Value} {w' : World} (hrun : (execOp a.eval o).run P w = .ok (.value v) w') (h : wpListIn F n P ops Q rest (a.put o.dst v) w') : wpListIn F n P ops Q (o :: rest) a w := by
  refine wpListIn_plain hg fun K hK' => ?_
  unfold Oper.wpIn
  refine ⟨hab, ?_⟩
  rw [Oper.semAt_eq F.round _ _ hd, hrun]
  exact hK' _ _ h
theorem OnlyK.setBlock {K : Nat → Prop} {A : World} {r : Nat} (h : K r) (o : Obj) : OnlyK K A (setBlock A r o) :=
  ⟨rfl, rfl, rfl, by simp [ChangeMaps.setBlock], fun k _ hk => by
    show (A.heap.setIfInBounds r o)[k]? = _
    rw [Array.getElem?_setIfInBounds, if_neg (fun e : r = k => hk (e ▸ h))]⟩
theorem OnlyK.trans {K : Nat → Prop} {A B C : World} (h : OnlyK K A B) (k : OnlyK K B C) : OnlyK K A C :=
  ⟨k.os.trans h.os, k.tape.trans h.tape, k.output.trans h.output, Nat.le_trans h.size k.size, fun j hj hk => (k.block j (Nat.lt_of_lt_of_le hj h.size) hk).trans (h.block j hj hk)⟩
def kA (k : K3) : Array Value := #[vK k]
def kys (l : List Me) : List K3 := l.map fun x => ck3 x.1
structure KyPre (n₀ : Nat → Prop) (g b : Nat) (l : List Me) (ck : Nat) (W : World) : Prop where
  box : Blk W g 157 #[.map (some b)]
  map : W.heap[b]? = some (.map (l.map ent).toArray ck)
  gn : n₀ g
  bn : n₀ b
structure Came (l m : List Me) : Prop where
  nd : (m.map (·.2)).Nodup
  sub : ∀ x ∈ m, x ∈ l
theorem nodup_of_map {α β : Type} {f : α → β} {l : List α} (h : (l.map f).Nodup) : l.Nodup := by
  induction l with
  | nil => exact List.nodup_nil
  | cons a l ih =>
    rw [List.map_cons, List.nodup_cons] at h
    exact List.nodup_cons.2 ⟨fun ha => h.1 (List.mem_map_of_mem ha), ih h.2⟩
theorem Came.snoc {l m : List Me} (h : Came l m) {x : Me} (hx : x ∈ l) (hs : x.2 ∉ m.map (·.2)) : Came l (m ++ [x]) := by
  refine ⟨?_, fun y hy => ?_⟩
  · rw [List.map_append, List.nodup_append]
    refine ⟨h.nd, by simp, fun a ha b hb e => ?_⟩
    simp at hb
    subst hb
    exact hs (e ▸ ha)
  · rcases List.mem_append.1 hy with hy | hy
    · exact h.sub y hy
    · simp at hy; exact hy ▸ hx
theorem Came.perm {l m : List Me} {ck : Nat} (hM : Mok l ck) (h : Came l m) (ha : ∀ x ∈ l, x.2 ∈ m.map (·.2)) : m.Perm l := by
  refine (List.perm_ext_iff_of_nodup (nodup_of_map h.nd) (nodup_of_map hM.sn)).2 fun x => ⟨h.sub x, fun hx => ?_⟩
  obtain ⟨y, hy, e⟩ := List.mem_map.1 (ha x hx)
  rwa [← nodup_inj hM.sn (h.sub y hy) hx e]
theorem Came.ext {l m : List Me} {ck : Nat} (hM : Mok l ck) (h : Came l m) : ∃ r : List Me, (m ++ r).Perm l := by
  refine ⟨l.filter fun y => decide (y.2 ∉ m.map (·.2)), ?_⟩
  refine Came.perm hM ⟨?_, fun x hx => ?_⟩ fun x hx => ?_
  · rw [List.map_append, List.nodup_append]
    refine ⟨h.nd, hM.sn.sublist (List.filter_sublist.map _), fun a ha b hb e => ?_⟩
    obtain ⟨y, hy, rfl⟩ := List.mem_map.1 hb
    have := (List.mem_filter.1 hy).2
    simp only [decide_eq_true_eq] at this
    exact this (e ▸ ha)
  · rcases List.mem_append.1 hx with hx | hx
    · exact h.sub x hx
    · exact (List.mem_filter.1 hx).1
  · by_cases hm : x.2 ∈ m.map (·.2)
    · rw [List.map_append]; exact List.mem_append_left _ hm
    · rw [List.map_append]; exact List.mem_append_right _ (List.mem_map_of_mem (List.mem_filter.2 ⟨hx, by simpa using hm⟩))
def itLeft (l : List Me) (r : Nat) (w : World) : Nat := match w.heap[r]? with
  | some (.mapIter _ _ seen _) => unsn l seen.toList
  | _ => 0
theorem itLeft_at {l : List Me} {r : Nat} {w : World} {m : Option Nat} {s c : Nat} {seen : List Nat} (h : w.heap[r]? = some (.mapIter m s seen.toArray c)) : itLeft l r w = unsn l seen := by
  unfold itLeft; rw [h]
section
variable {F : Fence} {n : Nat} {w : World} {ops : Array Oper} {rest : List Oper} {o : Oper} {a : Act} {Q : Exit → Act → World → Prop} {r : Operand} {b r0 ck c0 since : Nat} {l : List Me} {seen : List Nat}
theorem wpListIn_mrange (hg : o.guard = none) (ho : o.op = .range 157 r) (hm : a.eval r = .map (some b)) (hb : w.heap[b]? = some (.map (l.map ent).toArray ck))
    (h : wpListIn F n Tryz.prog ops Q rest (a.put o.dst (.pointer (some ⟨w.heap.size, 0, none⟩))) (w.alloc (.mapIter (some b) ck #[] ck))) : wpListIn F n Tryz.prog ops Q (o :: rest) a w := by
  have hu := Tryz.underlying157
  refine wpListIn_run hg (fun c h => by rw [ho] at h; cases h) (fun f hf => by simp [Oper.about, ho] at hf) ?_ h
  simp only [execOp, ho, hm]
  refine run_v ?_
  unfold Instr.range
  simp only [Sem.run_bind, run_underlying hu, Result.andThen_ok, gmap hb]
  rfl
theorem wpListIn_mentry {x : Me} (hg : o.guard = none) (ho : o.op = .entry r) (hm : a.eval r = .pointer (some ⟨r0, 0, none⟩)) (hr : w.heap[r0]? = some (.mapIter (some b) since (seen ++ [x.2]).toArray ck)) (hb : w.heap[b]? = some (.map (l.map ent).toArray ck))
    (hx : x ∈ l) (hnd : (l.map (·.2)).Nodup) (h : wpListIn F n Tryz.prog ops Q rest (a.put o.dst (.tuple #[.agg #[.int .i64 x.1.1, .int .i64 x.1.2.1, .int .i64 x.1.2.2.1], vV x.1.2.2.2])) w) : wpListIn F n Tryz.prog ops Q (o :: rest) a w := by
  refine wpListIn_run hg (fun c h => by rw [ho] at h; cases h) (fun f hf => by simp [Oper.about, ho] at hf) ?_ h
  simp only [execOp, ho, hm]
  exact run_v (run_entry_at (P := Tryz.prog) w r0 b since seen.toArray (l.map ent).toArray ck (ent x) (by simpa [ent] using hr) hb (by rw [List.toList_toArray]; exact List.mem_map_of_mem hx) (by simpa [Function.comp_def, ent] using hnd))
theorem wpListIn_mnext (hg : o.guard = none) (ho : o.op = .next r false) (hm : a.eval r = .pointer (some ⟨r0, 0, none⟩)) (hr : w.heap[r0]? = some (.mapIter (some b) since seen.toArray c0)) (hb : w.heap[b]? = some (.map (l.map ent).toArray ck))
    (hold : ∀ x ∈ l, x.2 < since) (hsc : since ≤ c0)
    (hover : (∀ x ∈ l, x.2 ∈ seen) → wpListIn F n Tryz.prog ops Q rest (a.put o.dst (.tuple #[.bool false])) w)
    (hnext : ∀ x w2, Lft l seen x → (∀ K : Nat → Prop, K r0 → OnlyK K w w2) → w2.heap[r0]? = some (.mapIter (some b) since (seen ++ [x.2]).toArray ck) → w2.heap[b]? = some (.map (l.map ent).toArray ck) → wpListIn F n Tryz.prog ops Q rest (a.put o.dst (.tuple #[.bool true, vK (ck3 x.1), vV x.1.2.2.2])) w2) : wpListIn F n Tryz.prog ops Q (o :: rest) a w := by
  rcases run_next_at (P := Tryz.prog) w o.type r0 b since c0 seen.toArray (l.map ent).toArray ck hr hb (by rw [List.toList_toArray]; intro y hy; obtain ⟨z, hz, rfl⟩ := List.mem_map.1 hy; exact hold z hz) hsc with ⟨hz, hrun⟩ | ⟨e, he, w1, hw1, hrun⟩
  · refine wpListIn_run hg (fun c h => by rw [ho] at h; cases h) (fun f hf => by simp [Oper.about, ho] at hf) ?_ (hover fun x hx => ?_)
    · simp only [execOp, ho, hm]; exact run_v hrun
    · have h0 := Array.eq_empty_of_size_eq_zero hz
      unfold leftOf at h0
      rw [Array.filter_eq_empty_iff] at h0
      have := h0 (ent x) (by rw [List.mem_toArray]; exact List.mem_map_of_mem hx)
      simpa [ent] using this
  · obtain ⟨x, hx, rfl, hns⟩ : ∃ x : Me, x ∈ l ∧ ent x = e ∧ x.2 ∉ seen := by
      unfold leftOf at he
      simp only [Array.toList_filter, List.mem_filter, List.toList_toArray, List.mem_map] at he
      obtain ⟨⟨x, h1, h2⟩, h3⟩ := he
      refine ⟨x, h1, h2, ?_⟩
      rw [← h2] at h3
      simpa [ent] using h3
    have hh : w1.heap = w.heap := by rcases hw1 with rfl | rfl <;> rfl
    have hne : r0 ≠ b := by rintro rfl; rw [hr] at hb; cases hb
    refine wpListIn_run hg (fun c h => by rw [ho] at h; cases h) (fun f hf => by simp [Oper.about, ho] at hf) ?_ (hnext x _ ⟨hx, hns⟩ (fun K hK => OnlyK.trans ?_ (OnlyK.setBlock hK (.mapIter (some b) since (seen ++ [x.2]).toArray ck))) (setBlock_at (by rw [hh]; exact hr)) ?_)
    rotate_left
    · rcases hw1 with rfl | rfl
      · exact OnlyK.refl _ _
      · exact OnlyK.drew _ _
    · show (w1.heap.setIfInBounds r0 _)[b]? = _
      rw [Array.getElem?_setIfInBounds, if_neg hne, hh]; exact hb
    simp only [execOp, ho, hm]
    rw [show (seen ++ [x.2]).toArray = seen.toArray.push (ent x).born by simp [ent]]
    exact run_v hrun
end
set_option maxRecDepth 100000 in
set_option maxHeartbeats 1000000 in
theorem keys1_set (n g b : Nat) (n₀ : Nat → Prop) (hn : 2 ≤ n) (l : List Me) (ck : Nat) (hM : Mok l ck) :
    SeqSet n Tryz.prog 167 #[.pointer (some ⟨g, 0, none⟩)] kA n₀ (fun _ => False) (fun xs => xs.Perm (kys l)) (KyPre n₀ g b l ck) := by
  rintro lp C W ⟨hg, hb, hgn, hbn⟩ hC hY h0
  refine callsIn_of_wp Tryz.func167 rfl trivial ?_ rfl
  simp only [Tryz.ntmps167, List.size_toArray, List.length_cons, List.length_nil, Nat.reduceAdd, Nat.reduceSub, Array.replicate_succ, Array.replicate_zero, List.push_toArray, List.append_toArray, List.nil_append, List.cons_append]
  have g0 : W.cell? ⟨g, 0, none⟩ = some (.map (some b)) := hg.cell 0
  gi_wp2_with (first
    | (refine wpListIn_mrange rfl rfl rfl hb ?_)
    | gi_in)
  have hC1 : C [] (fun k => k = W.heap.size) (W.alloc (.mapIter (some b) ck #[] ck)) := hC _ _ _ _ _ h0 (OnlyK.alloc _ _ _) (fun k hk => .inr (by simp; omega))
  have hr1 : (W.alloc (.mapIter (some b) ck #[] ck)).heap[W.heap.size]? = some (.mapIter (some b) ck ([] : List Nat).toArray ck) := World.alloc_heap_new _ _
  have hb1 : (W.alloc (.mapIter (some b) ck #[] ck)).heap[b]? = some (.map (l.map ent).toArray ck) := (Below.heap_alloc _ _ b (heap_lt hb)).trans hb
  have ht1 : KeptR n₀ (fun _ => False) W (W.alloc (.mapIter (some b) ck #[] ck)) := ⟨by simp, fun k hk _ => Below.heap_alloc _ _ k hk⟩
  generalize hr : W.heap.size = r at *
  gi_loopw [3] (fun _ wr => ∃ (m : List Me) (K : Nat → Prop), Came l m ∧ wr.heap[r]? = some (.mapIter (some b) ck (m.map (·.2)).toArray ck) ∧ wr.heap[b]? = some (.map (l.map ent).toArray ck) ∧ K r ∧ C (kys m) K wr) (fun _ wr => itLeft l r wr)
  case atStart => exact ⟨[], fun k => k = r, ⟨List.nodup_nil, by simp⟩, hr1, hb1, rfl, hC1⟩
  case round =>
    obtain ⟨m, K, hm, hri, hbi, hK, hCi⟩ := hrel
    have hit := itLeft_at (l := l) hri
    gi_wp2_with (first
      | (refine wpListIn_mnext rfl rfl rfl hri hbi hM.lt (Nat.le_refl _) (fun hov => ?_) (fun x w2 hxs hon2 hr2 hb2 => ?_))
      | (refine wpListIn_mentry rfl rfl rfl hr2 hb2 hxs.1 hM.sn ?_)
      | gi_in)
    · gi_wp2
      go_end0
      exact ⟨⟨_, rfl⟩, kys m, K, (hm.perm hM hov).map _, hCi⟩
    · have hext : ∃ xs : List K3, xs.Perm (kys l) ∧ kys m ++ [ck3 x.1] <+: xs := by
        obtain ⟨q, hp⟩ := (hm.snoc hxs.1 hxs.2).ext hM
        exact ⟨kys (m ++ [x] ++ q), hp.map _, by simp [kys]⟩
      obtain ⟨o3, ho3⟩ : ∃ o3 : Obj, Obj.cells #[Value.int IntKind.i64 x.1.1, Value.int IntKind.i64 x.1.2.1, Value.int IntKind.i64 x.1.2.2.1] 115 = o3 := ⟨_, rfl⟩
      have hC3 : C (kys m) K (w2.alloc o3) := hC _ _ _ _ _ hCi ((hon2 K hK).trans (OnlyK.alloc _ _ _)) (fun k h => .inl h)
      have hr3 : (w2.alloc o3).heap[r]? = some (.mapIter (some b) ck (m.map (·.2) ++ [x.2]).toArray ck) := (Below.heap_alloc _ _ _ (heap_lt hr2)).trans hr2
      have hb3 : (w2.alloc o3).heap[b]? = some (.map (l.map ent).toArray ck) := (Below.heap_alloc _ _ _ (heap_lt hb2)).trans hb2
      obtain ⟨fn, tmps, assign, body, hy, hR⟩ := hY (kys m) (ck3 x.1) K _ hC3 hext
      dsimp only [kA, vK, ck3] at hy
      rw [ho3]
      generalize w2.alloc o3 = w3 at *
      rw [hy, Oper.uponIn_round]
      refine ⟨fun _ => by omega, hR.mono ?_⟩
      rintro e W4 ⟨rfl, hC4, hk4⟩
      simp only [Act.put, List.setIfInBounds_toArray, List.set_cons_succ, List.set_cons_zero]
      have hr4 := (hk4.2 r (heap_lt hr3) (.inr hK)).trans hr3
      have hb4 := (hk4.2 b (heap_lt hb3) (.inl hbn)).trans hb3
      gi_wp2
      go_roundw
      case rel => exact ⟨m ++ [x], K, hm.snoc hxs.1 hxs.2, by simpa using hr4, hb4, hK, by simpa [kys] using hC4⟩
      case measure =>
        rw [itLeft_at (seen := m.map (·.2) ++ [x.2]) hr4, hit]
        exact unsn_lt hxs.1 hxs.2
end Go.Proofs.YtpocnjliigjidaaGreat
namespace Go.Proofs.YtpocnjliigjidaaGreat
open Go.RowKit Go.Sort Go.Shelf
set_option maxRecDepth 100000
set_option linter.unusedSimpArgs false
set_option linter.unusedVariables false
def encK (k : K3) : List Value := [.int .i64 k.1, .int .i64 k.2.1, .int .i64 k.2.2]
def cfK (a b : K3) : Int := cmK a.1 a.2.1 a.2.2 b.1 b.2.1 b.2.2
def BefK (a b : K3) : Prop := a.1 < b.1 ∨ (a.1 = b.1 ∧ (a.2.1 < b.2.1 ∨ (a.2.1 = b.2.1 ∧ a.2.2 < b.2.2)))
theorem cfK_lt (a b : K3) : cfK a b < 0 ↔ BefK a b := by
  obtain ⟨a1, a2, a3⟩ := a
  obtain ⟨b1, b2, b3⟩ := b
  have := cmK_bef (a1, a2, a3, 0) (b1, b2, b3, 0)
  unfold cfK BefK
  unfold Bef at this
  dsimp only at this ⊢
  omega
theorem isNaN_calls (a : Int) (W : World) : Calls Tryz.prog 153 #[.int .i64 a] W fun e w' => e = .returned (.bool false) ∧ w' = W := by
  go_enter Tryz.func153, Tryz.ntmps153
  go_wp2
  go_ret
  simp
theorem Compare_calls (a b : Int) (W : World) : Calls Tryz.prog 132 #[.int .i64 a, .int .i64 b] W fun e w' => e = .returned (.int .i64 (cm3 a b)) ∧ w' = W := by
  have n1 := fun W => isNaN_calls a W
  have n2 := fun W => isNaN_calls b W
  go_enter Tryz.func132, Tryz.ntmps132
  unfold cm3
  by_cases h1 : a < b
  · rw [if_pos h1]
    go_wp2_with (first | (refine (n1 _).mono ?_; rintro e w' ⟨rfl, rfl⟩) | (refine (n2 _).mono ?_; rintro e w' ⟨rfl, rfl⟩))
    go_ret
    simp
  · rw [if_neg h1]
    by_cases h2 : b < a
    · rw [if_pos h2]
      go_wp2_with (first | (refine (n1 _).mono ?_; rintro e w' ⟨rfl, rfl⟩) | (refine (n2 _).mono ?_; rintro e w' ⟨rfl, rfl⟩))
      go_ret
      simp
    · rw [if_neg h2]
      go_wp2_with (first | (refine (n1 _).mono ?_; rintro e w' ⟨rfl, rfl⟩) | (refine (n2 _).mono ?_; rintro e w' ⟨rfl, rfl⟩))
      go_ret
      simp
def or3 (a b c : Int) : Int := if a ≠ 0 then a else if b ≠ 0 then b else c
set_option maxHeartbeats 400000 in
theorem Or_calls (a b c : Int) (blk : Nat) (W : World) (h0 : W.cell? ⟨blk, 0, none⟩ = some (.int .i64 a)) (h1 : W.cell? ⟨blk, 1, none⟩ = some (.int .i64 b)) (h2 : W.cell? ⟨blk, 2, none⟩ = some (.int .i64 c)) :
    Calls Tryz.prog 131 #[.slice (some ⟨blk, 0, none⟩) 3 3] W fun e w' => e = .returned (.int .i64 (or3 a b c)) ∧ w' = W := by
  obtain ⟨R, hR⟩ : ∃ R, or3 a b c = R := ⟨_, rfl⟩
  rw [hR]
  go_enter Tryz.func131, Tryz.ntmps131
  go_wp2
  go_loopw [8] (fun i wr => ∃ k : Nat, k ≤ 3 ∧ i = .int .i64 k ∧ wr = W ∧ (0 < k → a = 0) ∧ (1 < k → b = 0) ∧ (2 < k → c = 0)) (fun i _ => 3 - (intOf i).toNat)
  case atStart => exact ⟨0, by omega, rfl, rfl, by omega, by omega, by omega⟩
  case round =>
    obtain ⟨k, hk, rfl, rfl, k0, k1, k2⟩ := hrel
    have hk4 : k = 0 ∨ k = 1 ∨ k = 2 ∨ k = 3 := by omega
    rcases hk4 with rfl | rfl | rfl | rfl
    · clear k0 k1 k2 hk
      by_cases ha : a = 0
      · subst ha
        go_wp2
        go_roundw
        case rel => exact ⟨1, by simp⟩
        case measure => simp [intOf]
      · obtain rfl : a = R := by rw [← hR]; simp [or3, ha]
        go_wp2
        go_ret
        simp
    · have := k0 (by omega)
      subst this
      clear k0 k1 k2 hk
      by_cases ha : b = 0
      · subst ha
        go_wp2
        go_roundw
        case rel => exact ⟨2, by simp⟩
        case measure => simp [intOf]
      · obtain rfl : b = R := by rw [← hR]; simp [or3, ha]
        go_wp2
        go_ret
        simp
    · have h1 := k0 (by omega)
      have h2 := k1 (by omega)
      subst h1 h2
      clear k0 k1 k2 hk
      by_cases ha : c = 0
      · subst ha
        go_wp2
        go_roundw
        case rel => exact ⟨3, by simp⟩
        case measure => simp [intOf]
      · obtain rfl : c = R := by rw [← hR]; simp [or3]
        go_wp2
        go_ret
        simp
    · have h1 := k0 (by omega)
      have h2 := k1 (by omega)
      have h3 := k2 (by omega)
      subst h1 h2 h3
      clear k0 k1 k2 hk
      obtain rfl : 0 = R := by rw [← hR]; simp [or3]
      go_wp2
      go_ret
      simp
end Go.Proofs.YtpocnjliigjidaaGreat
namespace Go.Proofs.YtpocnjliigjidaaGreat
open Go.RowKit Go.Sort Go.Shelf
set_option maxRecDepth 100000
set_option linter.unusedSimpArgs false
set_option linter.unusedVariables false
set_option maxHeartbeats 4000000 in
theorem compare_calls (a b : K3) (W : World) : Calls Tryz.prog 82 #[.agg (encK a).toArray, .agg (encK b).toArray] W fun e w' => e = .returned (.int .i64 (cfK a b)) ∧ ∃ q os, w' = grow (W.drewN q) os := by
  obtain ⟨a1, a2, a3⟩ := a
  obtain ⟨b1, b2, b3⟩ := b
  simp only [encK, cfK]
  have c1 := fun W => Compare_calls a1 b1 W
  have c2 := fun W => Compare_calls a2 b2 W
  have c3 := fun W => Compare_calls a3 b3 W
  go_enter Tryz.func82, Tryz.ntmps82
  go_wp2
  generalize hW2 : (W.alloc (.cells #[.int .i64 a1, .int .i64 a2, .int .i64 a3] 115)).alloc (.cells #[.int .i64 b1, .int .i64 b2, .int .i64 b3] 115) = W2
  refine wp_region_still_tail 19 (by kernel_rfl) (by kernel_rfl) ?_
  simp only [List.take_succ_cons, List.take_zero, List.drop_succ_cons, List.drop_zero]
  change wpStill _ _ W2.drew _ _ _
  have g1 : W2.drew.cell? ⟨W.heap.size, 0, none⟩ = some (.int .i64 a1) := by subst hW2; simp [go_sem]
  have g2 : W2.drew.cell? ⟨W.heap.size, 1, none⟩ = some (.int .i64 a2) := by subst hW2; simp [go_sem]
  have g3 : W2.drew.cell? ⟨W.heap.size, 2, none⟩ = some (.int .i64 a3) := by subst hW2; simp [go_sem]
  have k1 : W2.drew.cell? ⟨W.heap.size + 1, 0, none⟩ = some (.int .i64 b1) := by subst hW2; simp [go_sem]
  have k2 : W2.drew.cell? ⟨W.heap.size + 1, 1, none⟩ = some (.int .i64 b2) := by subst hW2; simp [go_sem]
  have k3 : W2.drew.cell? ⟨W.heap.size + 1, 2, none⟩ = some (.int .i64 b3) := by subst hW2; simp [go_sem]
  have hgr : ∃ q os, W2.drew = grow (W.drewN q) os := ⟨1, #[.cells #[.int .i64 a1, .int .i64 a2, .int .i64 a3] 115, .cells #[.int .i64 b1, .int .i64 b2, .int .i64 b3] 115], by
    rw [← hW2, alloc_eq_grow, alloc_eq_grow, grow_grow]; rfl⟩
  iterate 6 still_step
  still_call (c1 _)
  iterate 6 still_step
  still_call (c2 _)
  iterate 4 still_step
  still_call (c3 _)
  refine wpStill_nil ?_
  change wpList _ _ _ _ _ W2.drew
  clear g1 g2 g3 k1 k2 k3 hW2
  generalize W2.drew = W3 at *
  have hor := Or_calls (cm3 a1 b1) (cm3 a2 b2) (cm3 a3 b3) W3.heap.size (W3.alloc (.cells #[.int .i64 (cm3 a1 b1), .int .i64 (cm3 a2 b2), .int .i64 (cm3 a3 b3)] 3)) (by simp [go_sem]) (by simp [go_sem]) (by simp [go_sem])
  go_wp2_with (refine hor.mono ?_; rintro e w' ⟨rfl, rfl⟩)
  go_ret
  obtain ⟨q, os, rfl⟩ := hgr
  exact ⟨rfl, q, os ++ #[.cells #[.int .i64 (cm3 a1 b1), .int .i64 (cm3 a2 b2), .int .i64 (cm3 a3 b3)] 3], by rw [alloc_eq_grow, grow_grow]⟩
end Go.Proofs.YtpocnjliigjidaaGreat
namespace Go.Proofs.YtpocnjliigjidaaGreat
open Go.RowKit Go.Shelf
def Coll {β : Type} (enc : β → List Value) (sz : Nat) (e t : TypeId) (Bx : Nat) (w0 : World) (l : List β) (K : Nat → Prop) (W : World) : Prop :=
  ∃ v, Blk W Bx t #[v] ∧ Own enc sz w0.heap.size e W v l ∧ ¬ K Bx ∧ (∀ k, v.ownBlock = some k → ¬ K k ∧ k ≠ Bx) ∧ Below w0.heap.size w0 W ∧ w0.heap.size ≤ Bx ∧ (∀ k, K k → w0.heap.size ≤ k ∧ k < W.heap.size)
section
variable {α β : Type} {enc : β → List Value} {sz : Nat} {e t : TypeId} {Bx : Nat} {w0 : World} {f : List α → List β}
theorem Coll.calm : Calm (fun (pre : List α) K W => Coll enc sz e t Bx w0 (f pre) K W) := by
  rintro pre K K' A B ⟨v, hb, ho, hk, hv, hB, hx, hK⟩ hon hKK
  refine ⟨v, (hon.block Bx hb.lt hk).trans hb, ?_, ?_, ?_, ?_, hx, ?_⟩
  · obtain ⟨h1, h2⟩ := ho
    refine ⟨h1, ?_⟩
    rcases h2 with h2 | ⟨g, cap, cur, rfl, hg, hh, r⟩
    · exact .inl h2
    · have hlt := (Array.getElem?_eq_some_iff.1 hh).1
      exact .inr ⟨g, cap, cur, rfl, hg, (hon.block g hlt (hv g rfl).1).trans hh, r⟩
  · intro h
    rcases hKK _ h with h | h
    · exact hk h
    · have := hb.lt; omega
  · intro k e
    refine ⟨fun h => ?_, (hv k e).2⟩
    rcases hKK _ h with h | h
    · exact (hv k e).1 h
    · have := (ho.lt k e).2; omega
  · exact ⟨hon.os.trans hB.os, hon.tape.trans hB.tape, hon.output.trans hB.output, Nat.le_trans hB.size hon.size, fun k hkl => (hon.block k (Nat.lt_of_lt_of_le hkl hB.size) (fun h => by have := (hK k h).1; omega)).trans (hB.block k hkl)⟩
  · intro k h
    rcases hKK _ h with h | h
    · have := hK k h; have := hon.size; omega
    · have := hB.size; omega
theorem Coll.calmO {n₁ : Nat} (hn : w0.heap.size ≤ n₁) : CalmO n₁ (fun (pre : List α) K W => Coll enc sz e t Bx w0 (f pre) K W) := by
  rintro pre K A l o o' ⟨v, hb, ho, hk, hv, hB, hx, hK⟩ hl hlo hc
  have hne : ∀ (k : Nat) cs ty fr, A.heap[k]? = some (Obj.cells cs ty fr) → (A.putObj l o').heap[k]? = A.heap[k]? := by
    intro k cs ty fr h
    refine World.putObj_heap_other ?_
    rintro rfl
    rw [hlo] at h
    injection h with h
    subst h
    simp [Obj.isCells] at hc
  refine ⟨v, (hne _ _ _ _ hb).trans hb, ?_, hk, hv, ?_, hx, fun k h => by simpa using hK k h⟩
  · obtain ⟨h1, h2⟩ := ho
    refine ⟨h1, ?_⟩
    rcases h2 with h2 | ⟨g, cap, cur, rfl, hg, hh, r⟩
    · exact .inl h2
    · exact .inr ⟨g, cap, cur, rfl, hg, (hne _ _ _ _ hh).trans hh, r⟩
  · exact hB.grown (grownBy_putObj' A l o') hB.size (fun k e => by cases e; omega)
end
theorem own_form {β : Type} {enc : β → List Value} {sz base : Nat} {e : TypeId} {w : World} {v : Value} {l : List β} (h : Own enc sz base e w v l) (hl : 0 < l.length) :
    ∃ g cap, v = .slice (some ⟨g, 0, none⟩) l.length cap := by
  obtain ⟨g, cap, hv, _, _⟩ := World.ownsRow.form h hl
  exact ⟨g, cap, hv⟩
theorem own_snoc {β : Type} {enc : β → List Value} {sz base : Nat} {e : TypeId} {w : World} {v : Value} {l : List β} {y : β} (h : Own enc sz base e w v (l ++ [y])) :
    ∃ g cap, v = .slice (some ⟨g, 0, none⟩) (l.length + 1) cap := by
  obtain ⟨g, cap, hv⟩ := own_form h (by simp)
  exact ⟨g, cap, by rw [hv]; simp⟩
theorem coll_step {β : Type} {enc : β → List Value} {sz : Nat} {e t : TypeId} {Bx n₀ : Nat} {w0 W w1 : World} {l : List β} {y : β} {K : Nat → Prop} {v v' : Value} {o : Obj}
    (hb : Blk W Bx t #[v]) (ho : Own enc sz w0.heap.size e W v l) (hk : ¬ K Bx) (hv : ∀ k, v.ownBlock = some k → ¬ K k ∧ k ≠ Bx) (hB : Below w0.heap.size w0 W) (hx : w0.heap.size ≤ Bx) (hK : ∀ k, K k → w0.heap.size ≤ k ∧ k < W.heap.size)
    (hn : n₀ ≤ w0.heap.size) (h1 : Own enc sz w0.heap.size e w1 v' (l ++ [y])) (hg : (W.alloc o).grownBy w1 v.ownBlock) (hat : v'.ownBlock = v.ownBlock ∨ v'.ownBlock = some (W.alloc o).heap.size) :
    KeepsOthers W (w1.setCell ⟨Bx, 0, none⟩ v') ∧ Kept n₀ K W (w1.setCell ⟨Bx, 0, none⟩ v') ∧ Coll enc sz e t Bx w0 (l ++ [y]) K (w1.setCell ⟨Bx, 0, none⟩ v') := by
  have hcells : ∀ (j : Nat) (ob : Obj), v.ownBlock = some j → (W.alloc o).heap[j]? = some ob → ob.isCells = true := by
    intro j ob e1 e2
    have hlt := (ho.lt j e1).2
    rw [Below.heap_alloc W o j hlt] at e2
    rcases ho.2 with ⟨rfl, _⟩ | ⟨g, cap, cur, rfl, _, hh, _⟩
    · simp [Value.ownBlock] at e1
    · simp [Value.ownBlock] at e1
      subst e1
      rw [hh] at e2
      injection e2 with e2
      subst e2
      rfl
  have hsz : W.heap.size < w1.heap.size := by have := hg.size; simp at this; omega
  have hsame : ∀ k, k < W.heap.size → v.ownBlock ≠ some k → k ≠ Bx → (w1.setCell ⟨Bx, 0, none⟩ v').heap[k]? = W.heap[k]? := by
    intro k h1 h2 h3
    rw [Below.heap_setCell _ _ _ _ h3, hg.block k (by simp; omega) (fun e => h2 e.symm), Below.heap_alloc W o k h1]
  have hb1 : Blk w1 Bx t #[v] := (hb.alloc o).grown hg (fun e => (hv Bx e.symm).2 rfl)
  refine ⟨((KeepsOthers.alloc W o).trans (KeepsOthers.of_grownBy hg hcells)).trans (KeepsOthers.setCell _ _ _), ⟨by simp [World.setCell]; omega, fun k hk1 hk2 => hsame k hk1 ?_ ?_⟩, v', ?_, ?_, hk, ?_, ?_, hx, ?_⟩
  · intro e1
    rcases hk2 with hk2 | hk2
    · have := (ho.lt k e1).1; omega
    · exact (hv k e1).1 hk2
  · rintro rfl
    rcases hk2 with hk2 | hk2
    · omega
    · exact hk hk2
  · have := hb1.set_ 0 v'
    simpa using this
  · refine h1.far (p := ⟨Bx, 0, none⟩) ?_ _
    intro e1
    rcases hat with e2 | e2
    · rw [e2] at e1; exact (hv Bx e1).2 rfl
    · rw [e2] at e1
      injection e1 with e1
      have := hb.lt
      simp at e1
      omega
  · intro k e1
    rcases hat with e2 | e2
    · rw [e2] at e1; exact hv k e1
    · rw [e2] at e1
      injection e1 with e1
      simp at e1
      refine ⟨fun h => ?_, ?_⟩
      · have := (hK k h).2; omega
      · rintro rfl; have := hb.lt; omega
  · refine Below.setCell ?_ hx _
    refine (hB.alloc hB.size o).grown hg (by have := hB.size; simp; omega) (fun k e1 => (ho.lt k e1).1)
  · intro k h
    have := hK k h
    refine ⟨this.1, ?_⟩
    simp [World.setCell]
    omega
def Box {α : Type} (g : Nat) (t : TypeId) (cs : Array Value) (_ : List α) (K : Nat → Prop) (W : World) : Prop := Blk W g t cs ∧ ¬ K g
theorem Box.calm {α : Type} {g : Nat} {t : TypeId} {cs : Array Value} : Calm (Box (α := α) g t cs) := by
  rintro pre K K' A B ⟨hb, hk⟩ hon hKK
  refine ⟨(hon.block g hb.lt hk).trans hb, fun h => ?_⟩
  rcases hKK _ h with h | h
  · exact hk h
  · have := hb.lt; omega
theorem Box.calmO {α : Type} {g n₁ : Nat} {t : TypeId} {cs : Array Value} : CalmO n₁ (Box (α := α) g t cs) := by
  rintro pre K A l o o' ⟨hb, hk⟩ _ hlo hc
  refine ⟨(World.putObj_heap_other ?_).trans hb, hk⟩
  rintro rfl
  unfold Blk at hb
  rw [hlo] at hb
  injection hb with hb
  subst hb
  simp [Obj.isCells] at hc
theorem own_blk_ne {β : Type} {enc : β → List Value} {sz base g : Nat} {e t : TypeId} {w : World} {v : Value} {l : List β} {cs : Array Value} (h : Own enc sz base e w v l) (hg : Blk w g t cs) (hne : e ≠ t) : v.ownBlock ≠ some g := by
  rcases h.2 with ⟨rfl, _⟩ | ⟨g', cap, cur, rfl, _, hh, _⟩
  · simp [Value.ownBlock]
  · intro he
    have : g' = g := by simpa [Value.ownBlock] using he
    subst this
    unfold Blk at hg
    rw [hh] at hg
    injection hg with hg
    injection hg with _ ht
    exact hne ht
end Go.Proofs.YtpocnjliigjidaaGreat
