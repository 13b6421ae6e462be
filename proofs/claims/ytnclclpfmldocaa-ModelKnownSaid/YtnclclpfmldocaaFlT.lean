import Derived.Test.YtnclclpfmldocaaFlS
import Derived.Test.YtnclclpfmldocaaColl
import Derived.Shelf.SlSortCmp.NoneTotal
import Derived.Test.YtnclclpfmldocaaProg
import Derived.Deep.Quiet
import Derived.Deep.QuietTactic

/- The keys of a map of words, collected; by the kit's walk. -/
namespace Go.Proofs.Ytnclclpfmldocaa
open Go.RowKit Go.Shelf
attribute [local go_sem] Oper.semAt_some
set_option linter.unusedSimpArgs false
set_option linter.unusedVariables false

theorem infoK : (Try.prog.info? 93).map (fun i => (i.zero, i.size, i.bytes)) = some (some (.agg #[.int .i64 0, .int .i64 0, .int .i64 0]), 3, 24) := by kernel_rfl
theorem codedK : Coded encK 3 := ⟨fun _ => rfl, by intro x u hu; simp [encK] at hu; rcases hu with rfl | rfl | rfl <;> rfl⟩
theorem elemK : ElemT Try.prog 113 93 3 24 := elemT Try.underlying113 infoK rfl (by decide)
theorem Blk.putObj {w : World} {g l : Nat} {t : TypeId} {cs : Array Value} (h : Blk w g t cs) {o o' : Obj} (hl : w.heap[l]? = some o) (hc : o.isCells = false) : Blk (w.putObj l o') g t cs := by
  refine (World.putObj_heap_other ?_).trans h
  rintro rfl
  unfold Blk at h
  rw [hl] at h
  injection h with h
  subst h
  simp [Obj.isCells] at hc

set_option maxRecDepth 100000 in
set_option maxHeartbeats 1000000 in
theorem appendSeq_calls (n g b : Nat) (hn : 6 ≤ n) (l : List Me) (ck : Nat) (hM : Mok l ck) (hl : l.length ≤ 1000000) (w : World) (hK : KyPre (fun k => k < w.heap.size) g b l ck w) :
    CallsIn Fence.wide n Try.prog 82 #[.slice none 0 0, .func (.func 81) #[] #[.pointer (some ⟨g, 0, none⟩)]] w
      fun e w' => ∃ v xs, e = .returned v ∧ xs.Perm (kys l) ∧ Own encK 3 w.heap.size 93 w' v xs ∧ Below w.heap.size w w' := by
  have hlen : ∀ xs : List K3, xs.Perm (kys l) → xs.length ≤ 1000000 := fun xs h => by rw [h.length_eq]; simpa [kys] using hl
  refine callsIn_of_wp_marks Try.func82 rfl trivial ?_ rfl
  simp only [Try.ntmps82, List.size_toArray, List.length_cons, List.length_nil, Nat.reduceAdd, Nat.reduceSub, Array.replicate_succ, Array.replicate_zero, List.push_toArray, List.append_toArray, List.nil_append, List.cons_append]
  gi_wp2
  have hpre : ∀ W1 : World, Below (w.alloc (.cells #[.slice none 0 0] 113)).heap.size (w.alloc (.cells #[.slice none 0 0] 113)) W1 → KyPre (fun k => k < w.heap.size) g b l ck W1 := by
    intro W1 hB
    have hBl : Below w.heap.size w W1 := (by repeat (first | exact Below.refl _ _ | assumption | apply Below.drew | apply b_drewN | apply b_alloc | (refine Below.setCell ?_ (by (try simp); (try omega)) _) | (refine b_then ?_ (by assumption))))
    exact ⟨hK.box.call hBl, (hBl.block b hK.bn).trans hK.map, hK.gn, hK.bn⟩
  refine wpIn_rangeSet (by omega) (gf := 81) (lb := #[.pointer (some ⟨g, 0, none⟩)]) rfl (enters_of Try.func81 (by kernel_rfl) rfl)
    (keys1_set (n - 1) g b (fun k => k < w.heap.size) (by omega) l ck hM) hpre (fun k hk => by have : k < w.heap.size := hk; simp; omega) (by rintro k h; exact h.elim) (fun _ => rfl)
    (fun pre K W => Coll encK 3 93 113 w.heap.size w pre K W) Coll.calm (Coll.calmO (by (try simp); (try omega))) ?start
    (fun x _ a' W => ∃ q, a' = { tmps := #[.slice none 0 0, .func (.func 81) #[] #[.pointer (some ⟨g, 0, none⟩)], .pointer (some ⟨w.heap.size, 0, none⟩), undef, .slice none 0 0, .pointer (some ⟨q, 0, none⟩),
          .func (.func 81) #[] #[.pointer (some ⟨g, 0, none⟩)], vK x, undef, undef, undef, undef, undef], defers := [] } ∧ Blk W q 93 (encK x).toArray)
    (fun x _ a' A l o o' ⟨q, h1, h2⟩ hl hc => ⟨q, h1, h2.putObj hl hc⟩) ?assign ?body ?done
  case start =>
    refine ⟨.slice none 0 0, Blk.new w _ _, Own.nil _, by simp, fun k e => by simp [Value.ownBlock] at e, (by repeat (first | exact Below.refl _ _ | assumption | apply Below.drew | apply b_drewN | apply b_alloc | (refine Below.setCell ?_ (by (try simp); (try omega)) _) | (refine b_then ?_ (by assumption)))), Nat.le_refl _, ?_⟩
    rintro k h
    exact h.elim
  case assign =>
    rintro lp pre ⟨k1, k2, k3⟩ K W Kf hi hKf
    have hcalm := hi
    simp only [kA, vK]
    gi_wp2
    exact hKf _ _ (KeepsOthers.alloc W _) ⟨by simp, fun k hk _ => Below.heap_alloc _ _ k hk⟩ (Coll.calm (f := fun p : List K3 => p) pre K K W _ hi (OnlyK.alloc _ _ _) (fun k h => .inl h)) ⟨_, rfl, blk_new rfl⟩
  case body =>
    rintro lp pre ⟨k1, k2, k3⟩ K a' W ⟨v, hbx, ho, hk, hv, hB, hx, hKk⟩ ⟨q, rfl, hq⟩ ⟨xs, hxs, hpfx⟩
    have hpl : pre.length + 1 ≤ 1000000 := by
      have h1 := hpfx.length_le
      have h2 := hlen xs hxs
      simp only [List.length_append, List.length_cons, List.length_nil] at h1
      omega
    have c0 : W.cell? ⟨w.heap.size, 0, none⟩ = some v := hbx.cell 0
    have q0 : W.cell? ⟨q, 0, none⟩ = some (.int .i64 k1) := hq.cell 0
    have q1 : W.cell? ⟨q, 1, none⟩ = some (.int .i64 k2) := hq.cell 1
    have q2 : W.cell? ⟨q, 2, none⟩ = some (.int .i64 k3) := hq.cell 2
    have Hbx2 := Lib.hid (fun (w2 : World) (o : Obj) (hg' : (W.alloc o).grownBy w2 v.ownBlock) => (hbx.alloc o).grown hg' (fun e => (hv w.heap.size e.symm).2 rfl))
    simp only [vK]
    gi_wp2_with (gi_at_builtin; refine wpListIn_append1 _ rfl _ _ rfl elemK codedK _ pre rfl (ho.alloc _) _ (k1, k2, k3) rfl (blk_new rfl) (by simp only [maxLen]; omega) (by omega) (by have := hB.size; simp; omega) ?_; intro v' w2 hown' hg' hat'; obtain ⟨g', cap', hv'⟩ := own_snoc hown'; have d0 := (Hbx2.out w2 _ hg').cell 0; have d1 := (Hbx2.out w2 _ hg').frozen 0; rw [hv']; clear c0)
    rw [← hv']
    exact coll_step hbx ho hk hv hB hx hKk (Nat.le_refl _) hown' hg' hat'
  case done =>
    rintro D W K xs hxs ⟨v, hbx, ho, hk, hv, hB, hx, hKk⟩ hD hDef
    have c0 : W.cell? ⟨w.heap.size, 0, none⟩ = some v := hbx.cell 0
    gi_wp2
    refine ⟨by simp, .inl ⟨_, _, rfl, run_takeDeferred hDef, ?_⟩⟩
    obtain ⟨v', hbx', ho', _, _, hB', _, _⟩ := Coll.calmO (f := fun p : List K3 => p) (n₁ := w.heap.size) (Nat.le_refl _) xs K W D _ (.deferred none) ⟨v, hbx, ho, hk, hv, hB, hx, hKk⟩ (by simp at hD; omega) hDef rfl
    have hvv : v' = v := by
      have e1 := hbx'.cell 0
      have e2 : (W.putObj D (.deferred none)).cell? ⟨w.heap.size, 0, none⟩ = W.cell? ⟨w.heap.size, 0, none⟩ := World.cell?_of_block (World.putObj_heap_other (by simp at hD; intro h; simp at h; omega))
      rw [e2, c0] at e1
      simpa using e1.symm
    subst hvv
    exact ⟨_, results_tmp rfl _ _ _, v', xs, rfl, hxs, ho', hB'⟩

set_option maxRecDepth 100000 in
theorem collect_calls (n g b : Nat) (hn : 8 ≤ n) (l : List Me) (ck : Nat) (hM : Mok l ck) (hl : l.length ≤ 1000000) (w : World) (hK : KyPre (fun k => k < w.heap.size) g b l ck w) :
    CallsIn Fence.wide n Try.prog 79 #[.func (.func 81) #[] #[.pointer (some ⟨g, 0, none⟩)]] w
      fun e w' => ∃ v xs, e = .returned v ∧ xs.Perm (kys l) ∧ Own encK 3 w.heap.size 93 w' v xs ∧ Below w.heap.size w w' := by
  refine callsIn_of_wp Try.func79 rfl trivial ?_ rfl
  simp only [Try.ntmps79, List.size_toArray, List.length_cons, List.length_nil, Nat.reduceAdd, Nat.reduceSub, Array.replicate_succ, Array.replicate_zero, List.push_toArray, List.append_toArray, List.nil_append, List.cons_append]
  have c1 := appendSeq_calls (n - 1) g b (by omega) l ck hM hl w hK
  gi_wp2
  refine ⟨trivial, fun _ => by omega, c1.mono ?_⟩
  rintro e w' ⟨v, xs, rfl, h1, h2, h3⟩
  gi_wp2
  go_ret
  exact ⟨v, xs, rfl, h1, h2, h3⟩
end Go.Proofs.Ytnclclpfmldocaa

/- The kit's contract of slices.SortFunc at this program. -/
namespace Go.Proofs.Ytnclclpfmldocaa
open Go.Shelf

def laySF_ren : Go.Shelf.Ren := ⟨fun | 6 => 80 | 14 => 83 | 15 => 84 | 20 => 85 | 21 => 86 | 22 => 87 | 23 => 88 | 24 => 89 | 25 => 90 | 26 => 91 | 27 => 92 | 28 => 93 | 29 => 94 | 46 => 95 | 47 => 96 | 48 => 97 | 49 => 98 | 50 => 99 | 57 => 100 | n => n, fun | 0 => 0 | 3 => 3 | 4 => 4 | 5 => 5 | 9 => 9 | 22 => 113 | 24 => 93 | 25 => 94 | 39 => 106 | 45 => 122 | 46 => 123 | 50 => 86 | 53 => 129 | 55 => 22 | 66 => 130 | 70 => 134 | 76 => 136 | 77 => 137 | n => n, fun | n => n⟩
theorem laySF : Go.Proofs.SlLaysF0.n6 Try.prog laySF_ren := {
  mixed := by kernel_rfl
  f6 := ⟨Try.f80.name, by kernel_rfl, Try.func80.trans (congrArg some (by kernel_rfl))⟩
  f14 := ⟨Try.f83.name, by kernel_rfl, Try.func83.trans (congrArg some (by kernel_rfl))⟩
  f15 := Try.func84.trans (congrArg some (by kernel_rfl))
  f20 := ⟨Try.f85.name, by kernel_rfl, Try.func85.trans (congrArg some (by kernel_rfl))⟩
  f21 := ⟨Try.f86.name, by kernel_rfl, Try.func86.trans (congrArg some (by kernel_rfl))⟩
  f22 := ⟨Try.f87.name, by kernel_rfl, Try.func87.trans (congrArg some (by kernel_rfl))⟩
  f23 := ⟨Try.f88.name, by kernel_rfl, Try.func88.trans (congrArg some (by kernel_rfl))⟩
  f24 := ⟨Try.f89.name, by kernel_rfl, Try.func89.trans (congrArg some (by kernel_rfl))⟩
  f25 := ⟨Try.f90.name, by kernel_rfl, Try.func90.trans (congrArg some (by kernel_rfl))⟩
  f26 := ⟨Try.f91.name, by kernel_rfl, Try.func91.trans (congrArg some (by kernel_rfl))⟩
  f27 := ⟨Try.f92.name, by kernel_rfl, Try.func92.trans (congrArg some (by kernel_rfl))⟩
  f28 := Try.func93.trans (congrArg some (by kernel_rfl))
  f29 := Try.func94.trans (congrArg some (by kernel_rfl))
  f46 := ⟨Try.f95.name, by kernel_rfl, Try.func95.trans (congrArg some (by kernel_rfl))⟩
  f47 := Try.func96.trans (congrArg some (by kernel_rfl))
  f48 := Try.func97.trans (congrArg some (by kernel_rfl))
  f49 := ⟨Try.f98.name, by kernel_rfl, Try.func98.trans (congrArg some (by kernel_rfl))⟩
  f50 := ⟨Try.f99.name, by kernel_rfl, Try.func99.trans (congrArg some (by kernel_rfl))⟩
  f57 := ⟨Try.f100.name, by kernel_rfl, Try.func100.trans (congrArg some (by kernel_rfl))⟩
  t0 := Try.underlying0
  a0 := Try.isAgg0
  z0 := Try.sizeOf0
  v0 := Try.zeroValue0
  t3 := Try.underlying3
  a3 := Try.isAgg3
  z3 := Try.sizeOf3
  v3 := Try.zeroValue3
  t4 := Try.underlying4
  a4 := Try.isAgg4
  z4 := Try.sizeOf4
  v4 := Try.zeroValue4
  t5 := Try.underlying5
  a5 := Try.isAgg5
  z5 := Try.sizeOf5
  v5 := Try.zeroValue5
  t9 := Try.underlying9
  a9 := Try.isAgg9
  z9 := Try.sizeOf9
  v9 := Try.zeroValue9
  t22 := Try.underlying113
  a22 := Try.isAgg113
  z22 := Try.sizeOf113
  v22 := Try.zeroValue113
  t25 := Try.underlying94
  a25 := Try.isAgg94
  z25 := Try.sizeOf94
  v25 := Try.zeroValue94
  t39 := Try.underlying106
  a39 := Try.isAgg106
  z39 := Try.sizeOf106
  v39 := Try.zeroValue106
  t45 := Try.underlying122
  a45 := Try.isAgg122
  z45 := Try.sizeOf122
  v45 := Try.zeroValue122
  t46 := Try.underlying123
  a46 := Try.isAgg123
  z46 := Try.sizeOf123
  v46 := Try.zeroValue123
  t50 := Try.underlying86
  a50 := Try.isAgg86
  z50 := Try.sizeOf86
  v50 := Try.zeroValue86
  t53 := Try.underlying129
  a53 := Try.isAgg129
  z53 := Try.sizeOf129
  v53 := Try.zeroValue129
  t55 := Try.underlying22
  a55 := Try.isAgg22
  z55 := Try.sizeOf22
  v55 := Try.zeroValue22
  t66 := Try.underlying130
  a66 := Try.isAgg130
  z66 := Try.sizeOf130
  v66 := Try.zeroValue130
  t70 := Try.underlying134
  a70 := Try.isAgg134
  z70 := Try.sizeOf134
  v70 := Try.zeroValue134
  t76 := Try.underlying136
  a76 := Try.isAgg136
  z76 := Try.sizeOf136
  v76 := Try.zeroValue136
  t77 := Try.underlying137
  a77 := Try.isAgg137
  z77 := Try.sizeOf137
  v77 := Try.zeroValue137 }
end Go.Proofs.Ytnclclpfmldocaa

/- slices.SortFunc of keys. -/
namespace Go.Proofs.Ytnclclpfmldocaa
open Go.RowKit Go.Sort Go.Shelf
set_option maxRecDepth 100000
set_option linter.unusedSimpArgs false
set_option linter.unusedVariables false

theorem ltK (a b : K3) : ltOf cfK a b = true ↔ BefK a b := by
  unfold ltOf
  rw [decide_eq_true_iff]
  exact cfK_lt a b
theorem ltKf (a b : K3) : ltOf cfK a b = false ↔ ¬ BefK a b := by
  rw [← ltK, Bool.not_eq_true]
theorem swoK : SWO (ltOf cfK) := by
  refine ⟨fun x => ?_, fun x y z h1 h2 => ?_, fun x y z h1 h2 => ?_⟩
  · rw [ltKf]; unfold BefK; omega
  · rw [ltK] at *; unfold BefK at *; omega
  · rw [ltKf] at *; unfold BefK at *; omega
theorem sortK_calls (blk c : Nat) (d : Array K3) (w : World) (hH : HoldsK encK 3 w blk 0 d) (hblk : blk < w.heap.size) (hsz : d.size < 4611686018427387904) :
    Calls Try.prog 80 #[.slice (some ⟨blk, 0, none⟩) d.size c, .func (.func 58) #[] #[]] w fun e w' =>
      e = .returned (.tuple #[]) ∧ ∃ d' n os, PermIn 0 d.size d d' ∧ SortedIn (ltOf cfK) 0 d.size d' ∧ w' = grow (putRowK encK 3 (Sort.ahead w n) blk 0 d') os :=
  AnyQ.slices_SortFunc laySF 3 (fun w => Try.isAgg93 w) (fun w => Try.sizeOf93 w) encK (fun _ => rfl)
    (fun x v hv => by simp [encK] at hv; rcases hv with rfl | rfl | rfl <;> rfl) cfK swoK 58 #[] blk 0 c d w
    (enters_of Try.func58 (by kernel_rfl) rfl) (fun m os dk hs x y => by simpa using compare_calls x y _) hH hblk hsz
theorem permK_sorted : ∀ X m : List K3, X.Perm m → X.Pairwise (fun a b => ¬ BefK b a) → m.Pairwise BefK → X = m
  | [], m, hp, _, _ => (List.Perm.nil_eq hp)
  | x :: X, m, hp, hX, hm => by
    cases m with
    | nil => exact absurd hp.length_eq (by simp)
    | cons y m =>
      obtain ⟨a1, a2⟩ := List.pairwise_cons.1 hX
      obtain ⟨b1, b2⟩ := List.pairwise_cons.1 hm
      have hx : x ∈ y :: m := hp.mem_iff.1 (by simp)
      have hy : y ∈ x :: X := hp.mem_iff.2 (by simp)
      have he : x = y := by
        rcases List.mem_cons.1 hx with h | h
        · exact h
        · rcases List.mem_cons.1 hy with h2 | h2
          · exact h2.symm
          · exact absurd (b1 x h) (a1 y h2)
      subst he
      rw [permK_sorted X m (List.perm_cons _ |>.1 hp) a2 b2]
theorem flatK_list (d : Array K3) : (flatK encK 3 d).toList = d.toList.flatMap encK := by
  refine List.ext_getElem? fun i => ?_
  by_cases hi : i < d.size * 3
  · have h1 := get_flatK encK 3 d i hi
    have hk : i / 3 < d.size := by omega
    have h2 := flat_get (enc := encK) (sz := 3) (fun _ => rfl) d.toList (i / 3) d[i / 3] (by simp [hk]) (i % 3)
    have hl : i % 3 < (encK d[i / 3]).length := by rw [show (encK d[i / 3]).length = 3 from rfl]; omega
    have h3 := h2 _ (List.getElem?_eq_getElem hl)
    rw [show i / 3 * 3 + i % 3 = i by omega] at h3
    rw [h3]
    have hi' : i < (flatK encK 3 d).size := by simpa using hi
    rw [Array.getElem?_toList, Array.getElem?_eq_getElem hi']
    rw [getElem!_pos _ i hi'] at h1
    rw [h1]
    have : d[i / 3]! = d[i / 3] := getElem!_pos d _ hk
    rw [this, getElem!_pos (encK d[i / 3]) (i % 3) hl]
  · rw [Array.getElem?_toList, Array.getElem?_eq_none (by simpa using hi), List.getElem?_eq_none (by rw [flat_len (sz := 3) (fun _ => rfl)]; simpa using hi)]
theorem own_sortedK {base : Nat} {e : TypeId} {W : World} {v : Value} {xs : List K3} {blk cap n : Nat} {d' : Array K3} {os : Array Obj} (h : Own encK 3 base e W v xs) (hv : v = .slice (some ⟨blk, 0, none⟩) xs.length cap) (hd : d'.size = xs.length) :
    Own encK 3 base e (grow (putRowK encK 3 (Sort.ahead W n) blk 0 d') os) v d'.toList := by
  obtain ⟨h1, h2⟩ := h
  have hdl : d'.toList.length = xs.length := by simpa using hd
  refine ⟨by rw [flat_len (sz := 3) (fun _ => rfl)], ?_⟩
  rcases h2 with ⟨rfl, h0⟩ | ⟨g, cap', cur, e1, hg, hh, r1, r2, r3, r4⟩
  · cases hv
  · rw [e1] at hv
    injection hv with e2 e3 e4
    injection e2 with e2
    injection e2 with e2
    subst e2 e4
    have hlt := heap_lt hh
    have hheap : (grow (putRowK encK 3 (Sort.ahead W n) g 0 d') os).heap[g]? = some (.cells (putCells id 0 (flatK encK 3 d') cur) e (0, 0)) := by
      have e1 : (grow (putRowK encK 3 (Sort.ahead W n) g 0 d') os).heap = (W.heap.modify g (onCells (putCells id 0 (flatK encK 3 d')))) ++ os := rfl
      rw [e1, Array.getElem?_append_left (by simpa using hlt), Array.getElem?_modify, if_pos rfl, hh]; rfl
    refine .inr ⟨g, cap', _, by rw [e1, hdl], hg, hheap, by rw [hdl]; exact r1, r2, by simp [putCells, r3], ?_⟩
    rw [hdl, ← flatK_list]
    refine List.ext_getElem? fun i => ?_
    by_cases hi : i < xs.length * 3
    · have hi2 : i < cur.size := by rw [r3]; omega
      have hi3 : i < (flatK encK 3 d').size := by simp [hd]; omega
      rw [List.getElem?_take_of_lt hi, Array.getElem?_toList, Array.getElem?_toList, Array.getElem?_eq_getElem hi3]
      unfold putCells
      rw [Array.getElem?_mapIdx, Array.getElem?_eq_getElem hi2, Option.map_some, if_pos ⟨Nat.zero_le _, by simpa using hi3⟩, Nat.sub_zero, id, getElem!_pos _ i hi3]
    · rw [List.getElem?_eq_none (by simp; omega), Array.getElem?_toList, Array.getElem?_eq_none (by simp [hd]; omega)]

set_option maxRecDepth 100000 in
set_option maxHeartbeats 1000000 in
theorem sortedFunc_calls (n g b : Nat) (hn : 10 ≤ n) (l : List Me) (ck : Nat) (hM : Mok l ck) (hl : l.length ≤ 1000000) (ks : List K3) (hks : ks.Perm (kys l)) (hso : ks.Pairwise BefK) (w : World) (hK : KyPre (fun k => k < w.heap.size) g b l ck w) :
    CallsIn Fence.wide n Try.prog 76 #[.func (.func 81) #[] #[.pointer (some ⟨g, 0, none⟩)], .func (.func 58) #[] #[]] w
      fun e w' => ∃ v, e = .returned v ∧ Own encK 3 w.heap.size 93 w' v ks ∧ Below w.heap.size w w' := by
  refine callsIn_of_wp Try.func76 rfl trivial ?_ rfl
  simp only [Try.ntmps76, List.size_toArray, List.length_cons, List.length_nil, Nat.reduceAdd, Nat.reduceSub, Array.replicate_succ, Array.replicate_zero, List.push_toArray, List.append_toArray, List.nil_append, List.cons_append]
  have c1 := collect_calls (n - 1) g b (by omega) l ck hM hl w hK
  gi_wp2
  refine ⟨trivial, fun _ => by omega, c1.mono ?_⟩
  rintro e W ⟨v, xs, rfl, hxs, ho, hB⟩
  have hlen : xs.length ≤ 1000000 := by rw [hxs.length_eq]; simpa [kys] using hl
  rcases ho.2 with ⟨rfl, h0⟩ | ⟨q, cap, cur, rfl, hq, hh, r1, r2, r3, r4⟩
  · obtain rfl : xs = [] := List.eq_nil_of_length_eq_zero h0
    obtain rfl : ks = [] := List.Perm.eq_nil (hks.trans hxs.symm)
    have c2 := callsIn_wide (n := n - 1) |>.2 (AnyF.slices_SortFunc_none laySF none 0 (.func (.func 58) #[] #[]) W)
    change CallsIn _ _ Try.prog 80 _ _ _ at c2
    gi_wp2
    refine ⟨trivial, fun _ => by omega, c2.mono ?_⟩
    rintro e w' ⟨rfl, rfl⟩
    gi_wp2
    go_ret
    exact ⟨_, rfl, ho, hB⟩
  · have hlt := heap_lt hh
    have hH : HoldsK encK 3 W q 0 xs.toArray := by
      intro j hj
      have hj3 : j < xs.length * 3 := by simpa using hj
      have ha : j < cur.size := by omega
      have hfr : W.frozen? ⟨q, 0 + j, none⟩ = false := by simp [World.frozen?, hh]
      refine ⟨?_, hfr⟩
      have hc : W.cell? ⟨q, 0 + j, none⟩ = some cur[j] := by simp [World.cell?, hh, ha]
      rw [hc]
      have h1 : (flatK encK 3 xs.toArray).toList[j]? = (xs.flatMap encK)[j]? := by rw [flatK_list]
      rw [← r4, List.getElem?_take_of_lt hj3, Array.getElem?_toList, Array.getElem?_toList, Array.getElem?_eq_getElem ha, Array.getElem?_eq_getElem hj] at h1
      rw [getElem!_pos _ j hj]
      exact h1.symm
    have c2 := callsIn_wide (n := n - 1) |>.2 (sortK_calls q cap xs.toArray W hH hlt (by simp; omega))
    rw [List.size_toArray] at c2
    gi_wp2
    refine ⟨trivial, fun _ => by omega, c2.mono ?_⟩
    rintro e w' ⟨rfl, d', m, os, hperm, hsort, rfl⟩
    obtain ⟨p1, _, p3⟩ := hperm
    have p1' : d'.size = xs.length := by simpa using p1
    have hX : d'.toList = ks := by
      have e1 : (d'.extract 0 xs.length).toList = d'.toList := by simp [← p1']
      have e2 : (xs.toArray.extract 0 xs.length).toList = xs := by simp
      rw [e1, e2] at p3
      refine permK_sorted _ _ (p3.trans (hxs.trans hks.symm)) ?_ hso
      rw [List.pairwise_iff_getElem]
      intro i j hi hj hij
      simp only [Array.length_toList] at hi hj
      have := hsort i j (Nat.zero_le _) hij (by omega)
      rw [ltKf] at this
      simpa [hi, hj] using this
    have hown := own_sortedK (n := m) (os := os) ho rfl p1'
    rw [hX] at hown
    have hB2 : Below w.heap.size w (grow (putRowK encK 3 (Sort.ahead W m) q 0 d') os) := by
      refine ⟨hB.os, hB.tape, hB.output, ?_, fun k hk => ?_⟩
      · have e1 : (grow (putRowK encK 3 (Sort.ahead W m) q 0 d') os).heap = (W.heap.modify q (onCells (putCells id 0 (flatK encK 3 d')))) ++ os := rfl
        rw [e1]; have := hB.size; simp; omega
      · have e1 : (grow (putRowK encK 3 (Sort.ahead W m) q 0 d') os).heap = (W.heap.modify q (onCells (putCells id 0 (flatK encK 3 d')))) ++ os := rfl
        have := hB.size
        rw [e1, Array.getElem?_append_left (by simp; omega), Array.getElem?_modify, if_neg (by omega)]
        exact hB.block k hk
    generalize grow (putRowK encK 3 (Sort.ahead W m) q 0 d') os = W5 at *
    gi_wp2
    go_ret
    exact ⟨_, rfl, hown, hB2⟩
end Go.Proofs.Ytnclclpfmldocaa
