import Derived.Shelf.SlSortCmp.NoneTotal
import Derived.Test.YtniiaaagammebaaProg
import Derived.Test.YtniiaaagammebaaBdC
import Derived.Deep.Quiet
import Derived.Deep.QuietTactic

/- The kit's contract of slices.SortFunc at this program. -/
namespace Go.Proofs.Ytniiaaagammebaa
open Go.Shelf

def laySF_ren : Go.Shelf.Ren := ⟨fun | 6 => 61 | 14 => 68 | 15 => 69 | 20 => 72 | 21 => 73 | 22 => 74 | 23 => 75 | 24 => 76 | 25 => 77 | 26 => 78 | 27 => 79 | 28 => 80 | 29 => 81 | 46 => 83 | 47 => 84 | 48 => 85 | 49 => 86 | 50 => 87 | 57 => 88 | n => n, fun | 0 => 0 | 3 => 3 | 4 => 4 | 5 => 5 | 9 => 9 | 22 => 22 | 24 => 50 | 25 => 87 | 39 => 59 | 45 => 95 | 46 => 96 | 50 => 82 | 53 => 102 | 55 => 104 | 66 => 106 | 70 => 110 | 76 => 112 | 77 => 113 | n => n, fun | n => n⟩
theorem laySF : Go.Proofs.SlLaysF0.n6 Try.prog laySF_ren := {
  mixed := by kernel_rfl
  f6 := ⟨Try.f61.name, by kernel_rfl, Try.func61.trans (congrArg some (by kernel_rfl))⟩
  f14 := ⟨Try.f68.name, by kernel_rfl, Try.func68.trans (congrArg some (by kernel_rfl))⟩
  f15 := Try.func69.trans (congrArg some (by kernel_rfl))
  f20 := ⟨Try.f72.name, by kernel_rfl, Try.func72.trans (congrArg some (by kernel_rfl))⟩
  f21 := ⟨Try.f73.name, by kernel_rfl, Try.func73.trans (congrArg some (by kernel_rfl))⟩
  f22 := ⟨Try.f74.name, by kernel_rfl, Try.func74.trans (congrArg some (by kernel_rfl))⟩
  f23 := ⟨Try.f75.name, by kernel_rfl, Try.func75.trans (congrArg some (by kernel_rfl))⟩
  f24 := ⟨Try.f76.name, by kernel_rfl, Try.func76.trans (congrArg some (by kernel_rfl))⟩
  f25 := ⟨Try.f77.name, by kernel_rfl, Try.func77.trans (congrArg some (by kernel_rfl))⟩
  f26 := ⟨Try.f78.name, by kernel_rfl, Try.func78.trans (congrArg some (by kernel_rfl))⟩
  f27 := ⟨Try.f79.name, by kernel_rfl, Try.func79.trans (congrArg some (by kernel_rfl))⟩
  f28 := Try.func80.trans (congrArg some (by kernel_rfl))
  f29 := Try.func81.trans (congrArg some (by kernel_rfl))
  f46 := ⟨Try.f83.name, by kernel_rfl, Try.func83.trans (congrArg some (by kernel_rfl))⟩
  f47 := Try.func84.trans (congrArg some (by kernel_rfl))
  f48 := Try.func85.trans (congrArg some (by kernel_rfl))
  f49 := ⟨Try.f86.name, by kernel_rfl, Try.func86.trans (congrArg some (by kernel_rfl))⟩
  f50 := ⟨Try.f87.name, by kernel_rfl, Try.func87.trans (congrArg some (by kernel_rfl))⟩
  f57 := ⟨Try.f88.name, by kernel_rfl, Try.func88.trans (congrArg some (by kernel_rfl))⟩
  t0 := Try.underlying0
  a0 := Try.isAgg0
  z0 := Try.sizeOf0
  v0 := Try.zeroValue0
  t3 := Try.underlying3
  a3 := Try.isAgg3
  z3 := Try.sizeOf3
  v3 := Try.zeroValue3
  t4 := Try.underlying4
  a4 := Try.isAgg4
  z4 := Try.sizeOf4
  v4 := Try.zeroValue4
  t5 := Try.underlying5
  a5 := Try.isAgg5
  z5 := Try.sizeOf5
  v5 := Try.zeroValue5
  t9 := Try.underlying9
  a9 := Try.isAgg9
  z9 := Try.sizeOf9
  v9 := Try.zeroValue9
  t22 := Try.underlying22
  a22 := Try.isAgg22
  z22 := Try.sizeOf22
  v22 := Try.zeroValue22
  t25 := Try.underlying87
  a25 := Try.isAgg87
  z25 := Try.sizeOf87
  v25 := Try.zeroValue87
  t39 := Try.underlying59
  a39 := Try.isAgg59
  z39 := Try.sizeOf59
  v39 := Try.zeroValue59
  t45 := Try.underlying95
  a45 := Try.isAgg95
  z45 := Try.sizeOf95
  v45 := Try.zeroValue95
  t46 := Try.underlying96
  a46 := Try.isAgg96
  z46 := Try.sizeOf96
  v46 := Try.zeroValue96
  t50 := Try.underlying82
  a50 := Try.isAgg82
  z50 := Try.sizeOf82
  v50 := Try.zeroValue82
  t53 := Try.underlying102
  a53 := Try.isAgg102
  z53 := Try.sizeOf102
  v53 := Try.zeroValue102
  t55 := Try.underlying104
  a55 := Try.isAgg104
  z55 := Try.sizeOf104
  v55 := Try.zeroValue104
  t66 := Try.underlying106
  a66 := Try.isAgg106
  z66 := Try.sizeOf106
  v66 := Try.zeroValue106
  t70 := Try.underlying110
  a70 := Try.isAgg110
  z70 := Try.sizeOf110
  v70 := Try.zeroValue110
  t76 := Try.underlying112
  a76 := Try.isAgg112
  z76 := Try.sizeOf112
  v76 := Try.zeroValue112
  t77 := Try.underlying113
  a77 := Try.isAgg113
  z77 := Try.sizeOf113
  v77 := Try.zeroValue113 }
end Go.Proofs.Ytniiaaagammebaa

/- slices.SortFunc of blocks by their places, as a contract of the engine. -/
namespace Go.Proofs.Ytniiaaagammebaa
open Go.RowKit Go.Sort
set_option maxRecDepth 100000
set_option linter.unusedSimpArgs false
set_option linter.unusedVariables false

abbrev Fb := Fin 256 × Fin 7
def encF (b : Fb) : List Value := [.int .i64 (b.1.1 : Int), .int .i64 (b.2.1 : Int)]
def cfF (a b : Fb) : Int := (a.1.1 : Int) - (b.1.1 : Int)
theorem ltF (a b : Fb) : ltOf cfF a b = decide (a.1.1 < b.1.1) := by
  unfold ltOf cfF
  by_cases h : a.1.1 < b.1.1
  · rw [decide_eq_true h, decide_eq_true (by omega)]
  · rw [decide_eq_false h, decide_eq_false (by omega)]
theorem swoF : SWO (ltOf cfF) := by
  refine ⟨fun x => ?_, fun x y z h1 h2 => ?_, fun x y z h1 h2 => ?_⟩
  · rw [ltF]; simp
  · rw [ltF] at *; simp at *; omega
  · rw [ltF] at *; simp at *; omega

theorem cmp_calls (W : World) (a b : Fb) : Calls Try.prog 62 #[.agg (encF a).toArray, .agg (encF b).toArray] W fun e w' => e = .returned (.int .i64 (cfF a b)) ∧ ∃ q os, w' = grow (W.drewN q) os := by
  obtain ⟨⟨a1, ha⟩, ⟨a2, _⟩⟩ := a
  obtain ⟨⟨b1, hb⟩, ⟨b2, _⟩⟩ := b
  simp only [encF, cfF]
  have hw : IntKind.i64.wrap ((a1 : Int) - b1) = (a1 : Int) - b1 := wi64 _ (by omega)
  go_enter Try.func62, Try.ntmps62
  go_wp2
  go_ret
  refine ⟨rfl, 0, #[Obj.cells #[.int .i64 a1, .int .i64 a2] 50, Obj.cells #[.int .i64 b1, .int .i64 b2] 50], ?_⟩
  rw [alloc_eq_grow, alloc_eq_grow, grow_grow]
  rfl

theorem sort_calls (blk c : Nat) (d : Array Fb) (w : World) (hH : HoldsK encF 2 w blk 0 d) (hblk : blk < w.heap.size) (hsz : d.size < 4611686018427387904) :
    Calls Try.prog 61 #[.slice (some ⟨blk, 0, none⟩) d.size c, .func (.func 62) #[] #[]] w fun e w' =>
      e = .returned (.tuple #[]) ∧ ∃ d' n os, PermIn 0 d.size d d' ∧ SortedIn (ltOf cfF) 0 d.size d' ∧ w' = grow (putRowK encF 2 (Sort.ahead w n) blk 0 d') os :=
  AnyQ.slices_SortFunc laySF 2 (fun w => Try.isAgg50 w) (fun w => Try.sizeOf50 w) encF (fun _ => rfl)
    (fun x v hv => by simp [encF] at hv; rcases hv with rfl | rfl <;> rfl) cfF swoF 62 #[] blk 0 c d w
    (enters_of Try.func62 (by kernel_rfl) rfl) (fun m os dk hs x y => by simpa using cmp_calls _ x y) hH hblk hsz

def toF (b : Bl) : Fb := (⟨b.1 % 256, Nat.mod_lt _ (by decide)⟩, ⟨b.2 % 7, Nat.mod_lt _ (by decide)⟩)
def ofF (b : Fb) : Bl := (b.1.1, b.2.1)
theorem ofF_toF {b : Bl} (h : b.1 < 256 ∧ b.2 ≤ 6) : ofF (toF b) = b := by
  obtain ⟨a, o⟩ := b
  simp only [ofF, toF] at *
  rw [Nat.mod_eq_of_lt h.1, Nat.mod_eq_of_lt (by omega)]
theorem perm_sorted : ∀ X m : List Bl, X.Perm m → X.Pairwise (fun a b => a.1 ≤ b.1) → m.Pairwise (fun a b => a.1 < b.1) → X = m
  | [], m, hp, _, _ => (List.Perm.nil_eq hp)
  | x :: X, m, hp, hX, hm => by
    cases m with
    | nil => exact absurd hp.length_eq (by simp)
    | cons y m =>
      obtain ⟨a1, a2⟩ := List.pairwise_cons.1 hX
      obtain ⟨b1, b2⟩ := List.pairwise_cons.1 hm
      have hx : x ∈ y :: m := hp.mem_iff.1 (by simp)
      have hy : y ∈ x :: X := hp.mem_iff.2 (by simp)
      have he : x = y := by
        rcases List.mem_cons.1 hx with h | h
        · exact h
        · rcases List.mem_cons.1 hy with h2 | h2
          · exact h2.symm
          · have := b1 x h; have := a1 y h2; omega
      subst he
      rw [perm_sorted X m (List.perm_cons _ |>.1 hp) a2 b2]

def sortS : Spec := { rel := fun args ins res outs => ∃ l m : List Bl, l.length ≤ 1000000 ∧ (∀ b ∈ l, b.1 < 256 ∧ b.2 ≤ 6) ∧ m.Perm l ∧ m.Pairwise (fun a b => a.1 < b.1) ∧ args = [.row 0 2 0 l.length, .fn 62 []] ∧ ins = [.rows 50 2 (l.map encN)] ∧ res = .tup [] ∧ outs = [.rows 50 2 (m.map encN)] }
theorem sort_at (l m : List Bl) (h : l.length ≤ 1000000) (hb : ∀ b ∈ l, b.1 < 256 ∧ b.2 ≤ 6) (hp : m.Perm l) (hs : m.Pairwise (fun a b => a.1 < b.1)) : sortS.rel [.row 0 2 0 l.length, .fn 62 []] [.rows 50 2 (l.map encN)] (.tup []) [.rows 50 2 (m.map encN)] := ⟨l, m, h, hb, hp, hs, rfl, rfl, rfl, rfl⟩

theorem sort_ok : Ok Try.prog 61 sortS := by
  refine ⟨⟨_, Try.func61, rfl, rfl⟩, ?_⟩
  rintro args ins res outs ⟨l, m, hl, hb, hp, hs, rfl, rfl, rfl, rfl⟩ w V Bo μ vals hin
  obtain ⟨v0, v1, rfl⟩ : ∃ v0 v1, vals = #[v0, v1] := by
    have := hin.n
    match vals, this with
    | ⟨[a, b]⟩, _ => exact ⟨a, b, rfl⟩
  have r0 := hin.rep 0 _ v0 rfl rfl
  have r1 := hin.rep 1 _ v1 rfl rfl
  have hob := hin.ob 0 _ rfl
  cases r1 with
  | @fn _ _ vs hsz hcap =>
  obtain rfl : vs = #[] := by simpa using hsz
  generalize hll : l.length = len at *
  cases r0 with
  | @rowNil _ _ hb0 =>
    obtain rfl : l = [] := List.eq_nil_of_length_eq_zero hll
    obtain rfl : m = [] := List.Perm.eq_nil hp
    refine (AnyF.slices_SortFunc_none laySF none 0 (.func (.func 62) #[] #[]) w).mono ?_
    rintro e w' ⟨rfl, rfl⟩
    refine ⟨_, μ, rfl, Ev.refl w' Bo, fun i x hx => hx, .tup rfl (by simp), fun i o hi _ => ?_, fun i k hi hk => ?_, fun i j k hi hj _ _ hki hkj => hin.inj i j k hi hj hki hkj, fun i hi => hin.lt i hi, by simp⟩
    · match i, hi with
      | 0, hi =>
        simp at hi; subst hi
        exact .rowsNil hb0 (by decide)
    · simp at hi
      rw [hin.lt i (by simpa using hi)] at hk; cases hk
  | @row _ _ _ _ b c arr0 t0 hb0 q2 q3 q4 q5 =>
  generalize hrs : l.map encN = rs at hob
  cases hob with
  | rowsNil b1 _ => rw [hb0] at b1; cases b1
  | @rows _ _ _ b' arr b1 b2 b3 b4 b5 b6 =>
  subst hrs
  rw [hb0] at b1; injection b1 with b1; injection b1 with b1; subst b1
  clear q2 q5
  have hblk := heap_lt b2
  have hlm : (l.map encN).length = len := by simp [hll]
  rw [hlm] at b4
  have hmem : ∀ k (hk : k < l.length), l[k].1 < 256 ∧ l[k].2 ≤ 6 := fun k hk => hb _ (List.getElem_mem hk)
  have hds : ((l.map toF).toArray).size = len := by simp [hll]
  have hH : HoldsK encF 2 w b 0 (l.map toF).toArray := by
    intro j hj
    rw [size_flatK, hds] at hj
    rw [get_flatK _ _ _ _ (by rw [hds]; exact hj)]
    have ha : j < arr.size := by omega
    have hfr : w.frozen? ⟨b, 0 + j, none⟩ = false := by simp [World.frozen?, b2]
    refine ⟨?_, hfr⟩
    have hk : j / 2 < l.length := by omega
    have hkj : j / 2 * 2 + j % 2 = j := by omega
    have hv : arr[j / 2 * 2 + j % 2]? = some arr[j] := by rw [hkj]; simp [ha]
    have hc : w.cell? ⟨b, 0 + j, none⟩ = some arr[j] := by simp [World.cell?, b2, ha]
    rw [hc]
    obtain ⟨m1, m2⟩ := hmem (j / 2) hk
    have hd : (l.map toF).toArray[j / 2]! = toF l[j / 2] := by
      rw [List.getElem!_toArray, List.getElem!_eq_getElem?_getD, List.getElem?_map, List.getElem?_eq_getElem hk]; rfl
    rw [hd]
    have hrow : (l.map encN)[j / 2]? = some (encN l[j / 2]) := by rw [List.getElem?_map, List.getElem?_eq_getElem hk]; rfl
    clear hc
    generalize arr[j] = u at *
    congr 1
    have h2 : j % 2 = 0 ∨ j % 2 = 1 := by omega
    rcases h2 with h2 | h2
    · have := b6 (j / 2) (j % 2) _ (.int .i64 (l[j / 2].1 : Int)) _ hrow (by rw [h2]; rfl) hv
      cases this
      rw [h2]
      simp [encF, toF, Nat.mod_eq_of_lt m1]
    · have := b6 (j / 2) (j % 2) _ (.int .i64 (l[j / 2].2 : Int)) _ hrow (by rw [h2]; rfl) hv
      cases this
      rw [h2]
      simp [encF, toF, Nat.mod_eq_of_lt (show l[j / 2].2 < 7 by omega)]
  rw [show (0 * 2 : Nat) = 0 from rfl]
  have hcalls := sort_calls b c (l.map toF).toArray w hH hblk (by rw [hds]; omega)
  rw [hds] at hcalls
  refine hcalls.mono ?_
  rintro e w' ⟨rfl, d', n, os, hperm, hsort, rfl⟩
  obtain ⟨p1, _, p3⟩ := hperm
  rw [hds] at p1
  have hX : d'.toList.map ofF = m := by
    have e1 : (d'.extract 0 len).toList = d'.toList := by simp [← p1]
    have e2 : ((l.map toF).toArray.extract 0 len).toList = l.map toF := by simp [← hll, List.take_of_length_le]
    rw [e1, e2] at p3
    have e3 : (l.map toF).map ofF = l := by
      rw [List.map_map]
      have : ∀ x ∈ l, (ofF ∘ toF) x = id x := fun x hx => ofF_toF (hb x hx)
      rw [List.map_congr_left this, List.map_id]
    have p4 := p3.map ofF
    rw [e3] at p4
    refine perm_sorted _ _ (p4.trans hp.symm) ?_ hs
    rw [List.pairwise_iff_getElem]
    intro i j hi hj hij
    simp only [List.length_map, Array.length_toList] at hi hj
    have := hsort i j (Nat.zero_le _) hij (by omega)
    rw [ltF] at this
    simp only [decide_eq_false_iff_not, Nat.not_lt] at this
    simpa [ofF, hi, hj] using this
  have hBo : Bo b := hin.bo 0 b (by simp) hb0
  have hheap : ∀ k, k < w.heap.size → (grow (putRowK encF 2 (Sort.ahead w n) b 0 d') os).heap[k]? = if k = b then some (.cells (putCells id 0 (flatK encF 2 d') arr) 50 (0, 0)) else w.heap[k]? := by
    intro k hk
    have e1 : (grow (putRowK encF 2 (Sort.ahead w n) b 0 d') os).heap = (w.heap.modify b (onCells (putCells id 0 (flatK encF 2 d')))) ++ os := rfl
    rw [e1, Array.getElem?_append_left (by simpa using hk), Array.getElem?_modify]
    by_cases hkb : k = b
    · subst hkb; rw [if_pos rfl, if_pos rfl, b2]; rfl
    · rw [if_neg (fun h => hkb h.symm), if_neg hkb]
  have hsize : w.heap.size ≤ (grow (putRowK encF 2 (Sort.ahead w n) b 0 d') os).heap.size := by
    have e1 : (grow (putRowK encF 2 (Sort.ahead w n) b 0 d') os).heap = (w.heap.modify b (onCells (putCells id 0 (flatK encF 2 d')))) ++ os := rfl
    rw [e1]; simp
  have hpc : (putCells id 0 (flatK encF 2 d') arr).size = arr.size := by simp [putCells]
  refine ⟨_, μ, rfl, ⟨rfl, rfl, rfl, hsize, fun k hk hn => ?_, fun k ar t zz hk hh => ?_⟩, fun i x hx => hx, .tup rfl (by simp), fun i o hi _ => ?_, fun i k hi hk => ?_, fun i j k hi hj _ _ hki hkj => hin.inj i j k hi hj hki hkj, fun i hi => hin.lt i hi, by simp⟩
  · rw [hheap k hk, if_neg (fun h : k = b => hn (h ▸ hBo))]
  · by_cases hkb : k = b
    · subst hkb
      rw [b2] at hh; injection hh with hh; injection hh with e1 e2 e3; subst e1 e2 e3
      exact ⟨_, by rw [hheap k hblk, if_pos rfl], hpc⟩
    · exact ⟨ar, by rw [hheap k (heap_lt hh), if_neg hkb]; exact hh, rfl⟩
  · match i, hi with
    | 0, hi =>
      simp at hi; subst hi
      have hml : m.length = len := by rw [← hX]; simp [p1]
      refine .rows hb0 (by rw [hheap b hblk, if_pos rfl]) (by decide) (by rw [hpc]; simp [hml]; omega) (fun i r hi => encNe.rows m r (List.mem_of_getElem? hi)) (fun k j r x v hr hx hv => ?_)
      have hk : k < m.length := by have := (List.getElem?_eq_some_iff.1 hr).1; simpa using this
      rw [List.getElem?_map, List.getElem?_eq_getElem hk] at hr
      simp only [Option.map_some, Option.some.injEq] at hr; subst hr
      have hj : j < 2 := (List.getElem?_eq_some_iff.1 hx).1
      have hlt : k * 2 + j < arr.size := by rw [← hpc]; exact (Array.getElem?_eq_some_iff.1 hv).1
      have hkj : k * 2 + j < d'.size * 2 := by omega
      unfold putCells at hv
      rw [Array.getElem?_mapIdx] at hv
      simp only [Array.getElem?_eq_getElem hlt, Option.map_some, Option.some.injEq] at hv
      rw [if_pos ⟨Nat.zero_le _, by rw [size_flatK]; simpa using hkj⟩, Nat.sub_zero, id, get_flatK _ _ _ _ hkj] at hv
      have hdiv : (k * 2 + j) / 2 = k := by omega
      have hmod : (k * 2 + j) % 2 = j := by omega
      rw [hdiv, hmod] at hv
      have hk' : k < d'.size := by omega
      have hmk : m[k] = ofF d'[k] := by
        have : (d'.toList.map ofF)[k]'(by simpa using hk') = ofF d'[k] := by simp
        rw [← this]; congr 1; exact hX.symm
      rw [hmk] at hx
      have hdk : d'[k]! = d'[k] := by simp [hk']
      rw [hdk] at hv
      subst hv
      have h2 : j = 0 ∨ j = 1 := by omega
      rcases h2 with rfl | rfl
      · simp [encN, ofF] at hx; subst hx; exact .int
      · simp [encN, ofF] at hx; subst hx; exact .int
  · simp at hi
    rw [hin.lt i (by simpa using hi)] at hk; cases hk
end Go.Proofs.Ytniiaaagammebaa
