/- The order of the parts, and sort.Slice at three parts. -/
import Derived.Test.YtpkiabhlmjnemaaShrG
import Derived.Test.YtpkiabhlmjnemaaShelfSort
import Derived.Deep.Quiet
import Derived.Deep.QuietTactic
namespace Go.Proofs.Ytpkiabhlmjnemaa
open Go.RowKit Go.Sort
set_option maxRecDepth 100000
set_option linter.unusedSimpArgs false
set_option linter.unusedVariables false

/-- a part: kind, share, remainder -/
abbrev P3 := Int × Int × Int
def plt (p q : P3) : Bool := if p.2.2 = q.2.2 then decide (p.1 < q.1) else decide (q.2.2 < p.2.2)
def encV3 (p : P3) : List Value := [.int .i64 p.1, .int .i64 p.2.1, .int .i64 p.2.2]

theorem less_calls (W : World) (blk : Nat) (hb : blk < W.heap.size) (a b : P3) (i j : Nat) (hi : i < 3) (hj : j < 3)
    (c1 : W.cell? ⟨blk, i * 3, none⟩ = some (.int .i64 a.1)) (c2 : W.cell? ⟨blk, i * 3 + 2, none⟩ = some (.int .i64 a.2.2)) (c3 : W.cell? ⟨blk, j * 3, none⟩ = some (.int .i64 b.1)) (c4 : W.cell? ⟨blk, j * 3 + 2, none⟩ = some (.int .i64 b.2.2)) :
    Calls Try.prog 34 #[.int .i64 i, .int .i64 j, .pointer (some ⟨blk, 0, none⟩)] W fun e w' => e = .returned (.bool (plt a b)) ∧ ∃ q, w' = W.drewN q := by
  obtain ⟨a1, a2, a3⟩ := a
  obtain ⟨b1, b2, b3⟩ := b
  simp only at c1 c2 c3 c4
  have hi' : (i : Int) < 3 := by omega
  have hj' : (j : Int) < 3 := by omega
  unfold plt
  simp only
  go_enter Try.func34, Try.ntmps34
  by_cases h : a3 = b3
  · go_wp2
    go_quiet (fail)
    go_wp2
    go_quiet (fail)
    go_wp2
    go_ret
    exact ⟨by simp [h], _, rfl⟩
  · go_wp2
    go_quiet (fail)
    go_wp2
    go_quiet (fail)
    go_wp2
    go_ret
    exact ⟨by simp [h], _, rfl⟩

def cells9 (x y z : P3) : List AV := [iv x.1, iv x.2.1, iv x.2.2, iv y.1, iv y.2.1, iv y.2.2, iv z.1, iv z.2.1, iv z.2.2]
noncomputable def svT : TypeInfo := (Try.prog.info? 55).get (by kernel_rfl)
noncomputable def svE : TypeInfo := (Try.prog.info? 52).get (by kernel_rfl)
theorem svK (n : Nat) (h2 : 2 ≤ n) : Lib.swapperK n svE 25 = 9 := by
  have a : svE.hasPointers = false := by kernel_rfl
  have b : svE.bytes = 24 := by kernel_rfl
  have c : (n == 0) = false := by simp; omega
  have d : (n == 1) = false := by simp; omega
  simp [Lib.swapperK, a, b, c, d]

theorem sort_calls (blk c : Nat) (x y z : P3) (w : World) (hH : HoldsK encV3 3 w blk 0 #[x, y, z]) (hblk : blk < w.heap.size) :
    Calls Try.prog 33 #[.iface 55 (.slice (some ⟨blk, 0, none⟩) 3 c), .func (.func 34) #[] #[.pointer (some ⟨blk, 0, none⟩)]] w fun e w' =>
      e = .returned (.tuple #[]) ∧ ∃ n os, w' = grow (putRowK encV3 3 (Sort.ahead w n) blk 0 (Sort.insertionSort plt #[x, y, z] 0 3)) os := by
  have hless : LessReadsK Try.prog 34 #[.pointer (some ⟨blk, 0, none⟩)] encV3 3 plt blk 0 3 w := by
    intro m os dk hs i j hi hj
    have e : sortWorldK encV3 3 w blk 0 m dk os = putRowK encV3 3 (grow (Sort.ahead w m) os) blk 0 dk := by
      unfold sortWorldK; rw [putRowK_grow _ _ (Sort.ahead w m) _ blk 0 _ hblk]
    have hHg : HoldsK encV3 3 (grow (Sort.ahead w m) os) blk 0 #[x, y, z] := holdsK_grow _ _ _ _ blk 0 _ hblk (holdsK_ahead _ _ _ _ _ _ _ hH)
    have hd := holdsK_putRowK _ _ _ blk 0 #[x, y, z] dk hHg hs
    rw [← e] at hd
    have cc : ∀ t q, t < 3 → q < 3 → (sortWorldK encV3 3 w blk 0 m dk os).cell? ⟨blk, t * 3 + q, none⟩ = some (encV3 dk[t]!)[q]! := by
      intro t q ht hq
      have := (hd.cell (i := t) (c := q) (by omega) hq).1
      rwa [Nat.zero_add] at this
    refine less_calls _ blk ?_ dk[i]! dk[j]! i j hi hj (by simpa [encV3] using cc i 0 hi (by omega)) (by simpa [encV3] using cc i 2 hi (by omega)) (by simpa [encV3] using cc j 0 hj (by omega)) (by simpa [encV3] using cc j 2 hj (by omega))
    have := cc i 0 hi (by omega)
    exact cell_lt this
  exact Any.sort_Slice_small_cells laySort 55 52 svT svE (by kernel_rfl) (by kernel_rfl) (by kernel_rfl) (by kernel_rfl) 25 (fun _ => by kernel_rfl) encV3 3 (fun _ => rfl) (by kernel_rfl) (fun _ => by kernel_rfl)
    (fun x v hv => by simp [encV3] at hv; rcases hv with rfl | rfl | rfl <;> rfl) plt 34 _
    (enters_of Try.func34 (by kernel_rfl) rfl) blk 0 c #[x, y, z] (by simp) (by simp) 60 (by rw [svK _ (by simp)]; kernel_rfl) false
    (fun args W => run_callFunc_extern Try.func60 (by kernel_rfl) (by kernel_rfl) (by kernel_rfl) (e := Extern.ReflectliteSwapper.swap false) (by kernel_rfl) args W) w hless hH hblk

def sortS : Spec := { rel := fun args ins res outs => ∃ x y z p0 p1 p2 : P3, Sort.insertionSort plt #[x, y, z] 0 3 = #[p0, p1, p2] ∧ args = [.ifc 55 (.sub 0 3 0 3), .fn 34 [.ptr 0 0]] ∧ ins = [.box 53 (cells9 x y z)] ∧ res = .tup [] ∧ outs = [.box 53 (cells9 p0 p1 p2)] }
theorem sort_at (x y z p0 p1 p2 : P3) (h : Sort.insertionSort plt #[x, y, z] 0 3 = #[p0, p1, p2]) : sortS.rel [.ifc 55 (.sub 0 3 0 3), .fn 34 [.ptr 0 0]] [.box 53 (cells9 x y z)] (.tup []) [.box 53 (cells9 p0 p1 p2)] := ⟨x, y, z, p0, p1, p2, h, rfl, rfl, rfl, rfl⟩

theorem holds3 {w : World} {S : Nat → Prop} {μ : Mu} {b : Nat} {arr : Array Value} {t : TypeId} (x y z : P3) (h2 : w.heap[b]? = some (.cells arr t (0, 0))) (h3 : arr.size = 9)
    (h4 : ∀ (j : Nat) (q : AV) (v : Value), (cells9 x y z)[j]? = some q → arr[j]? = some v → Rep w S μ q v) : HoldsK encV3 3 w b 0 #[x, y, z] := by
  intro j hj
  rw [size_flatK] at hj
  have hj9 : j < 9 := by simpa using hj
  rw [get_flatK _ _ _ _ hj]
  have ha : j < arr.size := by omega
  have hfr : w.frozen? ⟨b, 0 + j, none⟩ = false := by simp [World.frozen?, h2]
  refine ⟨?_, hfr⟩
  obtain ⟨v, hv⟩ : ∃ v, arr[j]? = some v := ⟨arr[j], by simp [ha]⟩
  have hc : w.cell? ⟨b, 0 + j, none⟩ = some v := by simp [World.cell?, h2, hv]
  rw [hc]
  have key : ∀ (n : Int), (cells9 x y z)[j]? = some (iv n) → v = .int .i64 n := by
    intro n hn
    have := h4 j _ v hn hv
    cases this with | d this => cases this; rfl
  congr 1
  clear hc hv hfr ha hj
  match j, hj9 with
  | 0, _ => exact key _ rfl
  | 1, _ => exact key _ rfl
  | 2, _ => exact key _ rfl
  | 3, _ => exact key _ rfl
  | 4, _ => exact key _ rfl
  | 5, _ => exact key _ rfl
  | 6, _ => exact key _ rfl
  | 7, _ => exact key _ rfl
  | 8, _ => exact key _ rfl

theorem sort_ok : Ok Try.prog 33 sortS := by
  refine ⟨⟨_, Try.func33, rfl, rfl⟩, ?_⟩
  rintro args ins res outs ⟨x, y, z, p0, p1, p2, hs, rfl, rfl, rfl, rfl⟩ w V Bo μ vals hin
  obtain ⟨v0, v1, rfl⟩ : ∃ v0 v1, vals = #[v0, v1] := by
    have := hin.n
    match vals, this with
    | ⟨[a, b]⟩, _ => exact ⟨a, b, rfl⟩
  have r0 := hin.rep 0 _ v0 rfl rfl
  have r1 := hin.rep 1 _ v1 rfl rfl
  have hob := hin.ob 0 _ rfl
  cases r0 with
  | ifc r0 =>
  cases r0 with
  | @sub _ _ _ _ b c hb hlc hcm =>
  cases r1 with
  | @fn _ _ vs hsz hcap =>
  obtain ⟨u, rfl⟩ : ∃ u, vs = #[u] := Array.size_eq_one_iff.1 (by simpa using hsz)
  have r2 := hcap 0 _ u rfl rfl
  cases r2 with
  | @ptr _ _ b' hb' =>
  rw [hb] at hb'; injection hb' with hb'; injection hb' with hb'; subst hb'
  cases hob with
  | @box _ _ b'' arr q1 q2 q3 q4 q5 =>
  rw [hb] at q1; injection q1 with q1; injection q1 with q1; subst q1
  have hblk := heap_lt q2
  rw [show (0 * 3 : Nat) = 0 from rfl]
  refine (sort_calls b c x y z w (holds3 x y z q2 (by simpa [cells9] using q3) q4) hblk).mono ?_
  rintro e w' ⟨rfl, n, os, rfl⟩
  rw [hs]
  have hBo : Bo b := hin.bo 0 b (by simp) hb
  have hheap : ∀ k, k < w.heap.size → (grow (putRowK encV3 3 (Sort.ahead w n) b 0 #[p0, p1, p2]) os).heap[k]? = if k = b then some (.cells (putCells id 0 (flatK encV3 3 #[p0, p1, p2]) arr) 53 (0, 0)) else w.heap[k]? := by
    intro k hk
    have e1 : (grow (putRowK encV3 3 (Sort.ahead w n) b 0 #[p0, p1, p2]) os).heap = (w.heap.modify b (onCells (putCells id 0 (flatK encV3 3 #[p0, p1, p2])))) ++ os := rfl
    rw [e1, Array.getElem?_append_left (by simpa using hk), Array.getElem?_modify]
    by_cases hkb : k = b
    · subst hkb; rw [if_pos rfl, if_pos rfl, q2]; rfl
    · rw [if_neg (fun h => hkb h.symm), if_neg hkb]
  have hsize : w.heap.size ≤ (grow (putRowK encV3 3 (Sort.ahead w n) b 0 #[p0, p1, p2]) os).heap.size := by
    have e1 : (grow (putRowK encV3 3 (Sort.ahead w n) b 0 #[p0, p1, p2]) os).heap = (w.heap.modify b (onCells (putCells id 0 (flatK encV3 3 #[p0, p1, p2])))) ++ os := rfl
    rw [e1]; simp
  have hpc : (putCells id 0 (flatK encV3 3 #[p0, p1, p2]) arr).size = arr.size := by simp [putCells]
  refine ⟨_, μ, rfl, ⟨rfl, rfl, rfl, hsize, fun k hk hn => ?_, fun k ar t zz hk hh => ?_⟩, fun i x hx => hx, .tup rfl (by simp), fun i o hi _ => ?_, fun i k hi hk => ?_, fun i j k hi hj _ _ hki hkj => hin.inj i j k hi hj hki hkj, fun i hi => hin.lt i hi, by simp⟩
  · rw [hheap k hk, if_neg (fun h : k = b => hn (h ▸ hBo))]
  · by_cases hkb : k = b
    · subst hkb
      rw [q2] at hh; injection hh with hh; injection hh with e1 e2 e3; subst e1 e2 e3
      exact ⟨_, by rw [hheap k hblk, if_pos rfl], hpc⟩
    · exact ⟨ar, by rw [hheap k (heap_lt hh), if_neg hkb]; exact hh, rfl⟩
  · match i, hi with
    | 0, hi =>
      simp at hi; subst hi
      have get : ∀ j v, (putCells id 0 (flatK encV3 3 #[p0, p1, p2]) arr)[j]? = some v → j < 9 ∧ v = (encV3 (#[p0, p1, p2][j / 3]!))[j % 3]! := by
        intro j v hj
        have hlt : j < arr.size := by rw [← hpc]; exact (Array.getElem?_eq_some_iff.1 hj).1
        have h9 : j < 9 := by rw [q3] at hlt; simpa [cells9] using hlt
        refine ⟨h9, ?_⟩
        unfold putCells at hj
        rw [Array.getElem?_mapIdx] at hj
        simp only [Array.getElem?_eq_getElem hlt, Option.map_some, Option.some.injEq] at hj
        rw [← hj, if_pos ⟨Nat.zero_le _, by rw [size_flatK]; simpa using h9⟩, Nat.sub_zero, id, get_flatK _ _ _ _ (by simpa using h9)]
      refine .box hb (by rw [hheap b hblk, if_pos rfl]) (by rw [hpc, q3]; rfl) (fun j q v hq hv => ?_) (fun v hv => ?_)
      · obtain ⟨h9, rfl⟩ := get j v hv
        match j, h9, hq with
        | 0, _, hq => simp [cells9] at hq; subst hq; exact .d .int
        | 1, _, hq => simp [cells9] at hq; subst hq; exact .d .int
        | 2, _, hq => simp [cells9] at hq; subst hq; exact .d .int
        | 3, _, hq => simp [cells9] at hq; subst hq; exact .d .int
        | 4, _, hq => simp [cells9] at hq; subst hq; exact .d .int
        | 5, _, hq => simp [cells9] at hq; subst hq; exact .d .int
        | 6, _, hq => simp [cells9] at hq; subst hq; exact .d .int
        | 7, _, hq => simp [cells9] at hq; subst hq; exact .d .int
        | 8, _, hq => simp [cells9] at hq; subst hq; exact .d .int
      · obtain ⟨j, hj⟩ := Array.getElem?_of_mem hv
        obtain ⟨h9, rfl⟩ := get j v hj
        match j, h9 with
        | 0, _ => rfl
        | 1, _ => rfl
        | 2, _ => rfl
        | 3, _ => rfl
        | 4, _ => rfl
        | 5, _ => rfl
        | 6, _ => rfl
        | 7, _ => rfl
        | 8, _ => rfl
  · simp at hi
    rw [hin.lt i (by simpa using hi)] at hk; cases hk
end Go.Proofs.Ytpkiabhlmjnemaa
