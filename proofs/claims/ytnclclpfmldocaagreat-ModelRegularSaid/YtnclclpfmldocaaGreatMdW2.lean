import Derived.Test.YtnclclpfmldocaaGreatMdU
import Derived.Test.YtnclclpfmldocaaGreatFlT
import Derived.Shelf.SlSortCmp.Whole1
import Derived.Shelf.SlSortCmp.NoneTotal
import Derived.Deep.Quiet
import Derived.Deep.QuietTactic

/- The kit's contract of slices.SortFunc at numbers. -/
namespace Go.Proofs.YtnclclpfmldocaaGreat
open Go.Shelf

def layW_ren : Go.Shelf.Ren := ⟨fun | 6 => 33 | 14 => 51 | 15 => 52 | 20 => 75 | 21 => 76 | 22 => 77 | 23 => 78 | 24 => 79 | 25 => 80 | 26 => 81 | 27 => 82 | 28 => 83 | 29 => 84 | 46 => 100 | 47 => 101 | 48 => 102 | 49 => 103 | 50 => 104 | 57 => 116 | n => n, fun | 0 => 0 | 3 => 3 | 4 => 4 | 5 => 5 | 9 => 9 | 22 => 22 | 24 => 3 | 25 => 34 | 39 => 103 | 45 => 117 | 46 => 118 | 50 => 100 | 53 => 124 | 55 => 29 | 66 => 137 | 70 => 141 | 76 => 155 | 77 => 156 | n => n, fun | n => n⟩
theorem layW : Go.Proofs.SlLaysF.n6 Tryz.prog layW_ren := {
  mixed := by kernel_rfl
  f6 := ⟨Tryz.f33.name, by kernel_rfl, Tryz.func33.trans (congrArg some (by kernel_rfl))⟩
  f14 := ⟨Tryz.f51.name, by kernel_rfl, Tryz.func51.trans (congrArg some (by kernel_rfl))⟩
  f15 := Tryz.func52.trans (congrArg some (by kernel_rfl))
  f20 := ⟨Tryz.f75.name, by kernel_rfl, Tryz.func75.trans (congrArg some (by kernel_rfl))⟩
  f21 := ⟨Tryz.f76.name, by kernel_rfl, Tryz.func76.trans (congrArg some (by kernel_rfl))⟩
  f22 := ⟨Tryz.f77.name, by kernel_rfl, Tryz.func77.trans (congrArg some (by kernel_rfl))⟩
  f23 := ⟨Tryz.f78.name, by kernel_rfl, Tryz.func78.trans (congrArg some (by kernel_rfl))⟩
  f24 := ⟨Tryz.f79.name, by kernel_rfl, Tryz.func79.trans (congrArg some (by kernel_rfl))⟩
  f25 := ⟨Tryz.f80.name, by kernel_rfl, Tryz.func80.trans (congrArg some (by kernel_rfl))⟩
  f26 := ⟨Tryz.f81.name, by kernel_rfl, Tryz.func81.trans (congrArg some (by kernel_rfl))⟩
  f27 := ⟨Tryz.f82.name, by kernel_rfl, Tryz.func82.trans (congrArg some (by kernel_rfl))⟩
  f28 := Tryz.func83.trans (congrArg some (by kernel_rfl))
  f29 := Tryz.func84.trans (congrArg some (by kernel_rfl))
  f46 := ⟨Tryz.f100.name, by kernel_rfl, Tryz.func100.trans (congrArg some (by kernel_rfl))⟩
  f47 := Tryz.func101.trans (congrArg some (by kernel_rfl))
  f48 := Tryz.func102.trans (congrArg some (by kernel_rfl))
  f49 := ⟨Tryz.f103.name, by kernel_rfl, Tryz.func103.trans (congrArg some (by kernel_rfl))⟩
  f50 := ⟨Tryz.f104.name, by kernel_rfl, Tryz.func104.trans (congrArg some (by kernel_rfl))⟩
  f57 := ⟨Tryz.f116.name, by kernel_rfl, Tryz.func116.trans (congrArg some (by kernel_rfl))⟩
  t0 := Tryz.underlying0
  a0 := Tryz.isAgg0
  z0 := Tryz.sizeOf0
  v0 := Tryz.zeroValue0
  t3 := Tryz.underlying3
  a3 := Tryz.isAgg3
  z3 := Tryz.sizeOf3
  v3 := Tryz.zeroValue3
  t4 := Tryz.underlying4
  a4 := Tryz.isAgg4
  z4 := Tryz.sizeOf4
  v4 := Tryz.zeroValue4
  t5 := Tryz.underlying5
  a5 := Tryz.isAgg5
  z5 := Tryz.sizeOf5
  v5 := Tryz.zeroValue5
  t9 := Tryz.underlying9
  a9 := Tryz.isAgg9
  z9 := Tryz.sizeOf9
  v9 := Tryz.zeroValue9
  t22 := Tryz.underlying22
  a22 := Tryz.isAgg22
  z22 := Tryz.sizeOf22
  v22 := Tryz.zeroValue22
  a24 := Tryz.isAgg3
  z24 := Tryz.sizeOf3
  t25 := Tryz.underlying34
  a25 := Tryz.isAgg34
  z25 := Tryz.sizeOf34
  v25 := Tryz.zeroValue34
  t39 := Tryz.underlying103
  a39 := Tryz.isAgg103
  z39 := Tryz.sizeOf103
  v39 := Tryz.zeroValue103
  t45 := Tryz.underlying117
  a45 := Tryz.isAgg117
  z45 := Tryz.sizeOf117
  v45 := Tryz.zeroValue117
  t46 := Tryz.underlying118
  a46 := Tryz.isAgg118
  z46 := Tryz.sizeOf118
  v46 := Tryz.zeroValue118
  t50 := Tryz.underlying100
  a50 := Tryz.isAgg100
  z50 := Tryz.sizeOf100
  v50 := Tryz.zeroValue100
  t53 := Tryz.underlying124
  a53 := Tryz.isAgg124
  z53 := Tryz.sizeOf124
  v53 := Tryz.zeroValue124
  t55 := Tryz.underlying29
  a55 := Tryz.isAgg29
  z55 := Tryz.sizeOf29
  v55 := Tryz.zeroValue29
  t66 := Tryz.underlying137
  a66 := Tryz.isAgg137
  z66 := Tryz.sizeOf137
  v66 := Tryz.zeroValue137
  t70 := Tryz.underlying141
  a70 := Tryz.isAgg141
  z70 := Tryz.sizeOf141
  v70 := Tryz.zeroValue141
  t76 := Tryz.underlying155
  a76 := Tryz.isAgg155
  z76 := Tryz.sizeOf155
  v76 := Tryz.zeroValue155
  t77 := Tryz.underlying156
  a77 := Tryz.isAgg156
  z77 := Tryz.sizeOf156
  v77 := Tryz.zeroValue156 }
end Go.Proofs.YtnclclpfmldocaaGreat

/- Sorting the processes that wait by their tickets: the comparison. -/
namespace Go.Proofs.YtnclclpfmldocaaGreat
open Go.RowKit Go.Sort Go.Shelf
set_option maxRecDepth 100000
set_option linter.unusedSimpArgs false
set_option linter.unusedVariables false

/-- an entry of the map of tickets: process, ticket, when it was put in -/
def puE (x : Pe) : Ie := ⟨x.1, .int .u64 (x.2.1 : Int), x.2.2⟩
theorem iIdx_mapU (k : Int) : ∀ l : List Pe, iIdx k (l.map puE) = l.findIdx? (fun x => k == x.1)
  | [] => rfl
  | x :: l => by
    have := iIdx_mapU k l
    unfold iIdx at this ⊢
    rw [List.map_cons, List.findIdx?_cons, List.findIdx?_cons, this]
    rfl
theorem iget_pu (k : Int) : ∀ l : List Pe, iget (l.map puE) k = (pget l k).map fun j => .int .u64 (j : Int)
  | [] => rfl
  | x :: l => by
    have ih := iget_pu k l
    unfold iget at ih ⊢
    rw [iIdx_mapU] at ih ⊢
    rw [List.findIdx?_cons, pget_cons]
    by_cases h : k = x.1
    · rw [if_pos h, show (k == x.1) = true by simpa using h]; rfl
    · rw [if_neg h, show (k == x.1) = false by simpa using h, ← ih]
      cases l.findIdx? (fun x => k == x.1) with
      | none => rfl
      | some i => simp
theorem iput_pu {l : List Pe} {k : Int} (h : pget l k = none) (ck j : Nat) : iput (l.map puE) ck k (.int .u64 (j : Int)) = ((l ++ [(k, j, ck)]).map puE, ck + 1) := by
  have hn : iIdx k (l.map puE) = none := by
    rw [iIdx_mapU, List.findIdx?_eq_none_iff]
    intro x hx
    have := pget_none h x hx
    simpa using fun e => this e.symm
  unfold iput
  rw [hn]
  simp [puE]
/-- the ticket that the map says -/
def mT (op : List Pe) (k : Int) : Nat := (pget op k).getD 0
theorem mT_get (op : List Pe) (k : Int) : (iget (op.map puE) k).getD (.int .u64 0) = .int .u64 (mT op k : Int) := by
  rw [iget_pu]; unfold mT; cases pget op k <;> rfl
theorem isNaN64_calls (a : Int) (W : World) : Calls Tryz.prog 53 #[.int .u64 a] W fun e w' => e = .returned (.bool false) ∧ w' = W := by
  go_enter Tryz.func53, Tryz.ntmps53
  go_wp2
  go_ret
  simp
theorem Compare64_calls (a b : Int) (W : World) : Calls Tryz.prog 35 #[.int .u64 a, .int .u64 b] W fun e w' => e = .returned (.int .i64 (cm3 a b)) ∧ w' = W := by
  have n1 := fun W => isNaN64_calls a W
  have n2 := fun W => isNaN64_calls b W
  go_enter Tryz.func35, Tryz.ntmps35
  unfold cm3
  by_cases h1 : a < b
  · rw [if_pos h1]
    go_wp2_with (first | (refine (n1 _).mono ?_; rintro e w' ⟨rfl, rfl⟩) | (refine (n2 _).mono ?_; rintro e w' ⟨rfl, rfl⟩))
    go_ret
    simp
  · rw [if_neg h1]
    by_cases h2 : b < a
    · rw [if_pos h2]
      go_wp2_with (first | (refine (n1 _).mono ?_; rintro e w' ⟨rfl, rfl⟩) | (refine (n2 _).mono ?_; rintro e w' ⟨rfl, rfl⟩))
      go_ret
      simp
    · rw [if_neg h2]
      go_wp2_with (first | (refine (n1 _).mono ?_; rintro e w' ⟨rfl, rfl⟩) | (refine (n2 _).mono ?_; rintro e w' ⟨rfl, rfl⟩))
      go_ret
      simp
theorem wcmp_calls (g b : Nat) (op : List Pe) (ck : Nat) (x y : Int) (W : World) (h0 : W.cell? ⟨g, 0, none⟩ = some (.map (some b))) (h1 : W.heap[b]? = some (.map ((op.map puE).map ieE).toArray ck)) :
    Calls Tryz.prog 34 #[.int .i64 x, .int .i64 y, .pointer (some ⟨g, 0, none⟩)] W fun e w' => e = .returned (.int .i64 (cm3 (mT op x : Int) (mT op y : Int))) ∧ w' = W := by
  have c1 := fun W => Compare64_calls (mT op x) (mT op y) W
  have l1 := run_ilook W (tm := 79) rfl (z := .int .u64 0) rfl b (op.map puE) ck x h1 false
  have l2 := run_ilook W (tm := 79) rfl (z := .int .u64 0) rfl b (op.map puE) ck y h1 false
  simp only [mT_get, Bool.false_eq_true, if_false] at l1 l2
  go_enter Tryz.func34, Tryz.ntmps34
  go_wp2_with (refine (c1 _).mono ?_; rintro e w' ⟨rfl, rfl⟩)
  go_ret
  simp
theorem ltM (op : List Pe) (x y : Int) : ltOf (fun a b : Int => cm3 (mT op a : Int) (mT op b : Int)) x y = decide (mT op x < mT op y) := by
  unfold ltOf
  have key : cm3 (mT op x : Int) (mT op y : Int) < 0 ↔ mT op x < mT op y := by
    unfold cm3
    by_cases h : mT op x < mT op y
    · rw [if_pos (by omega)]; exact ⟨fun _ => h, fun _ => by decide⟩
    · rw [if_neg (by omega)]; refine ⟨fun hh => ?_, fun hh => absurd hh h⟩; split at hh <;> omega
  exact decide_eq_decide.2 key
theorem swoM (op : List Pe) : SWO (ltOf (fun a b : Int => cm3 (mT op a : Int) (mT op b : Int))) := by
  refine ⟨fun x => ?_, fun x y z h1 h2 => ?_, fun x y z h1 h2 => ?_⟩
  · rw [ltM]; simp
  · rw [ltM] at *; simp at *; omega
  · rw [ltM] at *; simp at *; omega
def encP (p : Int) : Value := .int .i64 p
theorem wsort_calls (blk c g b : Nat) (op : List Pe) (ck : Nat) (d : Array Int) (w : World) (hH : Holds encP w blk 0 d) (hblk : blk < w.heap.size) (hsz : d.size < 4611686018427387904)
    (h0 : w.cell? ⟨g, 0, none⟩ = some (.map (some b))) (h1 : w.heap[b]? = some (.map ((op.map puE).map ieE).toArray ck)) (hg : g ≠ blk) (hb : b ≠ blk) :
    Calls Tryz.prog 33 #[.slice (some ⟨blk, 0, none⟩) d.size c, .func (.func 34) #[] #[.pointer (some ⟨g, 0, none⟩)]] w fun e w' =>
      e = .returned (.tuple #[]) ∧ ∃ d' n os, PermIn 0 d.size d d' ∧ SortedIn (ltOf (fun a b : Int => cm3 (mT op a : Int) (mT op b : Int))) 0 d.size d' ∧ w' = sortWorld encP w blk 0 n d' os := by
  refine Any.slices_SortFunc layW encP (fun _ => rfl) _ (swoM op) 34 #[.pointer (some ⟨g, 0, none⟩)] blk 0 c d w (enters_of Tryz.func34 (by kernel_rfl) rfl) (fun m os dk hs x y => ?_) hH hblk hsz
  have hbl : ∀ k, k < w.heap.size → k ≠ blk → (sortWorld encP w blk 0 m dk os).heap[k]? = w.heap[k]? := fun k hk hkb => by
    have e1 : (sortWorld encP w blk 0 m dk os).heap = (w.heap.modify blk (onCells (putCells encP 0 dk))) ++ os := rfl
    rw [e1, Array.getElem?_append_left (by simpa using hk), Array.getElem?_modify, if_neg (fun h => hkb h.symm)]
  refine (wcmp_calls g b op ck x y _ ?_ ?_).mono fun e w' ⟨he, hw⟩ => ⟨he, 0, #[], ?_⟩
  · rw [World.cell?_of_block (hbl g (cell_lt h0) hg)]; exact h0
  · rw [hbl b (heap_lt h1) hb]; exact h1
  · rw [hw, grow_empty]; rfl
theorem permM_sorted (key : Int → Nat) : ∀ X m : List Int, X.Perm m → X.Pairwise (fun a b => ¬ key b < key a) → m.Pairwise (fun a b => key a < key b) → X = m
  | [], m, hp, _, _ => (List.Perm.nil_eq hp)
  | x :: X, m, hp, hX, hm => by
    cases m with
    | nil => exact absurd hp.length_eq (by simp)
    | cons y m =>
      obtain ⟨a1, a2⟩ := List.pairwise_cons.1 hX
      obtain ⟨b1, b2⟩ := List.pairwise_cons.1 hm
      have hx : x ∈ y :: m := hp.mem_iff.1 (by simp)
      have hy : y ∈ x :: X := hp.mem_iff.2 (by simp)
      have he : x = y := by
        rcases List.mem_cons.1 hx with h | h
        · exact h
        · rcases List.mem_cons.1 hy with h2 | h2
          · exact h2.symm
          · exact absurd (b1 x h) (a1 y h2)
      subst he
      rw [permM_sorted key X m (List.perm_cons _ |>.1 hp) a2 b2]
abbrev mvB : Ob := .box 79 [.mp 2]
def srtS : Spec := { rel := fun args ins res outs => ∃ (l m : List Int) (op : List Pe) (ck : Nat), l.length ≤ 1000 ∧ m.Perm l ∧ m.Pairwise (fun a b => mT op a < mT op b) ∧ args = [.row 0 1 0 l.length, .fn 34 [.ptr 1 0]] ∧ ins = [.rows 3 1 (l.map encDI), mvB, imO (op.map puE) ck] ∧ res = .tup [] ∧ outs = [.rows 3 1 (m.map encDI), mvB, imO (op.map puE) ck] }
theorem srt_at (l m : List Int) (op : List Pe) (ck : Nat) (h : l.length ≤ 1000) (hp : m.Perm l) (hs : m.Pairwise (fun a b => mT op a < mT op b)) : srtS.rel [.row 0 1 0 l.length, .fn 34 [.ptr 1 0]] [.rows 3 1 (l.map encDI), mvB, imO (op.map puE) ck] (.tup []) [.rows 3 1 (m.map encDI), mvB, imO (op.map puE) ck] := ⟨l, m, op, ck, h, hp, hs, rfl, rfl, rfl, rfl⟩
set_option maxHeartbeats 1000000 in
theorem srt_ok : Ok Tryz.prog 33 srtS := by
  refine ⟨⟨_, Tryz.func33, rfl, rfl⟩, ?_⟩
  rintro args ins res outs ⟨l, m, op, ck, hl, hp, hs, rfl, rfl, rfl, rfl⟩ w V Bo μ vals hin
  obtain ⟨v0, v1, rfl⟩ : ∃ v0 v1, vals = #[v0, v1] := by
    have := hin.n
    match vals, this with
    | ⟨[a, b]⟩, _ => exact ⟨a, b, rfl⟩
  have r0 := hin.rep 0 _ v0 rfl rfl
  have r1 := hin.rep 1 _ v1 rfl rfl
  have hob := hin.ob 0 _ rfl
  have hob1 := hin.ob 1 _ rfl
  have hob2 := hin.ob 2 _ rfl
  cases r1 with
  | @fn _ _ vs hsz hcap =>
  obtain ⟨u, rfl⟩ : ∃ u, vs = #[u] := Array.size_eq_one_iff.1 (by simpa using hsz)
  have r2 := hcap 0 _ u rfl rfl
  cases r2 with
  | @ptr _ _ g hg0 =>
  cases hob1 with
  | @box _ _ g' arrg q1 q2 q3 q4 q5 =>
  rw [hg0] at q1; injection q1 with q1; injection q1 with q1; subst q1
  obtain ⟨mv, hmv⟩ : ∃ v, arrg[0]? = some v := ⟨arrg[0]'(by rw [q3]; simp), by simp [q3]⟩
  have r3 := q4 0 _ mv rfl hmv
  cases r3 with
  | @mp _ b2 hb2 =>
  cases hob2 with
  | map z1 z2 =>
  rw [hb2] at z1; injection z1 with z1; injection z1 with z1; subst z1
  have h0 : w.cell? ⟨g, 0, none⟩ = some (.map (some b2)) := by simp [World.cell?, q2, hmv]
  generalize hll : l.length = len at *
  cases r0 with
  | @rowNil _ _ hb0 =>
    obtain rfl : l = [] := List.eq_nil_of_length_eq_zero hll
    obtain rfl : m = [] := List.Perm.eq_nil hp
    refine (AnyF.slices_SortFunc_none { layW with } none 0 (.func (.func 34) #[] #[.pointer (some ⟨g, 0, none⟩)]) w).mono ?_
    rintro e w' ⟨rfl, rfl⟩
    refine ⟨_, μ, rfl, Ev.refl w' Bo, fun i x hx => hx, .tup rfl (by simp), fun i o hi _ => ?_, fun i k hi hk => ?_, fun i j k hi hj _ _ hki hkj => hin.inj i j k hi hj hki hkj, fun i hi => hin.lt i hi, by simp⟩
    · match i, hi with
      | 0, hi => simp at hi; subst hi; exact .rowsNil hb0 (by decide)
      | 1, hi =>
        simp at hi; subst hi
        exact .box hg0 q2 q3 (fun j q v hq hv => by
          match j, hq with
          | 0, hq => simp at hq; subst hq; rw [hmv] at hv; injection hv with hv; subst hv; exact .mp hb2) q5
      | 2, hi => simp at hi; subst hi; exact .map hb2 z2
    · simp at hi
      rw [hin.lt i (by simpa using hi)] at hk; cases hk
  | @row _ _ _ _ b c arr0 t0 hb0 k2 k3 k4 k5 =>
  generalize hrs : l.map encDI = rs at hob
  cases hob with
  | rowsNil b1 _ => rw [hb0] at b1; cases b1
  | @rows _ _ _ b' arr b1 b2' b3 b4 b5 b6 =>
  subst hrs
  rw [hb0] at b1; injection b1 with b1; injection b1 with b1; subst b1
  clear k2 k5
  have hblk := heap_lt b2'
  have hgb : g ≠ b := fun e => by have := hin.inj 0 1 b (by simp) (by simp) hb0 (by rw [← e]; exact hg0); omega
  have hbb : b2 ≠ b := fun e => by have := hin.inj 0 2 b (by simp) (by simp) hb0 (by rw [← e]; exact hb2); omega
  have hlm : (l.map encDI).length = len := by simp [hll]
  rw [hlm, Nat.mul_one] at b4
  have hds : l.toArray.size = len := by simp [hll]
  have hH : Holds encP w b 0 l.toArray := by
    intro j hj
    rw [hds] at hj
    have ha : j < arr.size := by omega
    have hfr : w.frozen? ⟨b, 0 + j, none⟩ = false := by simp [World.frozen?, b2']
    refine ⟨?_, hfr⟩
    have hk : j < l.length := by omega
    have hv : arr[j * 1 + 0]? = some arr[j] := by simp [ha]
    have hc : w.cell? ⟨b, 0 + j, none⟩ = some arr[j] := by simp [World.cell?, b2', ha]
    rw [hc]
    have hd : l.toArray[j]! = l[j] := by simp [hk]
    rw [hd]
    have hrow : (l.map encDI)[j]? = some (encDI l[j]) := by rw [List.getElem?_map, List.getElem?_eq_getElem hk]; rfl
    have := b6 j 0 _ (.int .i64 l[j]) _ hrow rfl hv
    clear hc
    generalize arr[j] = u at *
    cases this
    rfl
  rw [show (0 * 1 : Nat) = 0 from rfl]
  have hcalls := wsort_calls b c g b2 op ck l.toArray w hH hblk (by rw [hds]; omega) h0 z2 hgb hbb
  rw [hds] at hcalls
  refine hcalls.mono ?_
  rintro e w' ⟨rfl, d', n, os, hperm, hsort, rfl⟩
  obtain ⟨p1, _, p3⟩ := hperm
  rw [hds] at p1
  have hX : d'.toList = m := by
    have e1 : (d'.extract 0 len).toList = d'.toList := by simp [← p1]
    have e2 : (l.toArray.extract 0 len).toList = l := by simp [← hll, List.take_of_length_le]
    rw [e1, e2] at p3
    refine permM_sorted (mT op) _ _ (p3.trans hp.symm) ?_ hs
    rw [List.pairwise_iff_getElem]
    intro i j hi hj hij
    simp only [Array.length_toList] at hi hj
    have := hsort i j (Nat.zero_le _) hij (by omega)
    rw [ltM] at this
    simpa [hi, hj] using this
  have hBo : Bo b := hin.bo 0 b (by simp) hb0
  have hheap : ∀ k, k < w.heap.size → (sortWorld encP w b 0 n d' os).heap[k]? = if k = b then some (.cells (putCells encP 0 d' arr) 3 (0, 0)) else w.heap[k]? := by
    intro k hk
    have e1 : (sortWorld encP w b 0 n d' os).heap = (w.heap.modify b (onCells (putCells encP 0 d'))) ++ os := rfl
    rw [e1, Array.getElem?_append_left (by simpa using hk), Array.getElem?_modify]
    by_cases hkb : k = b
    · subst hkb; rw [if_pos rfl, if_pos rfl, b2']; rfl
    · rw [if_neg (fun h => hkb h.symm), if_neg hkb]
  have hsize : w.heap.size ≤ (sortWorld encP w b 0 n d' os).heap.size := by
    have e1 : (sortWorld encP w b 0 n d' os).heap = (w.heap.modify b (onCells (putCells encP 0 d'))) ++ os := rfl
    rw [e1]; simp
  have hpc : (putCells encP 0 d' arr).size = arr.size := by simp [putCells]
  refine ⟨_, μ, rfl, ⟨rfl, rfl, rfl, hsize, fun k hk hn => ?_, fun k ar t zz hk hh => ?_⟩, fun i x hx => hx, .tup rfl (by simp), fun i o hi _ => ?_, fun i k hi hk => ?_, fun i j k hi hj _ _ hki hkj => hin.inj i j k hi hj hki hkj, fun i hi => hin.lt i hi, by simp⟩
  · rw [hheap k hk, if_neg (fun h : k = b => hn (h ▸ hBo))]
  · by_cases hkb : k = b
    · subst hkb
      rw [b2'] at hh; injection hh with hh; injection hh with e1 e2 e3; subst e1 e2 e3
      exact ⟨_, by rw [hheap k hblk, if_pos rfl], hpc⟩
    · exact ⟨ar, by rw [hheap k (heap_lt hh), if_neg hkb]; exact hh, rfl⟩
  · match i, hi with
    | 0, hi =>
      simp at hi; subst hi
      have hml : m.length = len := by rw [← hX]; simp [p1]
      refine .rows hb0 (by rw [hheap b hblk, if_pos rfl]) (by decide) (by rw [hpc]; simp [hml]; omega) (fun i r hi => encI.rows m r (List.mem_of_getElem? hi)) (fun k j r x v hr hx hv => ?_)
      have hk : k < m.length := by have := (List.getElem?_eq_some_iff.1 hr).1; simpa using this
      rw [List.getElem?_map, List.getElem?_eq_getElem hk] at hr
      simp only [Option.map_some, Option.some.injEq] at hr; subst hr
      have hj : j < 1 := (List.getElem?_eq_some_iff.1 hx).1
      obtain rfl : j = 0 := by omega
      have hlt : k * 1 + 0 < arr.size := by rw [← hpc]; exact (Array.getElem?_eq_some_iff.1 hv).1
      have hkd : k < d'.size := by omega
      unfold putCells at hv
      rw [Array.getElem?_mapIdx] at hv
      simp only [Array.getElem?_eq_getElem hlt, Option.map_some, Option.some.injEq] at hv
      rw [if_pos ⟨Nat.zero_le _, by omega⟩] at hv
      have hmk : m[k] = d'[k] := by
        have : d'.toList[k]'(by simpa using hkd) = d'[k] := by simp
        rw [← this]; congr 1; exact hX.symm
      rw [hmk] at hx
      have hdk : d'[k * 1 + 0 - 0]! = d'[k] := by simp [hkd]
      rw [hdk] at hv
      subst hv
      simp [encDI] at hx; subst hx; exact .int
    | 1, hi =>
      simp at hi; subst hi
      exact .box hg0 (by rw [hheap g (heap_lt q2), if_neg hgb]; exact q2) q3 (fun j q v hq hv => by
        match j, hq with
        | 0, hq => simp at hq; subst hq; rw [hmv] at hv; injection hv with hv; subst hv; exact .mp hb2) q5
    | 2, hi =>
      simp at hi; subst hi
      exact .map hb2 (by rw [hheap b2 (heap_lt z2), if_neg hbb]; exact z2)
  · simp at hi
    rw [hin.lt i (by simpa using hi)] at hk; cases hk
end Go.Proofs.YtnclclpfmldocaaGreat
