/- The iterator of the frames of a list of blocks, and Frames of package order. -/
import Derived.Test.YtdgeahemjcopkaaOrdD
import Derived.Test.YtdgeahemjcopkaaColl
set_option linter.unusedSimpArgs false
set_option linter.unusedVariables false
namespace Go.Proofs.Ytdgeahemjcopkaa
open Go.RowKit Go.Shelf
attribute [local go_sem] Oper.semAt_some

def blkF (b : Int × Int) : List Int := (List.range (2 ^ b.2.toNat)).map fun j : Nat => b.1 + (j : Int)
def framesOf (l : List (Int × Int)) : List Int := l.flatMap blkF

theorem take_get {α : Type} (l : List α) (k : Nat) (h : k < l.length) : l.take (k + 1) = l.take k ++ [l[k]] := by
  rw [List.take_succ_eq_append_getElem h]
theorem framesOf_take (l : List (Int × Int)) (k : Nat) (h : k < l.length) : framesOf (l.take (k + 1)) = framesOf (l.take k) ++ blkF l[k] := by
  unfold framesOf; rw [take_get l k h, List.flatMap_append, List.flatMap_cons, List.flatMap_nil, List.append_nil]
theorem range_snoc {β : Type} (f : Nat → β) (m : Nat) : (List.range (m + 1)).map f = (List.range m).map f ++ [f m] := by
  rw [List.range_succ]; simp
theorem framesOf_pre (l : List (Int × Int)) (k m : Nat) (h : k < l.length) (hm : m < 2 ^ (l[k]).2.toNat) :
    (framesOf (l.take k) ++ (List.range m).map fun j => (l[k]).1 + ((j : Nat) : Int)) ++ [(l[k]).1 + (m : Int)] <+: framesOf l := by
  rw [List.append_assoc, ← range_snoc (fun j => (l[k]).1 + ((j : Nat) : Int)) m]
  have e : framesOf l = framesOf (l.take k) ++ (blkF l[k] ++ framesOf (l.drop (k + 1))) := by
    rw [← List.append_assoc, ← framesOf_take l k h]
    unfold framesOf
    rw [← List.flatMap_append, List.take_append_drop]
  rw [e, List.prefix_append_right_inj]
  refine List.IsPrefix.trans ?_ (List.prefix_append _ _)
  unfold blkF
  obtain ⟨d, hd⟩ : ∃ d, 2 ^ (l[k]).2.toNat = (m + 1) + d := ⟨2 ^ (l[k]).2.toNat - (m + 1), by omega⟩
  rw [hd, List.range_add (n := m + 1), List.map_append]
  exact List.prefix_append _ _

/-- what the iterator reads: its box, and the slice's cells below n₀ -/
def FrPre (n₀ g : Nat) (v : Value) (l : List (Int × Int)) (W : World) : Prop :=
  Blk W g 22 #[v] ∧ ∃ A c, v = .slice A l.length c ∧ l.length ≤ c ∧ (0 < l.length → ∃ b off, A = some ⟨b, off, none⟩ ∧ b < n₀ ∧ b < W.heap.size ∧ ∀ i x, l[i]? = some x → ∀ j u, (encB x)[j]? = some u → W.cell? ⟨b, off + i * 2 + j, none⟩ = some u)

set_option maxRecDepth 100000 in
theorem frames1_all (n g n₀ : Nat) (hn : 2 ≤ n) (v : Value) (l : List (Int × Int)) (hl : l.length ≤ 1000000) (hok : ∀ b ∈ l, chk b.1 b.2 = 0) :
    SeqAll n Try.prog 46 #[.pointer (some ⟨g, 0, none⟩)] (fun x : Int => #[Value.int .i64 x]) n₀ (fun k => k = g) (framesOf l) (FrPre n₀ g v l) := by
  rintro lp C W ⟨hg, A, c, rfl, hc, hA⟩ hC hY h0
  refine callsIn_of_wp Try.func46 rfl trivial ?_ rfl
  simp only [Try.ntmps46, List.size_toArray, List.length_cons, List.length_nil, Nat.reduceAdd, Nat.reduceSub, Array.replicate_succ, Array.replicate_zero, List.push_toArray, List.append_toArray, List.nil_append, List.cons_append]
  have g0 : W.cell? ⟨g, 0, none⟩ = some (.slice A l.length c) := hg.cell 0
  gi_wp2
  gi_loopw [8] (fun i wr => ∃ (k : Nat) (K : Nat → Prop), k ≤ l.length ∧ i = .int .i64 k ∧ C (framesOf (l.take k)) K wr ∧ K g ∧ Kept n₀ (fun k => k = g) W wr) (fun i _ => l.length - (intOf i).toNat)
  case atStart => exact ⟨0, _, Nat.zero_le _, rfl, h0, rfl, Kept.refl _ _ _⟩
  case round =>
    obtain ⟨k, K, hk, rfl, hCk, hKg, hkept⟩ := hrel
    by_cases hlt : k < l.length
    · obtain ⟨b, off, rfl, hb, hbl, hx⟩ := hA (by omega)
      have e : l[k]? = some l[k] := List.getElem?_eq_getElem hlt
      have hc0 := hok l[k] (List.getElem_mem hlt)
      obtain ⟨b0, b1, b2, b3, b4⟩ := chk_zero hc0
      have hp := pow_bd _ b0 b1
      have p0 := hx k _ e 0 _ rfl
      have p1 := hx k _ e 1 _ rfl
      have hblk := hkept.2 b hbl (.inl hb)
      have hFk := framesOf_take l k hlt
      have hpre := framesOf_pre l k
      have q0 : wr.cell? ⟨b, off + k * 2, none⟩ = some (.int .i64 (l[k]).1) := by rw [← p0]; exact World.cell?_of_block (a := ⟨b, off + k * 2 + 0, none⟩) hblk
      have q1 : wr.cell? ⟨b, off + k * 2 + 1, none⟩ = some (.int .i64 (l[k]).2) := by rw [← p1]; exact World.cell?_of_block (a := ⟨b, off + k * 2 + 1, none⟩) hblk
      have Hpre := Lib.hid (fun m hm => hpre m hlt hm)
      have HFk := Lib.hid hFk
      clear p0 p1 e hc0 hpre hFk hblk
      generalize l[k] = x at *
      obtain ⟨xa, xo⟩ := x
      simp only at *
      gi_wp2
      refine ⟨trivial, fun _ => by omega, (callsIn_wide.2 (sizeOf_any xa xo _ b0 b1)).mono ?_⟩
      rintro e w' ⟨rfl, rfl⟩
      have hC1 : C (framesOf (l.take k)) (fun j => K j ∨ j = wr.heap.size) ((wr.alloc (.cells #[.int .i64 xa, .int .i64 xo] 30)).alloc (.cells #[.int .i64 xa, .int .i64 xo] 30)) :=
        hC _ _ _ _ _ hCk (OnlyK.of_below (by repeat (first | exact Below.refl _ _ | assumption | apply Below.drew | apply b_drewN | apply b_alloc | (refine Below.setCell ?_ (by (try simp); (try omega)) _) | (refine b_then ?_ (by assumption))))) (fun j hj => hj.imp id (fun h => by subst h; simp; omega))
      have hkept1 : Kept n₀ (fun k => k = g) W ((wr.alloc (.cells #[.int .i64 xa, .int .i64 xo] 30)).alloc (.cells #[.int .i64 xa, .int .i64 xo] 30)) := by
        refine hkept.trans ⟨by simp; omega, fun j hj _ => ?_⟩
        rw [Below.heap_alloc _ _ _ (by simp; omega), Below.heap_alloc _ _ _ hj]
      have hbb := (Blk.new wr 30 #[.int .i64 xa, .int .i64 xo]).alloc (.cells #[.int .i64 xa, .int .i64 xo] 30)
      obtain ⟨bb, hbbe⟩ : ∃ bb, bb = wr.heap.size := ⟨_, rfl⟩
      rw [← hbbe] at hC1 hbb ⊢
      clear hCk hkept hbbe
      gi_wp2
      generalize (wr.alloc (.cells #[.int .i64 xa, .int .i64 xo] 30)).alloc (.cells #[.int .i64 xa, .int .i64 xo] 30) = w2 at *
      clear q0 q1
      gi_loopw [14] (fun j wi => ∃ (m : Nat) (K : Nat → Prop), m ≤ 2 ^ xo.toNat ∧ j = .int .i64 m ∧ C (framesOf (l.take k) ++ (List.range m).map fun j : Nat => xa + (j : Int)) K wi ∧ K g ∧ K bb ∧ Blk wi bb 30 #[.int .i64 xa, .int .i64 xo] ∧ Kept n₀ (fun k => k = g) W wi) (fun j _ => 2 ^ xo.toNat - (intOf j).toNat)
      case atStart => exact ⟨0, (fun j => K j ∨ j = bb), Nat.zero_le _, rfl, by simpa using hC1, .inl hKg, .inr rfl, hbb, hkept1⟩
      case round =>
        obtain ⟨m, K2, hm, rfl, hC2, hK2g, hK2b, hbb2, hkept2⟩ := hrel
        have hp2 : (2 : Int) ^ xo.toNat = ((2 ^ xo.toNat : Nat) : Int) := by simp
        have Hp2 := Lib.hid hp2
        have c0 : wr.cell? ⟨bb, 0, none⟩ = some (.int .i64 xa) := hbb2.cell 0
        by_cases hmlt : m < 2 ^ xo.toNat
        · have hd : decide ((m : Int) < 2 ^ xo.toNat) = true := by rw [hp2]; simp; exact_mod_cast hmlt
          have hml : (m : Int) ≤ 64 := by omega
          clear hp2
          obtain ⟨fn, tmps, assign, body, hy, hR⟩ := hY _ (xa + m) K2 wr hC2 (Hpre.out m hmlt)
          gi_wp2
          refine ⟨fun _ => by omega, hR.mono ?_⟩
          rintro e W3 ⟨rfl, hC3, hk3⟩
          gi_wp2
          go_roundw
          case rel =>
            refine ⟨m + 1, K2, by omega, by go_num, ?_, hK2g, hK2b, hk3.blk hbb2 (.inr hK2b), ?_⟩
            · rw [range_snoc (fun j : Nat => xa + (j : Int)) m, ← List.append_assoc]
              exact hC3
            · exact hkept2.trans ⟨hk3.1, fun j hj h => hk3.2 j hj (by rcases h with h | h; exact .inl h; exact .inr (by rw [show j = g from h]; exact hK2g))⟩
          case measure => simp [intOf]; omega
        · have hd : decide ((m : Int) < 2 ^ xo.toNat) = false := by rw [hp2]; simp; exact_mod_cast Nat.not_lt.1 hmlt
          have hmm : m = 2 ^ xo.toNat := by omega
          clear hp2
          gi_wp2
          go_roundw
          case rel =>
            refine ⟨k + 1, K2, by omega, by go_num, ?_, hK2g, hkept2⟩
            rw [HFk.out]
            unfold blkF
            rw [← hmm]
            exact hC2
          case measure => simp [intOf]; omega
    · obtain rfl : k = l.length := by omega
      gi_wp2
      go_end0
      exact ⟨⟨_, rfl⟩, K, by rw [List.take_length] at hCk; exact hCk⟩

theorem frames_any (A : Option Addr) (n c : Nat) (w : World) :
    Calls Try.prog 44 #[.slice A n c] w fun e w' => e = .returned (.func (.func 46) #[] #[.pointer (some ⟨w.heap.size, 0, none⟩)]) ∧ w.alloc (.cells #[.slice A n c] 22) = w' := by
  go_enter Try.func44, Try.ntmps44
  go_wp2
  go_ret
  exact ⟨rfl, rfl⟩
end Go.Proofs.Ytdgeahemjcopkaa
