/- Frames of package order and of the reference; lists of numbers compared. -/
import Derived.Test.YtdgeahemjcopkaaOrdF
import Derived.Test.YtdgeahemjcopkaaOrdG
set_option linter.unusedSimpArgs false
set_option linter.unusedVariables false
namespace Go.Proofs.Ytdgeahemjcopkaa
open Go.RowKit Go.Shelf
attribute [local go_sem] Oper.semAt_some

theorem clGo_valid : ∀ (l : List (Int × Int)) (i : Nat) (en : Int), (clGo i en l).1 = 0 → ∀ b ∈ l, chk b.1 b.2 = 0
  | [], _, _, _, _, hb => by cases hb
  | x :: l, i, en, h, b, hb => by
    by_cases h1 : chk x.1 x.2 = 0
    · by_cases h2 : x.1 < en
      · rw [clGo_over h1 h2] at h; cases h
      · rw [clGo_go h1 h2] at h
        rcases List.mem_cons.1 hb with rfl | hb
        · exact h1
        · exact clGo_valid l _ _ h b hb
    · rw [clGo_bad h1] at h; exact absurd h h1
theorem cl_valid {l : List (Int × Int)} (h : (cl l).1 = 0) : ∀ b ∈ l, chk b.1 b.2 = 0 := clGo_valid l 0 0 h

theorem pow_le64 {o : Int} (h0 : 0 ≤ o) (h1 : o ≤ 6) : 2 ^ o.toNat ≤ 64 := by
  have := (pow_bd o h0 h1).2
  have e : (2 : Int) ^ o.toNat = ((2 ^ o.toNat : Nat) : Int) := by simp
  omega
theorem framesOf_len : ∀ (l : List (Int × Int)), (∀ b ∈ l, chk b.1 b.2 = 0) → (framesOf l).length ≤ 64 * l.length
  | [], _ => by simp [framesOf]
  | b :: l, h => by
    have ih := framesOf_len l (fun c hc => h c (List.mem_cons_of_mem _ hc))
    obtain ⟨b0, b1, _⟩ := chk_zero (h b List.mem_cons_self)
    have := pow_le64 b0 b1
    have e : framesOf (b :: l) = blkF b ++ framesOf l := rfl
    rw [e, List.length_append, List.length_cons]
    have e2 : (blkF b).length = 2 ^ b.2.toNat := by simp [blkF]
    omega

set_option maxRecDepth 100000 in
theorem Frames_ok (v : Value) (l : List (Int × Int)) (w : World) (h : Rd encB 2 w v l) (hl : l.length ≤ 1000000) (hb : ∀ b ∈ l, b.1 ≤ 9223372036854775807) (hok : (cl l).1 = 0) :
    Calls Try.prog 23 #[v] w fun e w' => ∃ u, e = .returned (.tuple #[u, .int .i64 0]) ∧ Rd encI 1 w' u (framesOf l) ∧ Below w.heap.size w w' := by
  have hval := cl_valid hok
  have hlen := framesOf_len l hval
  obtain ⟨A, c, rfl, hc, hA⟩ := h
  refine (callsIn_wide (n := 5)).1 ?_
  refine callsIn_of_wp_marks Try.func23 rfl trivial ?_ rfl
  simp only [Try.ntmps23, List.size_toArray, List.length_cons, List.length_nil, Nat.reduceAdd, Nat.reduceSub, Array.replicate_succ, Array.replicate_zero, List.push_toArray, List.append_toArray, List.nil_append, List.cons_append]
  gi_wp2
  refine ⟨trivial, (callsIn_wide.2 (CheckList_any (.slice A l.length c) l _ ⟨A, c, rfl, hc, hA⟩ hl hb)).mono ?_⟩
  rintro e w1 ⟨rfl, hb1⟩
  rw [hok]
  gi_wp2
  refine ⟨trivial, (callsIn_wide.2 (frames_any _ _ _ _)).mono ?_⟩
  rintro e w' ⟨rfl, rfl⟩
  gi_wp2
  have hn0 : w.heap.size ≤ w1.heap.size := hb1.size
  have hpre : ∀ W1 : World, Below ((w1.alloc (.cells #[.slice none 0 0] 38)).alloc (.cells #[.slice A l.length c] 22)).heap.size ((w1.alloc (.cells #[.slice none 0 0] 38)).alloc (.cells #[.slice A l.length c] 22)) W1 → FrPre w.heap.size (w1.heap.size + 1) (.slice A l.length c) l W1 := by
    intro W1 hB
    have hBl : Below w.heap.size w W1 := (by repeat (first | exact Below.refl _ _ | assumption | apply Below.drew | apply b_drewN | apply b_alloc | (refine Below.setCell ?_ (by (try simp); (try omega)) _) | (refine b_then ?_ (by assumption))))
    refine ⟨(blk_new (by simp)).call hB, A, c, rfl, hc, fun h0 => ?_⟩
    obtain ⟨b, off, e, hbl, hx⟩ := hA h0
    exact ⟨b, off, e, hbl, Nat.lt_of_lt_of_le hbl hBl.size, fun i x hi j u hu => (hBl.cell (p := ⟨b, _, none⟩) hbl).trans (hx i x hi j u hu)⟩
  refine wpIn_rangeAll (by omega) (gf := 46) (lb := #[.pointer (some ⟨w1.heap.size + 1, 0, none⟩)]) rfl (enters_of Try.func46 (by kernel_rfl) rfl)
    (frames1_all 4 (w1.heap.size + 1) w.heap.size (by omega) (.slice A l.length c) l hl hval) hpre (by (try simp); (try omega)) (by rintro k rfl; (try simp); (try omega)) (fun _ => rfl)
    (fun pre K W => Coll encI 1 3 38 w1.heap.size w pre K W) Coll.calm (Coll.calmO (by (try simp); (try omega))) ?start
    (fun x => { tmps := #[.slice A l.length c, undef, .slice none 0 0, .int .i64 0, .int .i64 0, .int .i64 (cl l).snd, .pointer (some ⟨w1.heap.size, 0, none⟩), .int .i64 x,
          .tuple #[.int .i64 0, .int .i64 (cl l).snd], .slice A l.length c, .tuple #[.int .i64 0, .int .i64 (cl l).snd], .int .i64 0, .int .i64 (cl l).snd, .int .i64 0, .bool false, undef, .slice A l.length c,
          .func (.func 46) #[] #[.pointer (some ⟨w1.heap.size + 1, 0, none⟩)], .int .i64 x, undef, undef, undef, undef, undef], defers := [] }) ?assign ?body ?done
  case start =>
    refine ⟨.slice none 0 0, (Blk.new w1 _ _).alloc _, Own.nil _, by simp, fun k e => by simp [Value.ownBlock] at e, (by repeat (first | exact Below.refl _ _ | assumption | apply Below.drew | apply b_drewN | apply b_alloc | (refine Below.setCell ?_ (by (try simp); (try omega)) _) | (refine b_then ?_ (by assumption)))), hn0, ?_⟩
    rintro k rfl
    simp; omega
  case assign =>
    intro lp x W K hK
    gi_wp2
    exact hK
  case body =>
    rintro lp pre x K W ⟨v, hbx, ho, hk, hv, hB, hx, hK⟩ hpfx
    have hpl : pre.length + 1 ≤ (framesOf l).length := by simpa using hpfx.length_le
    have c0 : W.cell? ⟨w1.heap.size, 0, none⟩ = some v := hbx.cell 0
    have hbx2 := fun (w2 : World) (hg' : (W.alloc (.cells #[.int .i64 x] 3)).grownBy w2 v.ownBlock) => (hbx.alloc (.cells #[.int .i64 x] 3)).grown hg' (fun e => (hv w1.heap.size e.symm).2 rfl)
    have Hbx2 := Lib.hid hbx2
    clear hbx2
    gi_wp2_with (gi_at_builtin; refine wpListIn_append1 _ rfl _ _ rfl elemI codedI _ pre rfl (ho.alloc _) _ x rfl (blk_new rfl) (by simp only [maxLen]; omega) (by omega) (by have := hB.size; simp; omega) ?_; intro v' w2 hown' hg' hat'; obtain ⟨g', cap', hv'⟩ := own_snoc hown'; have d0 := (Hbx2.out w2 hg').cell 0; have d1 := (Hbx2.out w2 hg').frozen 0; rw [hv']; clear c0)
    rw [← hv']
    exact coll_step hbx ho hk hv hB hx hK (Nat.le_refl _) hown' hg' hat'
  case done =>
    rintro D W K ⟨v, hbx, ho, hk, hv, hB, hx, hK⟩ hD hDef
    have c0 : W.cell? ⟨w1.heap.size, 0, none⟩ = some v := hbx.cell 0
    gi_wp2
    refine ⟨by simp, .inl ⟨_, _, rfl, run_takeDeferred hDef, ?_⟩⟩
    obtain ⟨v', hbx', ho', _, _, hB', _, _⟩ := Coll.calmO (f := fun p : List Int => p) (n₁ := w.heap.size) (Nat.le_refl _) (framesOf l) K W D _ (.deferred none) ⟨v, hbx, ho, hk, hv, hB, hx, hK⟩ (by simp at hD; omega) hDef rfl
    have hvv : v' = v := by
      have e1 := hbx'.cell 0
      have e2 : (W.putObj D (.deferred none)).cell? ⟨w1.heap.size, 0, none⟩ = W.cell? ⟨w1.heap.size, 0, none⟩ := World.cell?_of_block (World.putObj_heap_other (by simp at hD; intro h; simp at h; omega))
      rw [e2, c0] at e1
      simpa using e1.symm
    subst hvv
    exact ⟨_, results_tmp2 rfl _ _ _, v', rfl, ho'.rd codedI, hB'⟩

theorem Frames_no (v : Value) (l : List (Int × Int)) (w : World) (h : Rd encB 2 w v l) (hl : l.length ≤ 1000000) (hb : ∀ b ∈ l, b.1 ≤ 9223372036854775807) (hok : (cl l).1 ≠ 0) :
    Calls Try.prog 23 #[v] w fun e w' => e = .returned (.tuple #[.slice none 0 0, .int .i64 (cl l).1]) ∧ Below w.heap.size w w' := by
  have hne : ((cl l).1 != 0) = true := by simp [hok]
  have h' := h
  obtain ⟨A, c, rfl, hc, hA⟩ := h
  refine (callsIn_wide (n := 5)).1 ?_
  refine callsIn_of_wp_marks Try.func23 rfl trivial ?_ rfl
  simp only [Try.ntmps23, List.size_toArray, List.length_cons, List.length_nil, Nat.reduceAdd, Nat.reduceSub, Array.replicate_succ, Array.replicate_zero, List.push_toArray, List.append_toArray, List.nil_append, List.cons_append]
  gi_wp2
  refine ⟨trivial, (callsIn_wide.2 (CheckList_any (.slice A l.length c) l _ h' hl hb)).mono ?_⟩
  rintro e w1 ⟨rfl, hb1⟩
  gi_wp2
  exact ⟨_, results_tmp2 rfl _ _ _, rfl, hb1⟩

theorem rFrames_ok (v : Value) (l : List (Int × Int)) (w : World) (h : Rd encB 2 w v l) (hl : l.length ≤ 1000000) (hok : (cl l).1 = 0) :
    Calls Try.prog 35 #[v] w fun e w' => ∃ u, e = .returned (.tuple #[u, .int .i64 0]) ∧ Rd encI 1 w' u (framesOf l) ∧ Below w.heap.size w w' := by
  have hval := Lib.hid (cl_valid hok)
  have hlen := framesOf_len l hval.out
  have h' := h
  obtain ⟨A, c, rfl, hc, hx⟩ := rd_get h
  clear h
  have Hok := Lib.hid hok
  clear hok
  go_enter Try.func35, Try.ntmps35
  go_wp2_with fail
  refine (rCheckList_any _ _ _ h' hl).mono ?_
  rintro e w1 ⟨rfl, hb1⟩
  rw [Hok.out]
  go_wp2_with fail
  go_loopw [6, 7] (fun s i wr => ∃ (k : Nat), k ≤ l.length ∧ i = .int .i64 k ∧ Own encI 1 w.heap.size 3 wr s (framesOf (l.take k)) ∧ Below w.heap.size w wr) (fun _ i _ => l.length - (intOf i).toNat)
  case atStart => exact ⟨0, Nat.zero_le _, rfl, Own.nil _, hb1⟩
  case round =>
    obtain ⟨k, hk, rfl, hown, hbel⟩ := hrel
    by_cases hlt : k < l.length
    · obtain ⟨b, off, rfl, hbb, hxx⟩ := hx k hlt
      have hc0 := hval.out l[k] (List.getElem_mem hlt)
      obtain ⟨b0, b1, b2, b3, b4⟩ := chk_zero hc0
      have hp := pow_bd _ b0 b1
      have p0 := hxx 0 _ rfl
      have p1 := hxx 1 _ rfl
      simp only [Nat.add_zero] at p0
      have Hpre := Lib.hid (fun m hm => (framesOf_pre l k m hlt hm).length_le)
      have HFk := Lib.hid (framesOf_take l k hlt)
      clear hxx hx hc0 b3
      generalize l[k] = x at *
      obtain ⟨xa, xo⟩ := x
      simp only [encB] at p0 p1
      simp only at *
      go_wp2_with fail
      obtain ⟨wo, rfl⟩ : ∃ wo : World, wo = wr := ⟨_, rfl⟩
      go_loopw [6, 8] (fun s i wr => ∃ (m : Nat), m ≤ 2 ^ xo.toNat ∧ i = .int .i64 m ∧ Own encI 1 w.heap.size 3 wr s (framesOf (l.take k) ++ (List.range m).map fun j : Nat => xa + (j : Int)) ∧ Below w.heap.size w wr) (fun _ i _ => 2 ^ xo.toNat - (intOf i).toNat)
      case atStart => exact ⟨0, Nat.zero_le _, rfl, by simpa using hown, hbel⟩
      case round =>
        obtain ⟨m, hm, rfl, hown2, hbel2⟩ := hrel
        have hp2 : (2 : Int) ^ xo.toNat = ((2 ^ xo.toNat : Nat) : Int) := by simp
        have q0 : wr.cell? ⟨b, off + k * 2, none⟩ = some (.int .i64 xa) := (hbel2.cell (p := ⟨b, off + k * 2, none⟩) hbb).trans p0
        have q1 : wr.cell? ⟨b, off + k * 2 + 1, none⟩ = some (.int .i64 xo) := (hbel2.cell (p := ⟨b, off + k * 2 + 1, none⟩) hbb).trans p1
        by_cases hmlt : m < 2 ^ xo.toNat
        · have hd : decide ((m : Int) < 2 ^ xo.toNat) = true := by rw [hp2]; simp; exact_mod_cast hmlt
          have hml : (m : Int) ≤ 64 := by omega
          have hll := Hpre.out m hmlt
          have hll2 : (framesOf (l.take k) ++ (List.range m).map fun j : Nat => xa + (j : Int)).length + 1 ≤ 64000000 := by
            simp only [List.length_append, List.length_map, List.length_range, List.length_cons, List.length_nil] at hll ⊢
            omega
          clear hp2 hll
          go_wp2_with (first
            | (go_at_call 39; refine (rsize_any _ _ b0 b1).mono ?_; rintro e w' ⟨rfl, rfl⟩)
            | (at_builtin; go_must (refine wpList_append1 _ rfl _ _ rfl elemI codedI _ _ rfl (hown2.alloc _) _ (xa + (m : Int)) rfl (blk_new (by simp)) (by simp only [maxLen]; omega) (by omega) (by have := hbel2.size; simp; omega) ?_); intro v1 w1 hown1 hg1 hat1))
          go_roundw
          case rel =>
            refine ⟨m + 1, by omega, by go_num, ?_, (hbel2.alloc hbel2.size _).grown hg1 (by have := hbel2.size; simp; omega) (fun k hk => (hown2.lt k hk).1)⟩
            rw [range_snoc (fun j : Nat => xa + (j : Int)) m, ← List.append_assoc]
            exact hown1
          case measure => simp [intOf]; omega
        · have hd : decide ((m : Int) < 2 ^ xo.toNat) = false := by rw [hp2]; simp; exact_mod_cast Nat.not_lt.1 hmlt
          have hmm : m = 2 ^ xo.toNat := by omega
          have Hmm := Lib.hid hmm
          clear hp2 hmm
          go_wp2_with (go_at_call 39; refine (rsize_any _ _ b0 b1).mono ?_; rintro e w' ⟨rfl, rfl⟩)
          go_roundw
          case rel =>
            refine ⟨k + 1, by omega, by go_num, ?_, hbel2⟩
            rw [HFk.out]
            unfold blkF
            rw [← Hmm.out]
            exact hown2
          case measure => simp [intOf]; omega
    · obtain rfl : k = l.length := by omega
      rw [List.take_length] at hown
      go_wp2
      go_ret2
      exact ⟨_, rfl, hown.rd codedI, hbel⟩
end Go.Proofs.Ytdgeahemjcopkaa
