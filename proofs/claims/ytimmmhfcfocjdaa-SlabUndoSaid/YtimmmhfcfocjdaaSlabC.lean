/- The iterator of a slab's places; Objects and Count on both sides. -/
import Derived.Test.YtimmmhfcfocjdaaSlabA
import Derived.Test.YtimmmhfcfocjdaaColl
import Derived.Test.YtimmmhfcfocjdaaInts
set_option linter.unusedSimpArgs false
set_option linter.unusedVariables false
namespace Go.Proofs.Ytimmmhfcfocjdaa
open Go.RowKit Go.Shelf
attribute [local go_sem] Oper.semAt_some

/-- the places that are used, ascending -/
def plcs (u : Int) : List Int := ((List.range 8).map (fun k : Nat => (k : Int))).filter (usd u)

theorem plcs_step (u : Int) (h0 : 0 ≤ u) (h1 : u ≤ 255) (hu : u ≠ 0) : plcs u = tz u :: plcs (bits .and .u8 u (u - 1)) ∧ 0 ≤ bits .and .u8 u (u - 1) ∧ bits .and .u8 u (u - 1) < u := by
  have := of_fin (Q := fun u => u ≠ 0 → plcs u = tz u :: plcs (bits .and .u8 u (u - 1)) ∧ 0 ≤ bits .and .u8 u (u - 1) ∧ bits .and .u8 u (u - 1) < u) (by decide +kernel) u h0 h1
  exact this hu
theorem plcs_len (u : Int) (h0 : 0 ≤ u) (h1 : u ≤ 255) : (plcs u).length = oc u := of_fin (Q := fun u => ((plcs u).length : Int) = oc u) (by decide +kernel) u h0 h1
theorem plcs_le (u : Int) : (plcs u).length ≤ 8 := by
  have := List.length_filter_le (usd u) ((List.range 8).map (fun k : Nat => (k : Int)))
  simpa [plcs] using this

set_option maxRecDepth 100000 in
theorem places1_all (n g : Nat) (hn : 2 ≤ n) (u : Int) (h0 : 0 ≤ u) (h1 : u ≤ 255) :
    SeqAll n Try.prog 43 #[.pointer (some ⟨g, 0, none⟩)] (fun x : Int => #[Value.int .i64 x]) 0 (fun k => k = g) (plcs u) (fun W => Blk W g 5 #[.int .u8 u]) := by
  rintro lp C W hg hC hY h00
  refine callsIn_of_wp Try.func43 rfl trivial ?_ rfl
  simp only [Try.ntmps43, List.size_toArray, List.length_cons, List.length_nil, Nat.reduceAdd, Nat.reduceSub, Array.replicate_succ, Array.replicate_zero, List.push_toArray, List.append_toArray, List.nil_append, List.cons_append]
  gi_wp2
  gi_loopw [] (fun wr => ∃ (pre : List Int) (r : Int) (K : Nat → Prop), 0 ≤ r ∧ r ≤ 255 ∧ C pre K wr ∧ K g ∧ Blk wr g 5 #[.int .u8 r] ∧ Hid (pre ++ plcs r = plcs u)) (fun wr => cellN wr g 0)
  case atStart => exact ⟨[], u, (fun k => k = g), h0, h1, h00, rfl, hg, rfl⟩
  case round =>
    obtain ⟨pre, r, K, hr0, hr1, hCk, hKg, hblk, hpl⟩ := hrel
    have c0 : wr.cell? ⟨g, 0, none⟩ = some (.int .u8 r) := hblk.cell 0
    by_cases hz : r = 0
    · subst hz
      have e : pre = plcs u := by have := hpl.out; rw [show plcs 0 = [] by decide, List.append_nil] at this; exact this
      gi_wp2
      go_end0
      exact ⟨⟨_, rfl⟩, K, e ▸ hCk⟩
    · have hz' : (r != 0) = true := by simp [hz]
      obtain ⟨s1, s2, s3⟩ := plcs_step r hr0 hr1 hz
      have hpl2 : (pre ++ [tz r]) ++ plcs (bits .and .u8 r (r - 1)) = plcs u := by
        rw [← hpl.out, s1]; simp
      have hpfx : pre ++ [tz r] <+: plcs u := ⟨_, hpl2⟩
      obtain ⟨fn, tmps, assign, body, hy, hR⟩ := hY pre (tz r) K wr hCk hpfx
      have Hpl2 := Lib.hid hpl2
      clear hpl2 s1 hpl hpfx
      have hr2 : 1 ≤ r := by omega
      clear hz
      gi_wp2
      refine ⟨trivial, fun _ => by omega, (callsIn_wide.2 (tz8_any r _ hr0 hr1)).mono ?_⟩
      rintro e w' ⟨rfl, rfl⟩
      gi_wp2
      refine ⟨fun _ => by omega, hR.mono ?_⟩
      rintro e W3 ⟨rfl, hC3, hk3⟩
      have hb3 := hk3.blk hblk (.inr hKg)
      have d0 : W3.cell? ⟨g, 0, none⟩ = some (.int .u8 r) := hb3.cell 0
      have d1 : W3.frozen? ⟨g, 0, none⟩ = false := hb3.frozen 0
      clear c0
      gi_wp2
      have hs := hb3.set_ 0 (.int .u8 (bits .and .u8 r (r - 1)))
      refine ⟨⟨pre ++ [tz r], bits .and .u8 r (r - 1), K, s2, by omega, hC _ K K _ _ hC3 (OnlyK.setCell (a := ⟨g, 0, none⟩) hKg _) (fun k hk => .inl hk), hKg, hs, Hpl2.out⟩, ?_⟩
      rw [cellN_blk hs (q := bits .and .u8 r (r - 1)) rfl, cellN_blk hblk (q := r) rfl]
      omega

theorem places_any (u : Int) (w : World) :
    Calls Try.prog 42 #[.int .u8 u] w fun e w' => e = .returned (.func (.func 43) #[] #[.pointer (some ⟨w.heap.size, 0, none⟩)]) ∧ w.alloc (.cells #[.int .u8 u] 5) = w' := by
  go_enter Try.func42, Try.ntmps42
  go_wp2
  go_ret
  exact ⟨rfl, rfl⟩

/-- the objects of a slab -/
def objs (f u : Int) : List Int := (plcs u).map fun p => f * 8 + p

theorem plcs_mem {u p : Int} (h : p ∈ plcs u) : 0 ≤ p ∧ p ≤ 7 ∧ usd u p = true := by
  unfold plcs at h
  rw [List.mem_filter, List.mem_map] at h
  obtain ⟨⟨k, hk, rfl⟩, hu⟩ := h
  rw [List.mem_range] at hk
  exact ⟨by omega, by omega, hu⟩

set_option maxRecDepth 100000 in
theorem Objects_own (f u : Int) (w : World) (hf0 : 0 ≤ f) (hf1 : f < 256) (h0 : 0 ≤ u) (h1 : u ≤ 255) :
    Calls Try.prog 25 #[.agg #[.int .i64 f, .int .u8 u]] w fun e w' => ∃ v, e = .returned (.tuple #[v, .int .i64 0]) ∧ Own encI 1 w.heap.size 3 w' v (objs f u) ∧ Below w.heap.size w w' := by
  have E := Lib.hid (schk_ok hf0 hf1)
  refine (callsIn_wide (n := 5)).1 ?_
  refine callsIn_of_wp_marks Try.func25 rfl trivial ?_ rfl
  simp only [Try.ntmps25, List.size_toArray, List.length_cons, List.length_nil, Nat.reduceAdd, Nat.reduceSub, Array.replicate_succ, Array.replicate_zero, List.push_toArray, List.append_toArray, List.nil_append, List.cons_append]
  gi_wp2
  refine ⟨trivial, (callsIn_wide.2 (sCheck_any _ _ _)).mono ?_⟩
  rintro e w' ⟨rfl, rfl⟩
  rw [E.out]
  gi_wp2
  refine ⟨trivial, (callsIn_wide.2 (places_any _ _)).mono ?_⟩
  rintro e w' ⟨rfl, rfl⟩
  gi_wp2
  refine wpIn_rangeAll (by omega) (gf := 43) (lb := #[.pointer (some ⟨w.heap.size + 1 + 1 + 1, 0, none⟩)]) rfl (enters_of Try.func43 (by kernel_rfl) rfl)
    (places1_all 4 (w.heap.size + 1 + 1 + 1) (by omega) u h0 h1) (fun W1 hB => (blk_new (by simp)).call hB) (Nat.zero_le _) (by rintro k rfl; simp) (fun _ => rfl)
    (fun pre K W => Coll encI 1 3 38 (w.heap.size + 1 + 1) w (pre.map fun p => f * 8 + p) K W ∧ Box w.heap.size 29 #[.int .i64 f, .int .u8 u] pre K W)
    (calm_and Coll.calm Box.calm) (calmO_and (Coll.calmO (by (try simp); (try omega))) Box.calmO) ?start
    (fun x => { tmps := #[.agg #[.int .i64 f, .int .u8 u], .pointer (some ⟨w.heap.size, 0, none⟩), .slice none 0 0, .int .i64 0, .int .i64 0, .pointer (some ⟨w.heap.size + 1 + 1, 0, none⟩), .int .i64 x,
          .agg #[.int .i64 f, .int .u8 u], .int .i64 0, .int .i64 0, .bool false, undef, .pointer (some ⟨w.heap.size, 1, none⟩), .int .u8 u,
          .func (.func 43) #[] #[.pointer (some ⟨w.heap.size + 1 + 1 + 1, 0, none⟩)], .int .i64 x, undef, undef, undef, undef, undef, undef, undef, undef, undef], defers := [] }) ?assign ?body ?done
  case start =>
    refine ⟨⟨.slice none 0 0, (blk_new (by simp)).alloc _, Own.nil _, by simp, fun k e => by simp [Value.ownBlock] at e, (by repeat (first | exact Below.refl _ _ | assumption | apply Below.drew | apply b_drewN | apply b_alloc | (refine Below.setCell ?_ (by (try simp); (try omega)) _) | (refine b_then ?_ (by assumption)))), by omega, ?_⟩, (((Blk.new w _ _).alloc _).alloc _).alloc _, (by show ¬ (w.heap.size = w.heap.size + 1 + 1 + 1); omega)⟩
    rintro k rfl
    simp
    omega
  case assign =>
    intro lp x W K hK
    gi_wp2
    exact hK
  case body =>
    rintro lp pre x K W ⟨⟨v, hbx, ho, hk, hv, hB, hx, hK⟩, hs, hks⟩ hpfx
    have hpl : (pre.map fun p => f * 8 + p).length + 1 ≤ 8 := by
      have := hpfx.length_le
      have := plcs_le u
      simp at *
      omega
    obtain ⟨x0, x1, _⟩ := plcs_mem (u := u) (p := x) (hpfx.subset (by simp))
    have c0 : W.cell? ⟨w.heap.size + 1 + 1, 0, none⟩ = some v := hbx.cell 0
    have s0 : W.cell? ⟨w.heap.size, 0, none⟩ = some (.int .i64 f) := hs.cell 0
    have hbx2 := fun (w2 : World) (hg' : (W.alloc (.cells #[.int .i64 (f * 8 + x)] 3)).grownBy w2 v.ownBlock) => (hbx.alloc (.cells #[.int .i64 (f * 8 + x)] 3)).grown hg' (fun e => (hv _ e.symm).2 rfl)
    have Hbx2 := Lib.hid hbx2
    clear hbx2
    gi_wp2_with (gi_at_builtin; refine wpListIn_append1 _ rfl _ _ rfl elemI codedI _ (pre.map fun p => f * 8 + p) rfl (ho.alloc _) _ (f * 8 + x) rfl (blk_new rfl) (by simp only [maxLen]; omega) (by omega) (by have := hB.size; simp; omega) ?_; intro v' w2 hown' hg' hat'; obtain ⟨g', cap', hv'⟩ := own_snoc hown'; have d0 := (Hbx2.out w2 hg').cell 0; have d1 := (Hbx2.out w2 hg').frozen 0; rw [hv']; clear c0)
    obtain ⟨r1, r2, r3⟩ := coll_step hbx ho hk hv hB hx hK (Nat.zero_le _) hown' hg' hat'
    rw [hv', List.length_map] at r1 r2 r3
    refine ⟨r1, r2, by rw [List.map_append]; exact r3, ?_, hks⟩
    exact (((hs.alloc _).grown hg' (fun e => own_blk_ne ho hs (by decide) e.symm)).far (p := ⟨w.heap.size + 1 + 1, 0, none⟩) (by simp; omega) _)
  case done =>
    rintro D W K ⟨⟨v, hbx, ho, hk, hv, hB, hx, hK⟩, hs, hks⟩ hD hDef
    have c0 : W.cell? ⟨w.heap.size + 1 + 1, 0, none⟩ = some v := hbx.cell 0
    gi_wp2
    refine ⟨by simp, .inl ⟨_, _, rfl, run_takeDeferred hDef, ?_⟩⟩
    obtain ⟨v', hbx', ho', _, _, hB', _, _⟩ := Coll.calmO (f := fun p : List Int => p) (n₁ := w.heap.size) (Nat.le_refl _) (objs f u) K W D _ (.deferred none) ⟨v, hbx, ho, hk, hv, hB, hx, hK⟩ (by simp at hD; omega) hDef rfl
    have hvv : v' = v := by
      have e1 := hbx'.cell 0
      have e2 : (W.putObj D (.deferred none)).cell? ⟨w.heap.size + 1 + 1, 0, none⟩ = W.cell? ⟨w.heap.size + 1 + 1, 0, none⟩ := World.cell?_of_block (World.putObj_heap_other (by simp at hD; intro h; simp at h; omega))
      rw [e2, c0] at e1
      simpa using e1.symm
    subst hvv
    exact ⟨_, results_tmp2 rfl _ _ _, v', rfl, ho', hB'⟩

theorem Objects_ok (f u : Int) (w : World) (hf0 : 0 ≤ f) (hf1 : f < 256) (h0 : 0 ≤ u) (h1 : u ≤ 255) :
    Calls Try.prog 25 #[.agg #[.int .i64 f, .int .u8 u]] w fun e w' => ∃ v, e = .returned (.tuple #[v, .int .i64 0]) ∧ Rd encI 1 w' v (objs f u) ∧ Below w.heap.size w w' :=
  (Objects_own f u w hf0 hf1 h0 h1).mono fun e w' ⟨v, he, ho, hb⟩ => ⟨v, he, ho.rd codedI, hb⟩
end Go.Proofs.Ytimmmhfcfocjdaa
