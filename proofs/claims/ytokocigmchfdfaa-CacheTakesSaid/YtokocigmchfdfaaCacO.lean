/- Objects of a cache, with the row as the caller's own; as a contract of the engine. -/
import Derived.Test.YtokocigmchfdfaaCacN
set_option linter.unusedSimpArgs false
set_option linter.unusedVariables false
namespace Go.Proofs.Ytokocigmchfdfaa
open Go.RowKit Go.Shelf
attribute [local go_sem] Oper.semAt_some
set_option maxRecDepth 100000 in
theorem Objects_own (v : Value) (l : List (Int × Int)) (w : World) (h : Rd encVS 2 w v l) (hl : l.length ≤ 1000000) (hval : Val l) :
    Calls Try.prog 28 #[v] w fun e w' => ∃ u, e = .returned (.tuple #[u, .int .i64 0]) ∧ Own encI 1 w.heap.size 3 w' u (objsC l) ∧ Below w.heap.size w w' := by
  have hok : (cc l).1 = 0 := by rw [val_cc hval]
  have hlen := objsC_len l
  obtain ⟨A, c, rfl, hc, hA⟩ := h
  refine (callsIn_wide (n := 5)).1 ?_
  refine callsIn_of_wp_marks Try.func28 rfl trivial ?_ rfl
  simp only [Try.ntmps28, List.size_toArray, List.length_cons, List.length_nil, Nat.reduceAdd, Nat.reduceSub, Array.replicate_succ, Array.replicate_zero, List.push_toArray, List.append_toArray, List.nil_append, List.cons_append]
  gi_wp2
  refine ⟨trivial, (callsIn_wide.2 (Check_any (.slice A l.length c) l _ ⟨A, c, rfl, hc, hA⟩ hl)).mono ?_⟩
  rintro e w1 ⟨rfl, hb1⟩
  rw [hok]
  gi_wp2
  refine ⟨trivial, (callsIn_wide.2 (objects_any _ _ _ _)).mono ?_⟩
  rintro e w' ⟨rfl, rfl⟩
  gi_wp2
  have hn0 : w.heap.size ≤ w1.heap.size := hb1.size
  have hpre : ∀ W1 : World, Below ((w1.alloc (.cells #[.slice none 0 0] 44)).alloc (.cells #[.slice A l.length c] 22)).heap.size ((w1.alloc (.cells #[.slice none 0 0] 44)).alloc (.cells #[.slice A l.length c] 22)) W1 → ObPre w.heap.size (w1.heap.size + 1) (.slice A l.length c) l W1 := by
    intro W1 hB
    have hBl : Below w.heap.size w W1 := (by repeat (first | exact Below.refl _ _ | assumption | apply Below.drew | apply b_drewN | apply b_alloc | (refine Below.setCell ?_ (by (try simp); (try omega)) _) | (refine b_then ?_ (by assumption))))
    refine ⟨(blk_new (by simp)).call hB, A, c, rfl, hc, fun h0 => ?_⟩
    obtain ⟨b, off, e, hbl, hx⟩ := hA h0
    exact ⟨b, off, e, hbl, Nat.lt_of_lt_of_le hbl hBl.size, fun i x hi j u hu => (hBl.cell (p := ⟨b, _, none⟩) hbl).trans (hx i x hi j u hu)⟩
  refine wpIn_rangeAll (by omega) (gf := 66) (lb := #[.pointer (some ⟨w1.heap.size + 1, 0, none⟩)]) rfl (enters_of Try.func66 (by kernel_rfl) rfl)
    (objects1_all 4 (w1.heap.size + 1) w.heap.size (by omega) (.slice A l.length c) l hl hval) hpre (by (try simp); (try omega)) (by rintro k rfl; (try simp); (try omega)) (fun _ => rfl)
    (fun pre K W => Coll encI 1 3 44 w1.heap.size w pre K W) Coll.calm (Coll.calmO (by (try simp); (try omega))) ?start
    (fun x => { tmps := #[.slice A l.length c, undef, .slice none 0 0, .int .i64 0, .int .i64 0, .int .i64 (cc l).snd, .pointer (some ⟨w1.heap.size, 0, none⟩), .int .i64 x,
          .tuple #[.int .i64 0, .int .i64 (cc l).snd], .slice A l.length c, .tuple #[.int .i64 0, .int .i64 (cc l).snd], .int .i64 0, .int .i64 (cc l).snd, .int .i64 0, .bool false, undef, .slice A l.length c,
          .func (.func 66) #[] #[.pointer (some ⟨w1.heap.size + 1, 0, none⟩)], .int .i64 x, undef, undef, undef, undef, undef], defers := [] }) ?assign ?body ?done
  case start =>
    refine ⟨.slice none 0 0, (Blk.new w1 _ _).alloc _, Own.nil _, by simp, fun k e => by simp [Value.ownBlock] at e, (by repeat (first | exact Below.refl _ _ | assumption | apply Below.drew | apply b_drewN | apply b_alloc | (refine Below.setCell ?_ (by (try simp); (try omega)) _) | (refine b_then ?_ (by assumption)))), hn0, ?_⟩
    rintro k rfl
    simp; omega
  case assign =>
    intro lp x W K hK
    gi_wp2
    exact hK
  case body =>
    rintro lp pre x K W ⟨v, hbx, ho, hk, hv, hB, hx, hK⟩ hpfx
    have hpl : pre.length + 1 ≤ (objsC l).length := by simpa using hpfx.length_le
    have c0 : W.cell? ⟨w1.heap.size, 0, none⟩ = some v := hbx.cell 0
    have hbx2 := fun (w2 : World) (hg' : (W.alloc (.cells #[.int .i64 x] 3)).grownBy w2 v.ownBlock) => (hbx.alloc (.cells #[.int .i64 x] 3)).grown hg' (fun e => (hv w1.heap.size e.symm).2 rfl)
    have Hbx2 := Lib.hid hbx2
    clear hbx2
    gi_wp2_with (gi_at_builtin; refine wpListIn_append1 _ rfl _ _ rfl elemI codedI _ pre rfl (ho.alloc _) _ x rfl (blk_new rfl) (by simp only [maxLen]; omega) (by omega) (by have := hB.size; simp; omega) ?_; intro v' w2 hown' hg' hat'; obtain ⟨g', cap', hv'⟩ := own_snoc hown'; have d0 := (Hbx2.out w2 hg').cell 0; have d1 := (Hbx2.out w2 hg').frozen 0; rw [hv']; clear c0)
    rw [← hv']
    exact coll_step hbx ho hk hv hB hx hK (Nat.le_refl _) hown' hg' hat'
  case done =>
    rintro D W K ⟨v, hbx, ho, hk, hv, hB, hx, hK⟩ hD hDef
    have c0 : W.cell? ⟨w1.heap.size, 0, none⟩ = some v := hbx.cell 0
    gi_wp2
    refine ⟨by simp, .inl ⟨_, _, rfl, run_takeDeferred hDef, ?_⟩⟩
    obtain ⟨v', hbx', ho', _, _, hB', _, _⟩ := Coll.calmO (f := fun p : List Int => p) (n₁ := w.heap.size) (Nat.le_refl _) (objsC l) K W D _ (.deferred none) ⟨v, hbx, ho, hk, hv, hB, hx, hK⟩ (by simp at hD; omega) hDef rfl
    have hvv : v' = v := by
      have e1 := hbx'.cell 0
      have e2 : (W.putObj D (.deferred none)).cell? ⟨w1.heap.size, 0, none⟩ = W.cell? ⟨w1.heap.size, 0, none⟩ := World.cell?_of_block (World.putObj_heap_other (by simp at hD; intro h; simp at h; omega))
      rw [e2, c0] at e1
      simpa using e1.symm
    subst hvv
    exact ⟨_, results_tmp2 rfl _ _ _, v', rfl, ho', hB'⟩

set_option maxRecDepth 100000
def ObjectsS : Spec := { rel := fun args ins res outs => ∃ l : List (Int × Int), l.length ≤ 1000000 ∧ Val l ∧ args = [dS l] ∧ ins = [] ∧ res = .tup [.row 0 1 0 (objsC l).length, iv 0] ∧ outs = [.rows 3 1 ((objsC l).map encDI)] }
theorem Objects_at (l : List (Int × Int)) (h0 : l.length ≤ 1000000) (hv : Val l) : ObjectsS.rel [dS l] [] (.tup [.row 0 1 0 (objsC l).length, iv 0]) [.rows 3 1 ((objsC l).map encDI)] := ⟨l, h0, hv, rfl, rfl, rfl, rfl⟩
theorem Objects_ok : Ok Try.prog 28 ObjectsS := by
  refine ⟨⟨_, Try.func28, rfl, rfl⟩, ?_⟩
  rintro args ins res outs ⟨l, hl, hv, rfl, rfl, rfl, rfl⟩ w V Bo μ vals hin
  obtain ⟨v, rfl, hvr⟩ := one_val hin
  cases hvr with
  | d hvr =>
    refine (Objects_own v l w (data_rd (encD := encDS) (fun _ => rfl) (fun _ => rfl) encS_sc (fun b h => (hin.vlt b h).1) hvr) hl hv).mono ?_
    rintro e w' ⟨u, rfl, ho, hbl⟩
    obtain ⟨μ', h⟩ := out_row (P := Try.prog) (al := ObjectsS.al) (encD := encDI) 0 (by decide) (fun _ => rfl) (fun _ => rfl) encI_sc hin ho hbl
    exact ⟨_, μ', rfl, h⟩
end Go.Proofs.Ytokocigmchfdfaa
