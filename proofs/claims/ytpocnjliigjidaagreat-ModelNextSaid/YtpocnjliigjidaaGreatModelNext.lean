import Derived.Test.YtpocnjliigjidaaGreatMdZ4
import Derived.Test.YtpocnjliigjidaaGreatFitM
/- ModelNext: for every input the law returns true, and its arguments read behind the call as before. -/
namespace Go.Proofs.YtpocnjliigjidaaGreat.modelNext
open Go.RowKit Go.ChangeShapes Go.WideShapes Go.ChangeAt
set_option maxRecDepth 100000 in
theorem lifted (os : Os) (started : os.Started) (H : Type) (enc : TypeId × Value → H) :
    ReturnsInHanded {} Tryz.checked os 5 .any (Rows.modelNextSpec.pre6 enc Tryz.prog Tryz.f5 Rows.modelNextRow.domain false) (Rows.modelNextSpec.post enc Tryz.prog Tryz.f5 false true false false) := by
  refine returnsInHanded_of_change (C := Tryz.checked) own_knob started (by kernel_rfl) Tryz.func5
    (ChangeSpec.witness6 (enc := enc) (C := Tryz.checked) false ⟨#[], #[.agg #[.slice none 0 0, .slice none 0 0, .slice none 0 0, .slice none 0 0, .int .u64 0], .agg #[.int .i64 0, .int .i64 0, .int .i64 0, .int .i64 0, .int .i64 0, .int .u64 0, .int .u64 0]], []⟩ 8 (by kernel_rfl) (by kernel_rfl) (by kernel_rfl) (by kernel_rfl)) ?_
  intro W base args ds gs before hval0 hW _ _
  have hval : ∀ (j : Nat) t v, Tryz.f5.params[j]? = some t → args[j]? = some v → Value.okWide Tryz.prog W .any base t v := hval0
  have hW' := hW
  obtain ⟨p, q, hA0, hV, rfl, hfz, hnd⟩ := hW
  have hA : DataW.TrodAll enc Tryz.prog W 0 (fun _ => true) true Tryz.f5.params.toList args.toList ds p := hA0
  rw [Tryz.params5] at hA hval
  obtain ⟨v0, vs0, d0, ds0, p0, q0, hargs, rfl, rfl, h0, r0'⟩ := trodAll_cons hA
  obtain ⟨v1, vs1, d1, ds1, p1, q1, rfl, rfl, rfl, h1, r1'⟩ := trodAll_cons r0'
  obtain ⟨rfl, rfl, rfl⟩ := trodAll_nil r1'
  obtain rfl : args = #[v0, v1] := by cases args; simp_all
  obtain ⟨rfl, rfl⟩ := trodVars_none hV
  obtain ⟨c0, f0, r0⟩ := open_agg (n := 6) (sh := [.sl [.bool], .sl [.int .u64], .sl [.int .i64, .int .i64, .int .i64, .int .u64], .sl [.int .u64], .int .u64]) (by kernel_rfl) (by kernel_rfl) (hval 0 40 v0 rfl rfl) h0
  obtain ⟨x0, rfl, b0⟩ := fit_story f0
  obtain ⟨c1, f1, r1⟩ := open_agg (n := 6) (sh := [.int .i64, .int .i64, .int .i64, .int .i64, .int .i64, .int .u64, .int .u64]) (by kernel_rfl) (by kernel_rfl) (hval 1 51 v1 rfl rfl) h1
  obtain ⟨x1, rfl, b1⟩ := fit_oc f1
  clear hA0 hval0
  refine (law_calls mnx_ok [syA x0, ocA x1] W #[v0, v1] ⟨x0, x1, b0, rfl, rfl, rfl, rfl⟩ rfl (fun j z u hx hu => ?_)).mono fun e W' ⟨he, hb⟩ => ?_
  · match j, hx, hu with
    | 0, hx, hu => simp at hx hu; subst hx hu; exact r0 _
    | 1, hx, hu => simp at hx hu; subst hx hu; exact r1 _
  subst he
  exact ⟨_, rfl, post_law hW' laid_out (by kernel_rfl) rfl rfl rfl rfl rfl Tryz.underlying4 hb⟩
theorem over : Rows.modelNextRow.holds Tryz.pinned (OpenSpec.ofChange Rows.modelNextSpec) :=
  OpenClaim.holds_of_wide 5 Tryz.f5 rfl rfl rfl rfl rfl rfl rfl ⟨rfl, rfl, rfl, rfl, rfl⟩ rfl rfl rfl rfl rfl (by kernel_rfl) Tryz.func5 (by kernel_rfl)
    (of_decide_eq_true (by kernel_rfl)) (by unfold Func.isWrapper; first | (rw [if_pos (by decide +kernel)]; kernel_rfl) | (rw [if_neg (by decide +kernel)]; exact ⟨rfl, rfl⟩))
    (fun os started H enc _ => lifted os started H enc)
theorem proved : Rows.ModelNextSaid := over
#print axioms proved
end Go.Proofs.YtpocnjliigjidaaGreat.modelNext
