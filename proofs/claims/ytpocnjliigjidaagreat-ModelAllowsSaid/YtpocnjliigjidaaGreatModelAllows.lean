import Derived.Test.YtpocnjliigjidaaGreatMdA4
import Derived.Test.YtpocnjliigjidaaGreatFitM
/- ModelAllows: for every input the law returns true, and its arguments read behind the call as before. -/
namespace Go.Proofs.YtpocnjliigjidaaGreat.modelAllows
open Go.RowKit Go.ChangeShapes Go.WideShapes Go.ChangeAt
set_option maxRecDepth 100000 in
theorem lifted (os : Os) (started : os.Started) (H : Type) (enc : TypeId × Value → H) :
    ReturnsInHanded {} Tryz.checked os 4 .any (Rows.modelAllowsSpec.pre6 enc Tryz.prog Tryz.f4 Rows.modelAllowsRow.domain false) (Rows.modelAllowsSpec.post enc Tryz.prog Tryz.f4 false true false false) := by
  refine returnsInHanded_of_change (C := Tryz.checked) own_knob started (by kernel_rfl) Tryz.func4
    (ChangeSpec.witness6 (enc := enc) (C := Tryz.checked) false ⟨#[], #[.slice none 0 0], []⟩ 8 (by kernel_rfl) (by kernel_rfl) (by kernel_rfl) (by kernel_rfl)) ?_
  intro W base args ds gs before hval0 hW _ _
  have hval : ∀ (j : Nat) t v, Tryz.f4.params[j]? = some t → args[j]? = some v → Value.okWide Tryz.prog W .any base t v := hval0
  have hW' := hW
  obtain ⟨p, q, hA0, hV, rfl, hfz, hnd⟩ := hW
  have hA : DataW.TrodAll enc Tryz.prog W 0 (fun _ => true) true Tryz.f4.params.toList args.toList ds p := hA0
  rw [Tryz.params4] at hA hval
  obtain ⟨v0, vs0, d0, ds0, p0, q0, hargs, rfl, rfl, h0, r0'⟩ := trodAll_cons hA
  obtain ⟨rfl, rfl, rfl⟩ := trodAll_nil r0'
  obtain rfl : args = #[v0] := by cases args; simp_all
  obtain ⟨rfl, rfl⟩ := trodVars_none hV
  obtain ⟨c0, f0, r0⟩ := open_d (n := 6) (s := .sl [.int .i64, .int .i64, .int .i64, .int .i64, .int .i64, .int .u64, .int .u64]) (by kernel_rfl) (by kernel_rfl) (hval 0 22 v0 rfl rfl) h0
  obtain ⟨x0, rfl, b0⟩ := fit_ocs f0
  clear hA0 hval0
  refine (law_calls mal_ok [ocL x0] W #[v0] ⟨x0, rfl, rfl, rfl, rfl⟩ rfl (fun j z u hx hu => ?_)).mono fun e W' ⟨he, hb⟩ => ?_
  · match j, hx, hu with
    | 0, hx, hu => simp at hx hu; subst hx hu; exact r0 _
  subst he
  exact ⟨_, rfl, post_law hW' laid_out (by kernel_rfl) rfl rfl rfl rfl rfl Tryz.underlying4 hb⟩
theorem over : Rows.modelAllowsRow.holds Tryz.pinned (OpenSpec.ofChange Rows.modelAllowsSpec) :=
  OpenClaim.holds_of_wide 4 Tryz.f4 rfl rfl rfl rfl rfl rfl rfl ⟨rfl, rfl, rfl, rfl, rfl⟩ rfl rfl rfl rfl rfl (by kernel_rfl) Tryz.func4 (by kernel_rfl)
    (of_decide_eq_true (by kernel_rfl)) (by unfold Func.isWrapper; first | (rw [if_pos (by decide +kernel)]; kernel_rfl) | (rw [if_neg (by decide +kernel)]; exact ⟨rfl, rfl⟩))
    (fun os started H enc _ => lifted os started H enc)
theorem proved : Rows.ModelAllowsSaid := over
#print axioms proved
end Go.Proofs.YtpocnjliigjidaaGreat.modelAllows
