/- Engine, part W: interface values, elements of array values, a loop unrolled. -/
import Derived.Test.YtpkiabhlmjnemaaEngU
import Derived.LoopN
namespace Go.Proofs.Ytpkiabhlmjnemaa
open Go.RowKit
set_option linter.unusedSimpArgs false
set_option linter.unusedVariables false

/-- a loop that ends within n rounds -/
def Wn (cx : Cx) (c : Code) (Q : Exit → St → Prop) : Nat → St → Prop
  | 0, _ => False
  | n + 1, σ => W cx c σ (thenQ (fun σ' => Wn cx c Q n σ') Q)
theorem Wn_rounds {cx : Cx} {c : Code} {Q : Exit → St → Prop} : ∀ (n : Nat) (σ : St), Wn cx c Q n σ → ∀ μ a w, RRs cx σ μ a w → Code.rounds cx.P c (fun e a' w' => ∃ σ' μ', Q e σ' ∧ RRs cx σ' μ' a' w') n a w
  | 0, _, h, _, _, _, _ => h.elim
  | n + 1, σ, h, μ, a, w, hr => by
    rw [rounds_succ]
    refine wp_mono (h μ a w hr) ?_
    rintro e a' w' ⟨σ', μ', h1, h2⟩
    cases e with
    | normal => exact Wn_rounds n σ' h1 μ' a' w' h2
    | _ => exact ⟨σ', μ', h1, h2⟩
theorem W_rounds {cx : Cx} {c : Code} {σ : St} {Q : Exit → St → Prop} (n : Nat) (h : Wn cx c Q n σ) : W cx (.loop c) σ Q := fun μ a w hr => wp_loop_rounds n (Wn_rounds n σ h μ a w hr)
theorem Wn_succ {cx : Cx} {c : Code} {σ : St} {Q : Exit → St → Prop} {n : Nat} (h : W cx c σ (thenQ (fun σ' => Wn cx c Q n σ') Q)) : Wn cx c Q (n + 1) σ := h

theorem ext_iface {P : Program} {n : Nat} {o : Oper} {σ : St} {K : Eff → Prop} {t : TypeId} {y : Operand} {x : AV} {d : TypeDesc} (ho : o.op = .makeInterface t y) (hd : dstOk n o.dst) (hu : P.underlying t = some d) (hn : (match d with | .interface _ => false | _ => true) = true)
    (hy : getT σ.T y = some x) (h : K ⟨.ifc t x, [], [], []⟩) : extV P n o σ K := by
  refine ⟨_, fun cx hP hcn => ?_, h⟩
  subst hP hcn
  refine loc_val hd fun H T μ a w hr he _ => ⟨.iface t (a.eval y), ?_, .ifc (he y x (by simp [Op.operands, ho]) hy)⟩
  simp only [execOp, ho]
  refine run_v ?_
  cases d <;> simp_all [Instr.makeInterface, run_underlying hu]

theorem ext_index {P : Program} {n : Nat} {o : Oper} {σ : St} {K : Eff → Prop} {t e : TypeId} {m : Nat} {y z : Operand} {cs : List AV} {kk : IntKind} {i : Int} (ho : o.op = .index t y z) (hd : dstOk n o.dst) (hok : (TL P t).ok = true) (hae : (TL P t).aelem = some (m, e)) (heok : (TL P e).ok = true) (hag : (TL P e).agg = true)
    (hy : getT σ.T y = some (.agg cs)) (hz : getT σ.T z = some (.d (.int kk i))) (h0 : 0 ≤ i) (h1 : i < m) (hl : i.toNat * (TL P e).size + (TL P e).size ≤ cs.length)
    (h : K ⟨.agg ((cs.drop (i.toNat * (TL P e).size)).take (TL P e).size), [], [], []⟩) : extV P n o σ K := by
  refine ⟨_, fun cx hP hcn => ?_, h⟩
  subst hP hcn
  have hu := TL_aelem hok hae
  obtain ⟨ie, de, hi1, hi2, hsz, hagd, _⟩ := TL_ok heok
  have hagg : ∀ w : World, (isAgg e).run cx.P w = .ok true w := by
    intro w
    unfold isAgg
    rw [Sem.run_bind, run_underlying hi2 w]
    rw [hagd] at hag
    cases de <;> simp_all [aggD]
  refine loc_val hd fun H T μ a w hr he _ => ?_
  have h5 := he y _ (by simp [Op.operands, ho]) hy
  have h6 := he z _ (by simp [Op.operands, ho]) hz
  generalize hv : a.eval y = v at h5
  generalize hv2 : a.eval z = v2 at h6
  cases h6 with
  | d h6 =>
  cases h6
  cases h5 with
  | agg r1 r2 r3 =>
    rename_i vs
    refine ⟨.agg (vs.extract (i.toNat * (TL cx.P e).size) (i.toNat * (TL cx.P e).size + (TL cx.P e).size)), ?_, .agg (by simp; omega) (fun j x' u hx hu => ?_) (fun u hu => r3 u ?_)⟩
    · simp only [execOp, ho, hv, hv2]
      refine run_v ?_
      simp [Instr.index, run_underlying hu, asIntOf, asAgg, part, hagg, sizeOf, typeInfo, hi1, hsz, h0, h1]
    · rw [List.getElem?_take] at hx
      split at hx
      · rw [List.getElem?_drop] at hx
        refine r2 _ x' u hx ?_
        rw [Array.getElem?_extract] at hu
        split at hu
        · exact hu
        · cases hu
      · cases hx
    · obtain ⟨q, hq, rfl⟩ := Array.mem_iff_getElem.1 hu
      simp at hq ⊢
end Go.Proofs.Ytpkiabhlmjnemaa
