/- Engine, part Q: contracts of the old walks over slices, as contracts of the engine. -/
import Derived.Test.YtokocigmchfdfaaEngP
set_option linter.unusedSimpArgs false
set_option linter.unusedVariables false
namespace Go.Proofs.Ytokocigmchfdfaa
open Go.RowKit

theorem data_rd {α : Type} {encV : α → List Value} {encD : α → List D} {sz : Nat} {w : World} {S : Nat → Prop} {v : Value} {l : List α} (hlen : ∀ x, (encD x).length = sz) (hv : ∀ x, encV x = (encD x).map valD) (hsc : ∀ x, ∀ d ∈ encD x, scalD d = true)
    (hS : ∀ b, S b → b < w.heap.size) (h : RepD w S (.sl (l.map encD)) v) : Rd encV sz w v l := by
  generalize hr : l.map encD = rows at h
  cases h with
  | nil =>
    have : l = [] := by simpa using hr
    subst this
    exact ⟨_, _, rfl, Nat.zero_le _, fun h => absurd h (by simp)⟩
  | sl f hb hc hsz hcell hrep =>
    rename_i b off c sz'
    have hll : rows.length = l.length := by rw [← hr]; simp
    refine ⟨_, c, by rw [hll], by omega, fun h0 => ⟨b, off, rfl, hS b hb, fun i x hi j u hu => ?_⟩⟩
    have hri : rows[i]? = some (encD x) := by rw [← hr, List.getElem?_map, hi]; rfl
    have hsz' : sz = sz' := by rw [← hlen x]; exact hsz i _ hri
    subst hsz'
    rw [hv, List.getElem?_map] at hu
    cases hd : (encD x)[j]? with
    | none => simp [hd] at hu
    | some d =>
      simp [hd] at hu; subst hu
      rw [hcell i j _ d hri hd]
      exact congrArg some (valD_rep (hsc x d (List.mem_of_getElem? hd)) (hrep i j _ d hri hd))

/-- an old contract's row as a result of the engine -/
theorem out_row {α : Type} {P : Program} {al : Bool} {encV : α → List Value} {encD : α → List D} {sz : Nat} {e : TypeId} {V Bo : Nat → Prop} {μ : Mu} {w w' : World} {args : List AV} {vals : Array Value} {v : Value} {l : List α} (n : Int)
    (hsz : 0 < sz) (hlen : ∀ x, (encD x).length = sz) (hv : ∀ x, encV x = (encD x).map valD) (hsc : ∀ x, ∀ d ∈ encD x, scalD d = true)
    (hin : In V Bo μ w args [] vals) (ho : Own encV sz w.heap.size e w' v l) (hb : Below w.heap.size w w') :
    ∃ μ', Out P al [] V Bo μ w 0 (.tup [.row 0 sz 0 l.length, .d (.int .i64 n)]) [.rows e sz (l.map encD)] (.tuple #[v, .int .i64 n]) w' μ' := by
  obtain ⟨nb, hnb, hrep⟩ := own_obj hsz hlen hv hsc ho
  have hbo : ∀ b, Bo b → b < w.heap.size := fun b hb => by obtain ⟨i, hi, _⟩ := hin.bo' b hb; simp at hi
  refine ⟨fun i => if i = 0 then some nb else none, ev_below hb hbo, fun i x hx => ?_, ?_, fun i o hi _ => ?_, fun i b _ h => ?_, fun i j b hi hj _ _ _ _ => ?_, fun i hi => ?_, by simp⟩
  · rw [hin.lt i (by simp)] at hx; cases hx
  · refine .tup rfl (fun j x u' hx hu => ?_)
    match j, hx, hu with
    | 0, hx, hu => simp at hx hu; subst hx hu; exact (hrep _ _ 0 (by simp)).1
    | 1, hx, hu => simp at hx hu; subst hx hu; exact .d .int
  · match i, hi with
    | 0, hi => simp at hi; subst hi; exact (hrep _ _ 0 (by simp)).2
  · by_cases h0' : i = 0
    · simp [h0'] at h; exact ⟨.inl (hnb b h).1, (hnb b h).2⟩
    · simp [h0'] at h
  · simp at hi hj; omega
  · simp at hi; have : i ≠ 0 := by omega
    simp [this]
/-- an old contract's nil as a result of the engine -/
theorem out_nil {P : Program} {al : Bool} {V Bo : Nat → Prop} {μ : Mu} {w w' : World} {args : List AV} {vals : Array Value} (n : Int) (hin : In V Bo μ w args [] vals) (hb : Below w.heap.size w w') :
    ∃ μ', Out P al [] V Bo μ w 0 (.tup [.nil, .d (.int .i64 n)]) [] (.tuple #[.slice none 0 0, .int .i64 n]) w' μ' := by
  have hbo : ∀ b, Bo b → b < w.heap.size := fun b hb => by obtain ⟨i, hi, _⟩ := hin.bo' b hb; simp at hi
  refine ⟨fun _ => none, ⟨ev_below hb hbo, fun i x hx => ?_, ?_, fun i o hi _ => ?_, fun i b _ h => ?_, fun i j b hi _ _ _ _ _ => ?_, fun i hi => rfl, by simp⟩⟩
  · rw [hin.lt i (by simp)] at hx; cases hx
  · refine .tup rfl (fun j x u' hx hu => ?_)
    match j, hx, hu with
    | 0, hx, hu => simp at hx hu; subst hx hu; exact .nil
    | 1, hx, hu => simp at hx hu; subst hx hu; exact .d .int
  · simp at hi
  · cases h
  · simp at hi
theorem one_val {V Bo : Nat → Prop} {μ : Mu} {w : World} {x : AV} {ins : List Ob} {vals : Array Value} (hin : In V Bo μ w [x] ins vals) : ∃ v, vals = #[v] ∧ Rep w V μ x v := by
  have h1 : vals.size = 1 := hin.n
  obtain ⟨v, rfl⟩ := Array.size_eq_one_iff.1 h1
  exact ⟨v, rfl, hin.rep 0 x v rfl rfl⟩
end Go.Proofs.Ytokocigmchfdfaa
