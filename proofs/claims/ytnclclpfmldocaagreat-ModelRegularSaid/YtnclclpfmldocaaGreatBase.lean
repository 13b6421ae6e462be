/- Names for plain values; lists of numbers as data. -/
import Derived.Test.YtnclclpfmldocaaGreatTL
import Derived.Test.YtnclclpfmldocaaGreatEngX
namespace Go.Proofs.YtnclclpfmldocaaGreat
open Go.RowKit
set_option linter.unusedSimpArgs false
set_option linter.unusedVariables false

abbrev iv (n : Int) : AV := .d (.int .i64 n)
abbrev bv (b : Bool) : AV := .d (.bool b)
abbrev uv (u : Int) : AV := .d (.int .u8 u)
abbrev wv (u : Int) : AV := .d (.int .u64 u)
def encDI (n : Int) : List D := [.int .i64 n]
def encDW (n : Int) : List D := [.int .u64 n]
def encDB (b : Bool) : List D := [.bool b]
abbrev dI (l : List Int) : AV := .d (.sl (l.map encDI))
abbrev dW (l : List Int) : AV := .d (.sl (l.map encDW))
abbrev dB (l : List Bool) : AV := .d (.sl (l.map encDB))

/-- rows of one length, made of scalars -/
structure Enc {α : Type} (enc : α → List D) (sz : Nat) : Prop where
  len : ∀ x, (enc x).length = sz
  sc : ∀ x, ∀ d ∈ enc x, scalD d = true
theorem scal_flat {d : D} (h : scalD d = true) : flatD d := by cases d <;> first | trivial | (simp [scalD] at h)
theorem Enc.rows {α : Type} {enc : α → List D} {sz : Nat} (h : Enc enc sz) (l : List α) : ∀ r ∈ l.map enc, r.length = sz := by
  intro r hr
  obtain ⟨x, _, rfl⟩ := List.mem_map.1 hr
  exact h.len x
theorem Enc.flat {α : Type} {enc : α → List D} {sz : Nat} (h : Enc enc sz) (l : List α) : ∀ r ∈ l.map enc, ∀ x ∈ r, flatD x := by
  intro r hr x hx
  obtain ⟨y, _, rfl⟩ := List.mem_map.1 hr
  exact scal_flat (h.sc y x hx)
theorem encI : Enc encDI 1 := ⟨fun _ => rfl, fun x d hd => by simp only [encDI, List.mem_singleton] at hd; subst hd; rfl⟩
theorem encW : Enc encDW 1 := ⟨fun _ => rfl, fun x d hd => by simp only [encDW, List.mem_singleton] at hd; subst hd; rfl⟩
theorem encB : Enc encDB 1 := ⟨fun _ => rfl, fun x d hd => by simp only [encDB, List.mem_singleton] at hd; subst hd; rfl⟩

theorem drop_get {α : Type} (l : List α) (k : Nat) (h : k < l.length) : l.drop k = l[k] :: l.drop (k + 1) := List.drop_eq_getElem_cons h
theorem take_get {α : Type} (l : List α) (k : Nat) (h : k < l.length) : l.take (k + 1) = l.take k ++ [l[k]] := List.take_succ_eq_append_getElem h

theorem repA_ren (ρ : Nat → Nat) (n : Nat) (x : D) : renL ρ (repA n (.d x)) = repA n (.d x) := by rw [renL_map]; simp [repA, AV.ren]

/-- a list and an error, or an error alone -/
def rsl {α : Type} (sz : Nat) (e : Int) (l : List α) : AV := if e = 0 then .tup [.row 0 sz 0 l.length, iv 0] else .tup [.nil, iv e]
def osl {α : Type} (t : TypeId) (sz : Nat) (enc : α → List D) (e : Int) (l : List α) : List Ob := if e = 0 then [.rows t sz (l.map enc)] else []
theorem rsl_bad {α : Type} {sz : Nat} {e : Int} {l : List α} (h : e ≠ 0) : rsl sz e l = .tup [.nil, iv e] := by simp [rsl, h]
theorem osl_bad {α : Type} {t : TypeId} {sz : Nat} {enc : α → List D} {e : Int} {l : List α} (h : e ≠ 0) : osl t sz enc e l = [] := by simp [osl, h]
theorem rsl_ok {α : Type} {sz : Nat} {l : List α} : rsl sz 0 l = .tup [.row 0 sz 0 l.length, iv 0] := rfl
theorem osl_ok {α : Type} {t : TypeId} {sz : Nat} {enc : α → List D} {l : List α} : osl t sz enc 0 l = [.rows t sz (l.map enc)] := rfl
theorem frz_rsl {α : Type} (t : TypeId) (sz : Nat) (enc : α → List D) (e : Int) (l : List α) : frz (osl t sz enc e l) (rsl sz e l) = some (.tup [.d (.sl ((if e = 0 then l else []).map enc)), iv e]) := by
  by_cases h : e = 0
  · subst h; simp [rsl, osl, frz, frzA, frzAL, frzL, frz1, List.take_of_length_le]
  · simp [rsl, osl, h, frz, frzA, frzAL, frzL, frz1]

/-- an object of rows at the end of a function: none of its cells points anywhere -/
theorem flatO_rows {α : Type} {enc : α → List D} {sz : Nat} (h : Enc enc sz) (t : TypeId) (l : List α) : flatO (.rows t sz (l.map enc)) := h.flat l
end Go.Proofs.YtnclclpfmldocaaGreat
