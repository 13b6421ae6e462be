import Derived.Test.YtpocnjliigjidaaGreatEngS
import Derived.Test.YtpocnjliigjidaaGreatEngY
/- Outcomes, as data: which are valid. -/
namespace Go.Proofs.YtpocnjliigjidaaGreat
open Go.RowKit
set_option maxRecDepth 100000
set_option linter.unusedSimpArgs false
set_option linter.unusedVariables false
abbrev lv111MdC : List (Nat × List Nat) := [(0, [1, 2, 4]), (1, [1, 2, 4]), (2, [2, 4, 10]), (3, [2, 4, 10, 11, 12]), (4, [2, 4, 6, 10]), (5, [2, 4, 10, 14]), (6, [2, 4, 10, 14, 15]), (7, [2, 4, 10]), (8, [2, 4, 10, 14, 19]), (9, [2, 4, 10]), (10, [2, 4, 10, 14, 22]), (11, [2, 4, 10]), (12, [2, 4, 10, 14, 25]), (13, [2, 4, 10]), (14, [2, 4, 10, 14, 28]), (15, [2, 4, 10]), (16, [2, 4, 10, 31]), (17, [2, 4, 10]), (18, [4])]
abbrev lv42MdC : List (Nat × List Nat) := [(0, [0]), (1, [0, 10]), (2, [2, 3]), (3, [0, 4]), (4, [4, 12, 13, 14]), (5, [4, 12, 13, 14, 15]), (6, [4, 5, 6, 12, 13, 14]), (7, [4, 5, 7, 12, 13, 14]), (8, [4, 5, 7, 12, 13, 14, 23]), (9, [2, 3]), (10, [4, 12, 13, 14]), (11, [2, 3])]
abbrev lv61MdC : List (Nat × List Nat) := [(0, [2, 3]), (1, [2, 3, 13]), (2, [4]), (3, [2, 5]), (4, [2, 5, 32]), (5, [4]), (6, [38]), (7, [4]), (8, [4])]
structure Oc where
  k : Int
  p : Int
  o : Int
  g : Int
  w : Int
  t : Nat
  v : Nat
def encOc (x : Oc) : List D := [.int .i64 x.k, .int .i64 x.p, .int .i64 x.o, .int .i64 x.g, .int .i64 x.w, .int .u64 (x.t : Int), .int .u64 (x.v : Int)]
abbrev mxT : Nat := 1099511627776
def fitO (x : Oc) : Bool :=
  if x.k = 1 ∨ x.k = 2 then decide (0 ≤ x.g ∧ x.g ≤ x.o ∧ x.o < 64)
  else if x.k = 3 ∨ x.k = 4 then decide (0 ≤ x.g ∧ x.g < 64 ∧ 0 ≤ x.w ∧ x.w < 8 ∧ x.t ≤ mxT)
  else if x.k = 5 then decide (1 ≤ x.o ∧ x.o ≤ 8 ∧ x.o ≠ x.p ∧ 1 ≤ x.t ∧ x.t ≤ mxT)
  else if x.k = 6 ∨ x.k = 9 then decide (1 ≤ x.t ∧ x.t ≤ mxT)
  else if x.k = 8 then decide (0 ≤ x.g ∧ x.g < 64 ∧ 0 ≤ x.w ∧ x.w < 8)
  else if x.k = 10 then decide (x.t ≤ mxT)
  else if x.k = 11 then decide (1 ≤ x.v ∧ x.v ≤ 17 ∧ 1 ≤ x.t ∧ x.t ≤ mxT)
  else true
def unuO (x : Oc) : Bool :=
  if x.k = 1 ∨ x.k = 2 then decide (x.w = 0 ∧ x.t = 0 ∧ x.v = 0)
  else if x.k = 3 ∨ x.k = 4 then decide (x.o = 0)
  else if x.k = 5 then decide (x.g = 0 ∧ x.w = 0 ∧ x.v = 0)
  else if x.k = 6 ∨ x.k = 9 ∨ x.k = 10 then decide (x.o = 0 ∧ x.g = 0 ∧ x.w = 0 ∧ x.v = 0)
  else if x.k = 8 then decide (x.o = 0 ∧ x.t = 0 ∧ x.v = 0)
  else if x.k = 11 then decide (x.o = 0 ∧ x.g = 0 ∧ x.w = 0)
  else decide (x.o = 0 ∧ x.g = 0 ∧ x.w = 0 ∧ x.t = 0 ∧ x.v = 0)
def ocE (x : Oc) : Int := if x.k < 1 ∨ 11 < x.k then 16 else if ¬ (1 ≤ x.p ∧ x.p ≤ 8 ∧ fitO x = true) then 2 else if unuO x = false then 3 else 0
def trF : Nat → List Oc → Int × Nat
  | _, [] => (0, 0)
  | i, x :: l => if ocE x = 0 then trF (i + 1) l else (ocE x, i)
def trE (l : List Oc) : Int × Nat := if 5000 < l.length then (5, 0) else trF 0 l
theorem trF_at {l : List Oc} {i : Nat} (h : i < l.length) : trF i (l.drop i) = if ocE l[i] = 0 then trF (i + 1) (l.drop (i + 1)) else (ocE l[i], i) := by
  rw [List.drop_eq_getElem_cons h, trF]
theorem trF_ok : ∀ (l : List Oc) (i : Nat), (trF i l).1 = 0 → ∀ x ∈ l, ocE x = 0
  | [], _, _, x, hx => by cases hx
  | y :: l, i, h, x, hx => by
    rw [trF] at h
    by_cases hy : ocE y = 0
    · rw [if_pos hy] at h
      rcases List.mem_cons.1 hx with rfl | hx
      · exact hy
      · exact trF_ok l (i + 1) h x hx
    · rw [if_neg hy] at h; exact absurd h hy
theorem trE_ok {l : List Oc} (h : (trE l).1 = 0) : l.length ≤ 5000 ∧ ∀ x ∈ l, ocE x = 0 := by
  unfold trE at h
  by_cases hl : 5000 < l.length
  · rw [if_pos hl] at h; cases h
  · rw [if_neg hl] at h; exact ⟨by omega, trF_ok l 0 h⟩
theorem oc_kind {x : Oc} (h : ocE x = 0) : 1 ≤ x.k ∧ x.k ≤ 11 ∧ 1 ≤ x.p ∧ x.p ≤ 8 ∧ fitO x = true ∧ unuO x = true := by
  unfold ocE at h
  by_cases h1 : x.k < 1 ∨ 11 < x.k
  · rw [if_pos h1] at h; cases h
  · rw [if_neg h1] at h
    by_cases h2 : 1 ≤ x.p ∧ x.p ≤ 8 ∧ fitO x = true
    · rw [if_neg (fun hh => hh h2)] at h
      cases hu : unuO x with
      | false => rw [hu, if_pos rfl] at h; cases h
      | true => exact ⟨by omega, by omega, h2.1, h2.2.1, h2.2.2, rfl⟩
    · rw [if_pos h2] at h; cases h
abbrev ocA (x : Oc) : AV := .agg [iv x.k, iv x.p, iv x.o, iv x.g, iv x.w, wv (x.t : Int), wv (x.v : Int)]
abbrev ocL (l : List Oc) : AV := .d (.sl (l.map encOc))
end Go.Proofs.YtpocnjliigjidaaGreat
namespace Go.Proofs.YtpocnjliigjidaaGreat
open Go.RowKit
set_option maxRecDepth 100000
set_option linter.unusedSimpArgs false
set_option linter.unusedVariables false
theorem dec_t {p : Prop} [Decidable p] (h : p) : AV.d (.bool true) = AV.d (.bool (decide p)) := by rw [decide_eq_true h]
theorem dec_f {p : Prop} [Decidable p] (h : ¬ p) : AV.d (.bool false) = AV.d (.bool (decide p)) := by rw [decide_eq_false h]
def plcB (x : Oc) : Bool := decide (0 ≤ x.g ∧ x.g < 64 ∧ 0 ≤ x.w ∧ x.w < 8)
def mayB (x : Oc) : Bool := decide (x.t ≤ 1099511627776)
def reqB (x : Oc) : Bool := decide (1 ≤ x.t ∧ x.t ≤ 1099511627776)
def extB (x : Oc) : Bool := decide (0 ≤ x.g ∧ x.g ≤ x.o ∧ x.o < 64)
def accB (x : Oc) : Bool := plcB x && mayB x
def frqB (x : Oc) : Bool := decide (1 ≤ x.o ∧ x.o ≤ 8 ∧ x.o ≠ x.p) && reqB x
def refB (x : Oc) : Bool := decide (1 ≤ x.v ∧ x.v ≤ 17) && reqB x
def barB (_ : Oc) : Bool := true
def OcS (F : Oc → Bool) : Spec := { rel := fun args ins res outs => ∃ x : Oc, args = [ocA x] ∧ ins = [] ∧ res = bv (F x) ∧ outs = [] }
theorem ocx_at {F : Oc → Bool} (x : Oc) {b : Bool} (h : F x = b) : (OcS F).rel [ocA x] [] (bv b) [] := ⟨x, rfl, rfl, by rw [h], rfl⟩
abbrev plcS : Spec := OcS plcB
theorem plc_at (x : Oc) {b : Bool} (h : plcB x = b) : plcS.rel [ocA x] [] (bv b) [] := ocx_at x h
theorem plc_ok : Ok Tryz.prog 108 plcS := by
  refine fn_ok plcS Tryz.func108 rfl rfl ?_
  rintro args ins res outs ⟨x, rfl, rfl, rfl, rfl⟩
  refine ⟨by simp [Tryz.ntmps108], fun w0 V Bo mu0 => ?_⟩
  unfold plcB
  repeat' (first | refine sA ?_ | ((with_reducible first | refine hK _ ?_ | refine hK _ _ ?_); clear hK K) | ((first | refine sB ?_ | (with_reducible first | refine ops_cons (fun K hK => ?_) | refine W_reg [(0, [1]), (1, [2])] ?_) | with_reducible refine And.intro (fun h => ?_) (fun h => ?_) | with_reducible refine And.intro (by omega) ?_); (try simp only [go_sem, seval, reduceCtorEq, Tryz.ntmps108, Tryz.results108, plcS])) | fail)
  all_goals first | rfl | exact dec_t (by omega) | exact dec_f (by omega)
abbrev mayS : Spec := OcS mayB
theorem may_at (x : Oc) {b : Bool} (h : mayB x = b) : mayS.rel [ocA x] [] (bv b) [] := ocx_at x h
theorem may_ok : Ok Tryz.prog 109 mayS := by
  refine fn_ok mayS Tryz.func109 rfl rfl ?_
  rintro args ins res outs ⟨x, rfl, rfl, rfl, rfl⟩
  refine ⟨by simp [Tryz.ntmps109], fun w0 V Bo mu0 => ?_⟩
  unfold mayB
  repeat' (first | refine sA ?_ | ((with_reducible first | refine hK _ ?_ | refine hK _ _ ?_); clear hK K) | ((first | refine sB ?_ | (with_reducible first | refine ops_cons (fun K hK => ?_) | refine W_reg [(0, [1]), (1, [2])] ?_) | with_reducible refine And.intro (fun h => ?_) (fun h => ?_) | with_reducible refine And.intro (by omega) ?_); (try simp only [go_sem, seval, reduceCtorEq, Tryz.ntmps109, Tryz.results109, mayS])) | fail)
  all_goals first | rfl | exact dec_t (by omega) | exact dec_f (by omega)
abbrev barS : Spec := OcS barB
theorem bar_ok : Ok Tryz.prog 107 barS := by
  refine fn_ok barS Tryz.func107 rfl rfl ?_
  rintro args ins res outs ⟨x, rfl, rfl, rfl, rfl⟩
  refine ⟨by simp [Tryz.ntmps107], fun w0 V Bo mu0 => ?_⟩
  unfold barB
  repeat' (first | refine sA ?_ | ((with_reducible first | refine hK _ ?_ | refine hK _ _ ?_); clear hK K) | ((first | refine sB ?_ | (with_reducible first | refine ops_cons (fun K hK => ?_) | refine W_reg [(0, []), (1, [2])] ?_) | with_reducible refine And.intro (fun h => ?_) (fun h => ?_) | with_reducible refine And.intro (by omega) ?_); (try simp only [go_sem, seval, reduceCtorEq, Tryz.ntmps107, Tryz.results107, barS])) | fail)
  all_goals first | rfl | exact dec_t (by omega) | exact dec_f (by omega)
abbrev extOS : Spec := OcS extB
theorem extO_ok : Ok Tryz.prog 103 extOS := by
  refine fn_ok extOS Tryz.func103 rfl rfl ?_
  rintro args ins res outs ⟨x, rfl, rfl, rfl, rfl⟩
  refine ⟨by simp [Tryz.ntmps103], fun w0 V Bo mu0 => ?_⟩
  unfold extB
  repeat' (first | refine sA ?_ | ((with_reducible first | refine hK _ ?_ | refine hK _ _ ?_); clear hK K) | ((first | refine sB ?_ | (with_reducible first | refine ops_cons (fun K hK => ?_) | refine W_reg [(0, [1]), (1, [2])] ?_) | with_reducible refine And.intro (fun h => ?_) (fun h => ?_) | with_reducible refine And.intro (by omega) ?_); (try simp only [go_sem, seval, reduceCtorEq, Tryz.ntmps103, Tryz.results103, extOS])) | fail)
  all_goals first | exact dec_t (by omega) | exact dec_f (by omega)
abbrev reqS : Spec := OcS reqB
theorem req_at (x : Oc) {b : Bool} (h : reqB x = b) : reqS.rel [ocA x] [] (bv b) [] := ocx_at x h
theorem req_ok : Ok Tryz.prog 106 reqS := by
  refine fn_ok reqS Tryz.func106 rfl rfl ?_
  rintro args ins res outs ⟨x, rfl, rfl, rfl, rfl⟩
  refine ⟨by simp [Tryz.ntmps106], fun w0 V Bo mu0 => ?_⟩
  unfold reqB
  cases hm : mayB x with
  | true =>
    have := of_decide_eq_true hm
    repeat' (first | refine sA ?_ | ((with_reducible first | refine hK _ ?_ | refine hK _ _ ?_); clear hK K) | ((first | refine sB ?_ | (with_reducible first | refine ops_cons (fun K hK => ?_) | refine W_reg [(0, [1]), (1, [2])] ?_) | with_reducible refine callV_snap ?_ | ((with_reducible refine call_go mayS may_ok ?_); refine ⟨alk, _, _, may_at x hm, ?_⟩) | with_reducible refine And.intro (fun h => ?_) (fun h => ?_) | with_reducible refine And.intro (by omega) ?_); (try simp only [go_sem, seval, reduceCtorEq, Tryz.ntmps106, Tryz.results106, reqS])) | fail)
    all_goals first | exact dec_t (by omega) | exact dec_f (by omega)
  | false =>
    have := of_decide_eq_false hm
    repeat' (first | refine sA ?_ | ((with_reducible first | refine hK _ ?_ | refine hK _ _ ?_); clear hK K) | ((first | refine sB ?_ | (with_reducible first | refine ops_cons (fun K hK => ?_) | refine W_reg [(0, [1]), (1, [2])] ?_) | with_reducible refine callV_snap ?_ | ((with_reducible refine call_go mayS may_ok ?_); refine ⟨alk, _, _, may_at x hm, ?_⟩) | with_reducible refine And.intro (fun h => ?_) (fun h => ?_) | with_reducible refine And.intro (by omega) ?_); (try simp only [go_sem, seval, reduceCtorEq, Tryz.ntmps106, Tryz.results106, reqS])) | fail)
    all_goals first | exact dec_t (by omega) | exact dec_f (by omega)
abbrev accS : Spec := OcS accB
theorem acc_ok : Ok Tryz.prog 104 accS := by
  refine fn_ok accS Tryz.func104 rfl rfl ?_
  rintro args ins res outs ⟨x, rfl, rfl, rfl, rfl⟩
  refine ⟨by simp [Tryz.ntmps104], fun w0 V Bo mu0 => ?_⟩
  unfold accB
  cases hp : plcB x <;> cases hm : mayB x
  all_goals
    repeat' (first | refine sA ?_ | ((with_reducible first | refine hK _ ?_ | refine hK _ _ ?_); clear hK K) | ((first | refine sB ?_ | (with_reducible first | refine ops_cons (fun K hK => ?_) | refine W_reg [(0, [1]), (1, [2])] ?_) | with_reducible refine callV_snap ?_ | ((with_reducible refine call_go plcS plc_ok ?_); refine ⟨alk, _, _, plc_at x hp, ?_⟩) | ((with_reducible refine call_go mayS may_ok ?_); refine ⟨alk, _, _, may_at x hm, ?_⟩) | with_reducible refine And.intro (fun h => ?_) (fun h => ?_) | with_reducible refine And.intro (by omega) ?_); (try simp only [go_sem, seval, reduceCtorEq, Tryz.ntmps104, Tryz.results104, accS])) | fail)
  all_goals rfl
abbrev frqS : Spec := OcS frqB
theorem frq_ok : Ok Tryz.prog 105 frqS := by
  refine fn_ok frqS Tryz.func105 rfl rfl ?_
  rintro args ins res outs ⟨x, rfl, rfl, rfl, rfl⟩
  refine ⟨by simp [Tryz.ntmps105], fun w0 V Bo mu0 => ?_⟩
  unfold frqB
  cases hm : reqB x
  all_goals
    repeat' (first | refine sA ?_ | ((with_reducible first | refine hK _ ?_ | refine hK _ _ ?_); clear hK K) | ((first | refine sB ?_ | (with_reducible first | refine ops_cons (fun K hK => ?_) | refine W_reg [(0, [1]), (1, [2])] ?_) | with_reducible refine callV_snap ?_ | ((with_reducible refine call_go reqS req_ok ?_); refine ⟨alk, _, _, req_at x hm, ?_⟩) | with_reducible refine And.intro (fun h => ?_) (fun h => ?_) | with_reducible refine And.intro (by omega) ?_); (try simp only [go_sem, seval, reduceCtorEq, Tryz.ntmps105, Tryz.results105, frqS])) | fail)
  all_goals (try simp only [Bool.and_true, Bool.and_false])
  all_goals first | exact dec_t (by omega) | exact dec_f (by omega)
abbrev refOS : Spec := OcS refB
theorem refO_ok : Ok Tryz.prog 110 refOS := by
  refine fn_ok refOS Tryz.func110 rfl rfl ?_
  rintro args ins res outs ⟨x, rfl, rfl, rfl, rfl⟩
  refine ⟨by simp [Tryz.ntmps110], fun w0 V Bo mu0 => ?_⟩
  unfold refB
  cases hm : reqB x
  all_goals
    repeat' (first | refine sA ?_ | ((with_reducible first | refine hK _ ?_ | refine hK _ _ ?_); clear hK K) | ((first | refine sB ?_ | (with_reducible first | refine ops_cons (fun K hK => ?_) | refine W_reg [(0, [1]), (1, [2])] ?_) | with_reducible refine callV_snap ?_ | ((with_reducible refine call_go reqS req_ok ?_); refine ⟨alk, _, _, req_at x hm, ?_⟩) | with_reducible refine And.intro (fun h => ?_) (fun h => ?_) | with_reducible refine And.intro (by omega) ?_); (try simp only [go_sem, seval, reduceCtorEq, Tryz.ntmps110, Tryz.results110, refOS])) | fail)
  all_goals (try simp only [Bool.and_true, Bool.and_false])
  all_goals first | exact dec_t (by omega) | exact dec_f (by omega)
end Go.Proofs.YtpocnjliigjidaaGreat
namespace Go.Proofs.YtpocnjliigjidaaGreat
open Go.RowKit
set_option maxRecDepth 100000
set_option linter.unusedSimpArgs false
set_option linter.unusedVariables false
def fR (x : Oc) (c : UInt8) : Oc := if (c.toNat : Int) = 114 then { x with g := 0, o := 0 } else if (c.toNat : Int) = 112 then { x with g := 0 } else if (c.toNat : Int) = 119 then { x with w := 0 } else if (c.toNat : Int) = 118 then { x with v := 0 } else if (c.toNat : Int) = 116 then { x with t := 0 } else if (c.toNat : Int) = 111 then { x with o := 0 } else x
def rst (l : List UInt8) (x : Oc) : Oc := l.foldl fR { x with k := 0, p := 0 }
abbrev sY (l : List UInt8) : ByteArray := ⟨l.toArray⟩
theorem sB_get {l : List UInt8} {i : Nat} (h : i < l.length) : (sY l)[i]? = some l[i] := by
  have h' : i < (sY l).size := h
  rw [getElem?_pos (sY l) i h']
  rfl
theorem dec_ascii {l : List UInt8} {i : Nat} (h : i < l.length) (ha : l[i].toNat < 128) : Utf8.decode (sY l) i = (l[i].toNat, 1) := by
  have h' : i < (sY l).size := h
  have e : ((sY l).get! i) = l[i] := by
    unfold ByteArray.get!
    simp [h]
  unfold Utf8.decode
  simp only [Nat.add_zero, e]
  rw [if_pos (by omega)]
theorem rst_succ {l : List UInt8} {i : Nat} (h : i < l.length) (x : Oc) : rst (l.take (i + 1)) x = fR (rst (l.take i) x) l[i] := by
  unfold rst; rw [take_get l i h, List.foldl_append]; rfl
def rstS : Spec := { rel := fun args ins res outs => ∃ (l : List UInt8) (x : Oc), (∀ c ∈ l, c.toNat < 128) ∧ args = [ocA x, .d (.str (sY l))] ∧ ins = [] ∧ res = ocA (rst l x) ∧ outs = [] }
theorem rst_at (l : List UInt8) (x : Oc) (h : ∀ c ∈ l, c.toNat < 128) : rstS.rel [ocA x, .d (.str (sY l))] [] (ocA (rst l x)) [] := ⟨l, x, h, rfl, rfl, rfl, rfl⟩
theorem rst_ok : Ok Tryz.prog 111 rstS := by
  refine fn_ok rstS Tryz.func111 rfl rfl ?_
  rintro args ins res outs ⟨l, x, ha, rfl, rfl, rfl, rfl⟩
  refine ⟨by simp [Tryz.ntmps111], fun w0 V Bo mu0 => ?_⟩
  have us := Tryz.underlying9
  repeat' (first | refine sA ?_ | with_reducible refine W_tf rfl (fun h => ?_) (fun h => ?_) | ((with_reducible first | refine hK _ ?_ | refine hK _ _ ?_); clear hK K) | ((refine ext_srange rfl ?_ us rfl ?_) <;> simp only [go_sem, seval, reduceCtorEq]) | ((first | refine sB ?_ | (with_reducible first | refine ops_cons (fun K hK => ?_) | refine W_reg lv111MdC ?_) | with_reducible refine And.intro (fun h => ?_) (fun h => ?_) | with_reducible refine And.intro (by omega) ?_); (try simp only [go_sem, seval, reduceCtorEq, lv111MdC, Tryz.ntmps111, Tryz.results111, rstS])) | fail)
  refine W_loop (fun i : Nat => ⟨[(2, .ptr 0 0), (4, .ptr 1 0), (10, .ptr 2 0)], [some (.box 105 [iv (rst (l.take i) x).k, iv (rst (l.take i) x).p, iv (rst (l.take i) x).o, iv (rst (l.take i) x).g, iv (rst (l.take i) x).w, wv ((rst (l.take i) x).t : Int), wv ((rst (l.take i) x).v : Int)]), some (.box 105 [iv 0, iv 0, iv 0, iv 0, iv 0, wv 0, wv 0]), some (.siter (sY l) i)]⟩) (fun i => i ≤ l.length) (fun i => l.length - i) 0 (Nat.zero_le _) [0, 1, 2] ?_ ?_
  · simp [go_sem, rst]
  intro i hi
  by_cases hlt : i < l.length
  · have hs : i < (sY l).size := hlt
    have hd := dec_ascii hlt (ha _ (List.getElem_mem hlt))
    have hr := rst_succ hlt x
    generalize l[i] = c at *
    generalize rst (l.take i) x = y at *
    generalize hY : rst (l.take (i + 1)) x = z at *
    subst hr
    repeat' (first | refine sA ?_ | with_reducible refine W_tf rfl (fun h => ?_) (fun h => ?_) | ((with_reducible first | refine hK _ ?_ | refine hK _ _ ?_); clear hK K) | ((refine ext_snext rfl ?_ rfl rfl hs hd ?_) <;> simp only [go_sem, seval, reduceCtorEq]) | ((first | refine sB ?_ | (with_reducible first | refine ops_cons (fun K hK => ?_) | refine W_reg lv111MdC ?_) | with_reducible refine And.intro (fun h => ?_) (fun h => ?_) | with_reducible refine And.intro (by omega) ?_); (try simp only [go_sem, seval, reduceCtorEq, lv111MdC, Tryz.ntmps111, Tryz.results111, rstS])) | fail)
    all_goals
      refine ⟨i + 1, [0, 1, 2], by omega, by omega, ?_⟩
      rw [hY]
      simp [go_sem, fR, *]
  · have hs : ¬ i < (sY l).size := hlt
    obtain rfl : i = l.length := by omega
    rw [List.take_length]
    generalize rst l x = y
    repeat' (first | refine sA ?_ | with_reducible refine W_tf rfl (fun h => ?_) (fun h => ?_) | ((with_reducible first | refine hK _ ?_ | refine hK _ _ ?_); clear hK K) | ((refine ext_sover rfl ?_ rfl rfl hs ?_) <;> simp only [go_sem, seval, reduceCtorEq]) | ((first | refine sB ?_ | (with_reducible first | refine ops_cons (fun K hK => ?_) | refine W_reg lv111MdC ?_) | with_reducible refine And.intro (fun h => ?_) (fun h => ?_) | with_reducible refine And.intro (by omega) ?_); (try simp only [go_sem, seval, reduceCtorEq, lv111MdC, Tryz.ntmps111, Tryz.results111, rstS])) | fail)
    all_goals trace_state
end Go.Proofs.YtpocnjliigjidaaGreat
namespace Go.Proofs.YtpocnjliigjidaaGreat
open Go.RowKit
set_option maxRecDepth 100000
set_option linter.unusedSimpArgs false
set_option linter.unusedVariables false
def lay (n : Nat) : List UInt8 := if n = 1 ∨ n = 2 then [114] else if n = 3 ∨ n = 4 then [112, 119, 118, 116] else if n = 5 then [111, 116] else if n = 8 then [112, 119] else if n = 11 then [118, 116] else if n = 7 then [] else [116]
def ffn (n : Nat) : Nat := if n = 1 ∨ n = 2 then 103 else if n = 3 ∨ n = 4 then 104 else if n = 5 then 105 else if n = 8 then 108 else if n = 11 then 110 else if n = 7 then 107 else if n = 10 then 109 else 106
def nmB (n : Nat) : List UInt8 := if n = 1 then [109, 97, 112, 112, 101, 100] else if n = 2 then [117, 110, 109, 97, 112, 112, 101, 100] else if n = 3 then [114, 101, 97, 100] else if n = 4 then [119, 114, 105, 116, 116, 101, 110] else if n = 5 then [102, 111, 114, 107, 101, 100] else if n = 6 then [115, 112, 97, 119, 110, 101, 100] else if n = 7 then [101, 120, 105, 116, 101, 100] else if n = 8 then [115, 101, 103, 118] else if n = 9 then [113, 117, 101, 117, 101, 100] else if n = 10 then [107, 105, 108, 108, 101, 100] else [114, 101, 102, 117, 115, 101, 100]
abbrev frm (n : Nat) : List AV := [.d (.str (sY (nmB n))), .d (.str (sY (lay n))), .fn (ffn n) []]
def frmA : List AV := [.d (.str (sY [])), .d (.str (sY [])), .any] ++ frm 1 ++ frm 2 ++ frm 3 ++ frm 4 ++ frm 5 ++ frm 6 ++ frm 7 ++ frm 8 ++ frm 9 ++ frm 10 ++ frm 11
theorem frmA_len : frmA.length = 36 := rfl
theorem frmA_take : frmA.take 36 = frmA := List.take_of_length_le (by rw [frmA_len]; decide)
theorem frmA_ren (ρ : Nat → Nat) : renL ρ frmA = frmA := rfl
theorem frmA_into : intoL [] frmA = some frmA := rfl
def frmS : Spec := { rel := fun args ins res outs => args = [] ∧ ins = [] ∧ res = .agg frmA ∧ outs = [] }
theorem frm_at : frmS.rel [] [] (.agg frmA) [] := ⟨rfl, rfl, rfl, rfl⟩
theorem frm_ok : Ok Tryz.prog 60 frmS := by
  refine fn_ok frmS Tryz.func60 rfl rfl ?_
  rintro args ins res outs ⟨rfl, rfl, rfl, rfl⟩
  refine ⟨by simp [Tryz.ntmps60], fun w0 V Bo mu0 => ?_⟩
  have h1 : renL (rho [] 1) frmA = frmA := rfl
  have h2 : flatL frmA := by simp [frmA, flatL, flatA, flatD]
  repeat' (first | refine sA ?_ | ((with_reducible first | refine hK _ ?_ | refine hK _ _ ?_); clear hK K) | ((first | refine sB ?_ | (with_reducible first | refine ops_cons (fun K hK => ?_) | refine W_reg [(0, [0]), (1, [0])] ?_) | with_reducible refine And.intro (fun h => ?_) (fun h => ?_) | with_reducible refine And.intro (by omega) ?_); (try simp only [go_sem, seval, reduceCtorEq, h1, Tryz.ntmps60, Tryz.results60, frmS])) | fail)
  exact ⟨rfl, h2⟩
theorem eqt7 {t : TypeId} (hS : Tryz.prog.underlying t = some (.struct (Tryz.prog.fieldsOf t))) (hp : Tryz.prog.stoodInHeld t = false) (hg : Tryz.prog.eqGuardType Tryz.prog.depth t = false) (hf : Tryz.prog.underlying t = Tryz.prog.underlying 51) : EqT Tryz.prog t [some .i64, some .i64, some .i64, some .i64, some .i64, some .u64, some .u64] := by
  refine ⟨hg, fun xs ys w hx hy => ?_⟩
  obtain ⟨a, _, rfl, h1⟩ := kinds_int hx
  obtain ⟨b, _, rfl, h2⟩ := kinds_int h1
  obtain ⟨c, _, rfl, h3⟩ := kinds_int h2
  obtain ⟨d, _, rfl, h4⟩ := kinds_int h3
  obtain ⟨e, _, rfl, h5⟩ := kinds_int h4
  obtain ⟨f, _, rfl, h6⟩ := kinds_int h5
  obtain ⟨g, _, rfl, h7⟩ := kinds_int h6
  obtain rfl := kinds_nil h7
  obtain ⟨a', _, rfl, g1⟩ := kinds_int hy
  obtain ⟨b', _, rfl, g2⟩ := kinds_int g1
  obtain ⟨c', _, rfl, g3⟩ := kinds_int g2
  obtain ⟨d', _, rfl, g4⟩ := kinds_int g3
  obtain ⟨e', _, rfl, g5⟩ := kinds_int g4
  obtain ⟨f', _, rfl, g6⟩ := kinds_int g5
  obtain ⟨g', _, rfl, g7⟩ := kinds_int g6
  obtain rfl := kinds_nil g7
  clear h1 h2 h3 h4 h5 h6 h7 g1 g2 g3 g4 g5 g6 g7 hx hy
  have u3 := Tryz.underlying3
  have u5 := Tryz.underlying24
  have a3 := Tryz.isAgg3
  have a5 := Tryz.isAgg24
  rw [show (10000 : Nat) = 9999 + 1 from rfl, run_equalIn_agg w 9999 t _ _ hS hp]
  simp only [Program.fieldsOf, hf, Tryz.underlying51, valL]
  have e3 : ∀ (x x' : Int), (Op.equalIn 9999 3 (.int .i64 x) (.int .i64 x')).run Tryz.prog w = .ok (x == x') w := fun x x' => run_equalIn_int w 9998 3 .i64 .i64 x x' u3
  have e4 : ∀ (x x' : Int), (Op.equalIn 9999 24 (.int .u64 x) (.int .u64 x')).run Tryz.prog w = .ok (x == x') w := fun x x' => run_equalIn_int w 9998 24 .u64 .u64 x x' u5
  generalize (9999 : Nat) = m at e3 e4 ⊢
  go_simp
  by_cases h1 : a = a'
  case neg => simp [eqL, e3, e4, h1]
  by_cases h2 : b = b'
  case neg => simp [eqL, e3, e4, h1, h2]
  by_cases h3 : c = c'
  case neg => simp [eqL, e3, e4, h1, h2, h3]
  by_cases h4 : d = d'
  case neg => simp [eqL, e3, e4, h1, h2, h3, h4]
  by_cases h5 : e = e'
  case neg => simp [eqL, e3, e4, h1, h2, h3, h4, h5]
  by_cases h6 : f = f'
  case neg => simp [eqL, e3, e4, h1, h2, h3, h4, h5, h6]
  by_cases h7 : g = g' <;> simp [eqL, e3, e4, h1, h2, h3, h4, h5, h6, h7]
theorem eqt_item : EqT Tryz.prog 105 [some .i64, some .i64, some .i64, some .i64, some .i64, some .u64, some .u64] := eqt7 (by kernel_rfl) (by kernel_rfl) (by kernel_rfl) (by kernel_rfl)
theorem eqt_oc : EqT Tryz.prog 51 [some .i64, some .i64, some .i64, some .i64, some .i64, some .u64, some .u64] := eqt7 (by kernel_rfl) (by kernel_rfl) (by kernel_rfl) (by kernel_rfl)
def fitB (n : Nat) : Oc → Bool := if n = 1 ∨ n = 2 then extB else if n = 3 ∨ n = 4 then accB else if n = 5 then frqB else if n = 8 then plcB else if n = 11 then refB else if n = 7 then barB else if n = 10 then mayB else reqB
theorem fit_ok' (n : Nat) : Ok Tryz.prog (ffn n) (OcS (fitB n)) := by
  unfold ffn fitB
  repeat' split
  all_goals first | exact extO_ok | exact acc_ok | exact frq_ok | exact plc_ok | exact refO_ok | exact bar_ok | exact may_ok | exact req_ok
theorem fit_eq {x : Oc} {n : Nat} (h : x.k = (n : Int)) (h1 : 1 ≤ n) (h2 : n ≤ 11) : fitO x = fitB n x := by
  unfold fitO fitB
  rw [h]
  rcases (show n = 1 ∨ n = 2 ∨ n = 3 ∨ n = 4 ∨ n = 5 ∨ n = 6 ∨ n = 7 ∨ n = 8 ∨ n = 9 ∨ n = 10 ∨ n = 11 by omega) with rfl | rfl | rfl | rfl | rfl | rfl | rfl | rfl | rfl | rfl | rfl
  all_goals rw [Bool.eq_iff_iff]
  all_goals simp [extB, accB, plcB, mayB, frqB, reqB, refB, barB, and_assoc]
def zerO (y : Oc) : Prop := y.k = 0 ∧ y.p = 0 ∧ y.o = 0 ∧ y.g = 0 ∧ y.w = 0 ∧ (y.t : Int) = 0 ∧ (y.v : Int) = 0
theorem unu_eq {x : Oc} {n : Nat} (h : x.k = (n : Int)) (h1 : 1 ≤ n) (h2 : n ≤ 11) : unuO x = true ↔ zerO (rst (lay n) x) := by
  unfold unuO zerO
  rw [h]
  rcases (show n = 1 ∨ n = 2 ∨ n = 3 ∨ n = 4 ∨ n = 5 ∨ n = 6 ∨ n = 7 ∨ n = 8 ∨ n = 9 ∨ n = 10 ∨ n = 11 by omega) with rfl | rfl | rfl | rfl | rfl | rfl | rfl | rfl | rfl | rfl | rfl
  all_goals simp [lay, rst, fR, and_assoc, and_left_comm, and_comm]
theorem lay_ascii (n : Nat) : ∀ c ∈ lay n, c.toNat < 128 := by
  unfold lay
  repeat' split
  all_goals decide
theorem frm_get {n : Nat} (h1 : 1 ≤ n) (h2 : n ≤ 11) : (frmA.drop (n * 3)).take 3 = frm n := by
  rcases (show n = 1 ∨ n = 2 ∨ n = 3 ∨ n = 4 ∨ n = 5 ∨ n = 6 ∨ n = 7 ∨ n = 8 ∨ n = 9 ∨ n = 10 ∨ n = 11 by omega) with rfl | rfl | rfl | rfl | rfl | rfl | rfl | rfl | rfl | rfl | rfl
  all_goals rfl
theorem ocE_of {x : Oc} (h : ¬ (x.k < 1 ∨ 11 < x.k)) : (x.p < 1 → ocE x = 2) ∧ (8 < x.p → ocE x = 2) ∧ (fitO x = false → ocE x = 2) ∧ (¬ x.p < 1 → ¬ 8 < x.p → fitO x = true → unuO x = false → ocE x = 3) ∧ (¬ x.p < 1 → ¬ 8 < x.p → fitO x = true → unuO x = true → ocE x = 0) := by
  unfold ocE
  rw [if_neg h]
  refine ⟨fun h => if_pos (fun hh => by omega), fun h => if_pos (fun hh => by omega), fun h => if_pos (fun hh => by rw [h] at hh; exact Bool.noConfusion hh.2.2), fun a b c d => ?_, fun a b c d => ?_⟩
  · rw [if_neg (fun hh => hh ⟨by omega, by omega, c⟩), if_pos d]
  · rw [if_neg (fun hh => hh ⟨by omega, by omega, c⟩), if_neg (by rw [d]; decide)]
def ichS : Spec := { rel := fun args ins res outs => ∃ x : Oc, args = [ocA x, .agg frmA] ∧ ins = [] ∧ res = iv (ocE x) ∧ outs = [] }
theorem ich_at (x : Oc) : ichS.rel [ocA x, .agg frmA] [] (iv (ocE x)) [] := ⟨x, rfl, rfl, rfl, rfl⟩
set_option maxHeartbeats 2000000 in
theorem ich_ok : Ok Tryz.prog 61 ichS := by
  refine fn_ok ichS Tryz.func61 rfl rfl ?_
  rintro args ins res outs ⟨x, rfl, rfl, rfl, rfl⟩
  refine ⟨by simp [Tryz.ntmps61], fun w0 V Bo mu0 => ?_⟩
  by_cases k1 : x.k < 1
  · rw [show ocE x = 16 from if_pos (.inl k1)]
    repeat' (first | refine sA ?_ | with_reducible refine W_tf rfl (fun h => ?_) (fun h => ?_) | ((with_reducible first | refine hK _ ?_ | refine hK _ _ ?_); clear hK K) | ((first | refine sB ?_ | (with_reducible first | refine ops_cons (fun K hK => ?_) | refine W_reg lv61MdC ?_) | with_reducible refine callV_snap ?_ | with_reducible refine And.intro (fun h => ?_) (fun h => ?_) | with_reducible refine And.intro (by omega) ?_); (try simp only [go_sem, seval, reduceCtorEq, k1, lv61MdC, Tryz.ntmps61, Tryz.results61, ichS])) | fail)
  by_cases k2 : 11 < x.k
  · rw [show ocE x = 16 from if_pos (.inr k2)]
    repeat' (first | refine sA ?_ | with_reducible refine W_tf rfl (fun h => ?_) (fun h => ?_) | ((with_reducible first | refine hK _ ?_ | refine hK _ _ ?_); clear hK K) | ((first | refine sB ?_ | (with_reducible first | refine ops_cons (fun K hK => ?_) | refine W_reg lv61MdC ?_) | with_reducible refine callV_snap ?_ | with_reducible refine And.intro (fun h => ?_) (fun h => ?_) | with_reducible refine And.intro (by omega) ?_); (try simp only [go_sem, seval, reduceCtorEq, k1, k2, lv61MdC, Tryz.ntmps61, Tryz.results61, ichS])) | fail)
  obtain ⟨n, hn⟩ : ∃ n : Nat, x.k = (n : Int) := ⟨x.k.toNat, by omega⟩
  have hf := fit_eq hn (by omega) (by omega)
  have hu := unu_eq hn (by omega) (by omega)
  have hg := frm_get (n := n) (by omega) (by omega)
  obtain ⟨e1, e2, e3, e4, e5⟩ := ocE_of (x := x) (by omega)
  rw [hf] at e3 e4 e5
  have k1 : ¬ (n : Int) < 1 := by omega
  have k2 : ¬ 11 < (n : Int) := by omega
  have hl : 3 ≤ (frmA.drop (n * 3)).length := by rw [List.length_drop, frmA_len]; omega
  have hX' : ocA x = .agg [iv (n : Int), iv x.p, iv x.o, iv x.g, iv x.w, wv (x.t : Int), wv (x.v : Int)] := by unfold ocA; rw [hn]
  by_cases p1 : x.p < 1
  · rw [e1 p1]
    repeat' (first | refine sA ?_ | with_reducible refine W_tf rfl (fun h => ?_) (fun h => ?_) | ((with_reducible first | refine hK _ ?_ | refine hK _ _ ?_); clear hK K) | ((first | refine sB ?_ | (with_reducible first | refine ops_cons (fun K hK => ?_) | refine W_reg lv61MdC ?_) | with_reducible refine callV_snap ?_ | with_reducible refine And.intro (fun h => ?_) (fun h => ?_) | with_reducible refine And.intro (by omega) ?_); (try simp only [go_sem, seval, reduceCtorEq, k1, k2, hn, hl, frmA_len, hg, p1, lv61MdC, Tryz.ntmps61, Tryz.results61, ichS])) | fail)
  by_cases p2 : 8 < x.p
  · rw [e2 p2]
    repeat' (first | refine sA ?_ | with_reducible refine W_tf rfl (fun h => ?_) (fun h => ?_) | ((with_reducible first | refine hK _ ?_ | refine hK _ _ ?_); clear hK K) | ((first | refine sB ?_ | (with_reducible first | refine ops_cons (fun K hK => ?_) | refine W_reg lv61MdC ?_) | with_reducible refine callV_snap ?_ | with_reducible refine And.intro (fun h => ?_) (fun h => ?_) | with_reducible refine And.intro (by omega) ?_); (try simp only [go_sem, seval, reduceCtorEq, k1, k2, hn, hl, frmA_len, hg, p1, p2, lv61MdC, Tryz.ntmps61, Tryz.results61, ichS])) | fail)
  obtain ⟨fitS, hfs⟩ : ∃ s, s = OcS (fitB n) := ⟨_, rfl⟩
  have fit_ok : Ok Tryz.prog (ffn n) fitS := hfs ▸ fit_ok' n
  cases hv : fitB n x with
  | false =>
    have fit_at : fitS.rel [.agg [iv (n : Int), iv x.p, iv x.o, iv x.g, iv x.w, wv (x.t : Int), wv (x.v : Int)]] [] (bv false) [] := by rw [hfs, ← hX']; exact ocx_at x hv
    rw [e3 hv]
    repeat' (first | refine sA ?_ | with_reducible refine W_tf rfl (fun h => ?_) (fun h => ?_) | ((with_reducible first | refine hK _ ?_ | refine hK _ _ ?_); clear hK K) | ((first | refine sB ?_ | (with_reducible first | refine ops_cons (fun K hK => ?_) | refine W_reg lv61MdC ?_) | with_reducible refine callV_snap ?_ | ((with_reducible refine call_go fitS fit_ok ?_); refine ⟨alk, _, _, fit_at , ?_⟩) | with_reducible refine And.intro (fun h => ?_) (fun h => ?_) | with_reducible refine And.intro (by omega) ?_); (try simp only [go_sem, seval, reduceCtorEq, k1, k2, hn, hl, frmA_len, hg, p1, p2, lv61MdC, Tryz.ntmps61, Tryz.results61, ichS])) | fail)
  | true =>
    have fit_at : fitS.rel [.agg [iv (n : Int), iv x.p, iv x.o, iv x.g, iv x.w, wv (x.t : Int), wv (x.v : Int)]] [] (bv true) [] := by rw [hfs, ← hX']; exact ocx_at x hv
    have R0 := rst_at (lay n) x (lay_ascii n)
    rw [hX'] at R0
    generalize rst (lay n) x = y at R0 hu
    have rst_at : rstS.rel [.agg [iv (n : Int), iv x.p, iv x.o, iv x.g, iv x.w, wv (x.t : Int), wv (x.v : Int)], .d (.str (sY (lay n)))] [] (ocA y) [] := R0
    cases hz : unuO x with
    | true =>
      rw [e5 p1 p2 hv hz]
      obtain ⟨z1, z2, z3, z4, z5, z6, z7⟩ := hu.1 hz
      repeat' (first | refine sA ?_ | with_reducible refine W_tf rfl (fun h => ?_) (fun h => ?_) | ((with_reducible first | refine hK _ ?_ | refine hK _ _ ?_); clear hK K) | ((with_reducible refine And.intro eqt_item ?_); (try simp only [go_sem, seval, reduceCtorEq])) | ((first | refine sB ?_ | (with_reducible first | refine ops_cons (fun K hK => ?_) | refine W_reg lv61MdC ?_) | with_reducible refine callV_snap ?_ | ((with_reducible refine call_go fitS fit_ok ?_); refine ⟨alk, _, _, fit_at , ?_⟩) | ((with_reducible refine call_go rstS rst_ok ?_); refine ⟨alk, _, _, rst_at , ?_⟩) | with_reducible refine And.intro (fun h => ?_) (fun h => ?_) | with_reducible refine And.intro (by omega) ?_); (try simp only [go_sem, seval, reduceCtorEq, k1, k2, hn, hl, frmA_len, hg, p1, p2, z1, z2, z3, z4, z5, z6, z7, lv61MdC, Tryz.ntmps61, Tryz.results61, ichS])) | fail)
    | false =>
      have hz' : ¬ zerO y := fun h => by rw [hu.2 h] at hz; cases hz
      unfold zerO at hz'
      rw [e4 p1 p2 hv hz]
      repeat' (first | refine sA ?_ | with_reducible refine W_tf rfl (fun h => ?_) (fun h => ?_) | ((with_reducible first | refine hK _ ?_ | refine hK _ _ ?_); clear hK K) | ((with_reducible refine And.intro eqt_item ?_); (try simp only [go_sem, seval, reduceCtorEq])) | ((first | refine sB ?_ | (with_reducible first | refine ops_cons (fun K hK => ?_) | refine W_reg lv61MdC ?_) | with_reducible refine callV_snap ?_ | ((with_reducible refine call_go fitS fit_ok ?_); refine ⟨alk, _, _, fit_at , ?_⟩) | ((with_reducible refine call_go rstS rst_ok ?_); refine ⟨alk, _, _, rst_at , ?_⟩) | with_reducible refine And.intro (fun h => ?_) (fun h => ?_) | with_reducible refine And.intro (by omega) ?_); (try simp only [go_sem, seval, reduceCtorEq, k1, k2, hn, hl, frmA_len, hg, p1, p2, lv61MdC, Tryz.ntmps61, Tryz.results61, ichS])) | fail)
      all_goals exact absurd (by assumption) hz'
def TrkS : Spec := { rel := fun args ins res outs => ∃ l : List Oc, l.length ≤ 1000000 ∧ args = [ocL l] ∧ ins = [] ∧ res = .tup [iv (trE l).1, iv ((trE l).2 : Int)] ∧ outs = [] }
theorem Trk_at (l : List Oc) (h : l.length ≤ 1000000) {e : Int} {i : Nat} (he : trE l = (e, i)) : TrkS.rel [ocL l] [] (.tup [iv e, iv (i : Int)]) [] := ⟨l, h, rfl, rfl, by rw [he], rfl⟩
theorem Trk_ok : Ok Tryz.prog 42 TrkS := by
  refine fn_ok TrkS Tryz.func42 rfl rfl ?_
  rintro args ins res outs ⟨l, hl, rfl, rfl, rfl, rfl⟩
  refine ⟨by simp [Tryz.ntmps42], fun w0 V Bo mu0 => ?_⟩
  unfold trE
  by_cases h5 : 5000 < (l.length : Int)
  · rw [if_pos (by omega)]
    repeat' (first | refine sA ?_ | with_reducible refine W_tf rfl (fun h => ?_) (fun h => ?_) | ((with_reducible first | refine hK _ ?_ | refine hK _ _ ?_); clear hK K) | ((first | refine sB ?_ | (with_reducible first | refine ops_cons (fun K hK => ?_) | refine W_reg lv42MdC ?_) | with_reducible refine callV_snap ?_ | with_reducible refine And.intro (fun h => ?_) (fun h => ?_) | with_reducible refine And.intro (by omega) ?_); (try simp only [go_sem, seval, reduceCtorEq, h5, lv42MdC, Tryz.ntmps42, Tryz.results42, TrkS])) | fail)
  rw [if_neg (by omega)]
  repeat' (first | refine sA ?_ | with_reducible refine W_tf rfl (fun h => ?_) (fun h => ?_) | ((with_reducible first | refine hK _ ?_ | refine hK _ _ ?_); clear hK K) | ((first | refine sB ?_ | (with_reducible first | refine ops_cons (fun K hK => ?_) | refine W_reg lv42MdC ?_) | with_reducible refine callV_snap ?_ | ((with_reducible refine call_go frmS frm_ok ?_); refine ⟨alk, _, _, frm_at , ?_⟩) | with_reducible refine And.intro (fun h => ?_) (fun h => ?_) | with_reducible refine And.intro (by omega) ?_); (try simp only [go_sem, seval, reduceCtorEq, h5, frmA_len, frmA_ren, frmA_take, lv42MdC, Tryz.ntmps42, Tryz.results42, TrkS])) | fail)
  refine W_loop (fun i : Nat => ⟨[(4, .ptr 0 0), (12, ocL l), (13, iv (l.length : Int)), (14, iv (i : Int))], [some (.box 103 frmA)]⟩) (fun i => i ≤ l.length ∧ trF i (l.drop i) = trF 0 l) (fun i => l.length - i) 0 ⟨Nat.zero_le _, rfl⟩ [0] ?_ ?_
  · simp [go_sem, frmA_ren]
  rintro i ⟨hi, hT⟩
  by_cases hlt : i < l.length
  · have hki : (i : Int) < l.length := by omega
    rw [trF_at hlt] at hT
    obtain ⟨x, hx⟩ : ∃ x, l[i] = x := ⟨_, rfl⟩
    have e0 : encOc l[i] = [.int .i64 x.k, .int .i64 x.p, .int .i64 x.o, .int .i64 x.g, .int .i64 x.w, .int .u64 (x.t : Int), .int .u64 (x.v : Int)] := by rw [hx]; rfl
    rw [hx] at hT
    have C0 := ich_at x
    by_cases he : ocE x = 0
    · rw [if_pos he] at hT
      rw [he] at C0
      have ich_at : ichS.rel [ocA x, .agg frmA] [] (iv 0) [] := C0
      repeat' (first | refine sA ?_ | with_reducible refine W_tf rfl (fun h => ?_) (fun h => ?_) | ((with_reducible first | refine hK _ ?_ | refine hK _ _ ?_); clear hK K) | ((first | refine sB ?_ | (with_reducible first | refine ops_cons (fun K hK => ?_) | refine W_reg lv42MdC ?_) | ((with_reducible refine callV_lend ichS [] ich_ok rfl ?_); simp only [go_sem, seval, reduceCtorEq, hki, e0, frmA_len, frmA_ren, frmA_take, frmA_into, lv42MdC]; refine ⟨alk, rfl, _, _, ich_at , ?_⟩) | with_reducible refine callV_snap ?_ | with_reducible refine And.intro (fun h => ?_) (fun h => ?_) | with_reducible refine And.intro (by omega) ?_); (try simp only [go_sem, seval, reduceCtorEq, hki, e0, frmA_len, frmA_ren, frmA_take, frmA_into, lv42MdC, ichS, Tryz.ntmps42, Tryz.results42, TrkS])) | fail)
      refine ⟨i + 1, [0], ⟨by omega, hT⟩, by omega, ?_⟩
      simp [go_sem, frmA_ren]
    · rw [if_neg he] at hT
      rw [← hT]
      generalize ocE x = e at *
      have ich_at : ichS.rel [ocA x, .agg frmA] [] (iv e) [] := C0
      repeat' (first | refine sA ?_ | with_reducible refine W_tf rfl (fun h => ?_) (fun h => ?_) | ((with_reducible first | refine hK _ ?_ | refine hK _ _ ?_); clear hK K) | ((first | refine sB ?_ | (with_reducible first | refine ops_cons (fun K hK => ?_) | refine W_reg lv42MdC ?_) | ((with_reducible refine callV_lend ichS [] ich_ok rfl ?_); simp only [go_sem, seval, reduceCtorEq, hki, e0, he, frmA_len, frmA_ren, frmA_take, frmA_into, lv42MdC]; refine ⟨alk, rfl, _, _, ich_at , ?_⟩) | with_reducible refine callV_snap ?_ | with_reducible refine And.intro (fun h => ?_) (fun h => ?_) | with_reducible refine And.intro (by omega) ?_); (try simp only [go_sem, seval, reduceCtorEq, hki, e0, he, frmA_len, frmA_ren, frmA_take, frmA_into, lv42MdC, ichS, Tryz.ntmps42, Tryz.results42, TrkS])) | fail)
  · have hki : ¬ (i : Int) < l.length := by omega
    obtain rfl : i = l.length := by omega
    rw [List.drop_length, trF] at hT
    rw [← hT]
    repeat' (first | refine sA ?_ | with_reducible refine W_tf rfl (fun h => ?_) (fun h => ?_) | ((with_reducible first | refine hK _ ?_ | refine hK _ _ ?_); clear hK K) | ((first | refine sB ?_ | (with_reducible first | refine ops_cons (fun K hK => ?_) | refine W_reg lv42MdC ?_) | with_reducible refine callV_snap ?_ | with_reducible refine And.intro (fun h => ?_) (fun h => ?_) | with_reducible refine And.intro (by omega) ?_); (try simp only [go_sem, seval, reduceCtorEq, hki, lv42MdC, Tryz.ntmps42, Tryz.results42, TrkS])) | fail)
end Go.Proofs.YtpocnjliigjidaaGreat
