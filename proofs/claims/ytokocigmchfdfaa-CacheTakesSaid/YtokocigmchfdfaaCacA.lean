/- Package slab, as the cache uses it, by the engine. -/
import Derived.Test.YtokocigmchfdfaaTL
import Derived.Test.YtokocigmchfdfaaEngQ
import Derived.Test.YtokocigmchfdfaaShelfBits
import Derived.Test.YtokocigmchfdfaaSlabP
namespace Go.Proofs.Ytokocigmchfdfaa
open Go.RowKit
set_option maxRecDepth 100000
set_option linter.unusedSimpArgs false
set_option linter.unusedVariables false

abbrev iv (n : Int) : AV := .d (.int .i64 n)
abbrev bv (b : Bool) : AV := .d (.bool b)
abbrev uv (u : Int) : AV := .d (.int .u8 u)
abbrev sv (f u : Int) : AV := .agg [.d (.int .i64 f), .d (.int .u8 u)]
def encDI (n : Int) : List D := [.int .i64 n]
def encDS (s : Int × Int) : List D := [.int .i64 s.1, .int .u8 s.2]
abbrev dS (l : List (Int × Int)) : AV := .d (.sl (l.map encDS))
abbrev dI (l : List Int) : AV := .d (.sl (l.map encDI))
theorem encS_sc : ∀ x : Int × Int, ∀ d ∈ encDS x, scalD d = true := by
  intro x d hd
  simp only [encDS, List.mem_cons, List.not_mem_nil, or_false] at hd
  rcases hd with rfl | rfl <;> rfl
theorem encI_sc : ∀ x : Int, ∀ d ∈ encDI x, scalD d = true := by
  intro x d hd
  simp only [encDI, List.mem_singleton] at hd
  subst hd; rfl
theorem rowsS (l : List (Int × Int)) : ∀ r ∈ l.map encDS, r.length = 2 := by
  intro r hr
  obtain ⟨x, _, rfl⟩ := List.mem_map.1 hr
  rfl
theorem rowsI (l : List Int) : ∀ r ∈ l.map encDI, r.length = 1 := by
  intro r hr
  obtain ⟨x, _, rfl⟩ := List.mem_map.1 hr
  rfl
theorem flatS {l : List (Int × Int)} : ∀ r ∈ l.map encDS, ∀ x ∈ r, flatD x := by
  intro r hr x hx
  obtain ⟨y, _, rfl⟩ := List.mem_map.1 hr
  simp only [encDS, List.mem_cons, List.not_mem_nil, or_false] at hx
  rcases hx with rfl | rfl <;> trivial
theorem flatI {l : List Int} : ∀ r ∈ l.map encDI, ∀ x ∈ r, flatD x := by
  intro r hr x hx
  obtain ⟨y, _, rfl⟩ := List.mem_map.1 hr
  simp only [encDI, List.mem_singleton] at hx
  subst hx; trivial

theorem eqt_slab : EqT Try.prog 38 [some .i64, some .u8] := by
  refine ⟨by kernel_rfl, fun xs ys w hx hy => ?_⟩
  obtain ⟨a, _, rfl, h1⟩ := kinds_int hx
  obtain ⟨b, _, rfl, h2⟩ := kinds_int h1
  obtain rfl := kinds_nil h2
  obtain ⟨a', _, rfl, h3⟩ := kinds_int hy
  obtain ⟨b', _, rfl, h4⟩ := kinds_int h3
  obtain rfl := kinds_nil h4
  clear h1 h2 h3 h4 hx hy
  have u3 := Try.underlying3
  have u5 := Try.underlying5
  have a3 := Try.isAgg3
  have a5 := Try.isAgg5
  have hS : Try.prog.underlying 38 = some (.struct (Try.prog.fieldsOf 38)) := by kernel_rfl
  have hp : Try.prog.stoodInHeld 38 = false := by kernel_rfl
  rw [show (10000 : Nat) = 9999 + 1 from rfl, run_equalIn_agg w 9999 38 _ _ hS hp]
  simp only [Program.fieldsOf, Try.underlying38, valL]
  go_simp
  by_cases h1 : a = a' <;> by_cases h2 : b = b' <;> simp [eqL, h1, h2]

/-- the bit length of the places -/
def ln (u : Int) : Int := Lib.bitLen u.toNat

def tz8S : Spec := { rel := fun args ins res outs => ∃ u : Int, 0 ≤ u ∧ u ≤ 255 ∧ args = [uv u] ∧ ins = [] ∧ res = iv (tz u) ∧ outs = [] }
theorem tz8_at (u : Int) (h0 : 0 ≤ u) (h1 : u ≤ 255) : tz8S.rel [uv u] [] (iv (tz u)) [] := ⟨u, h0, h1, rfl, rfl, rfl, rfl⟩
theorem tz8_ok : Ok Try.prog 54 tz8S := by
  refine ok_struct ⟨_, Try.func54, rfl, rfl⟩ ?_
  rintro args ins res outs ⟨u, h0, h1, rfl, rfl, rfl, rfl⟩
  exact ⟨rfl, rfl, rfl, rfl, fun w => (bits_TrailingZeros8 u w h0 h1).mono fun e w' ⟨h1, h2⟩ => ⟨h1, h2 ▸ Below.refl _ _⟩⟩
def oc8S : Spec := { rel := fun args ins res outs => ∃ u : Int, 0 ≤ u ∧ u ≤ 255 ∧ args = [uv u] ∧ ins = [] ∧ res = iv (oc u) ∧ outs = [] }
theorem oc8_at (u : Int) (h0 : 0 ≤ u) (h1 : u ≤ 255) : oc8S.rel [uv u] [] (iv (oc u)) [] := ⟨u, h0, h1, rfl, rfl, rfl, rfl⟩
theorem oc8_ok : Ok Try.prog 57 oc8S := by
  refine ok_struct ⟨_, Try.func57, rfl, rfl⟩ ?_
  rintro args ins res outs ⟨u, h0, h1, rfl, rfl, rfl, rfl⟩
  exact ⟨rfl, rfl, rfl, rfl, fun w => (bits_OnesCount8 u w h0 h1).mono fun e w' ⟨h1, h2⟩ => ⟨h1, h2 ▸ Below.refl _ _⟩⟩
def ln8S : Spec := { rel := fun args ins res outs => ∃ u : Int, 0 ≤ u ∧ u ≤ 255 ∧ args = [uv u] ∧ ins = [] ∧ res = iv (ln u) ∧ outs = [] }
theorem ln8_at (u : Int) (h0 : 0 ≤ u) (h1 : u ≤ 255) : ln8S.rel [uv u] [] (iv (ln u)) [] := ⟨u, h0, h1, rfl, rfl, rfl, rfl⟩
theorem ln8_ok : Ok Try.prog 53 ln8S := by
  refine ok_struct ⟨_, Try.func53, rfl, rfl⟩ ?_
  rintro args ins res outs ⟨u, h0, h1, rfl, rfl, rfl, rfl⟩
  exact ⟨rfl, rfl, rfl, rfl, fun w => (bits_Len8 u w h0 h1).mono fun e w' ⟨h1, h2⟩ => ⟨h1, h2 ▸ Below.refl _ _⟩⟩

def bitS : Spec := { rel := fun args ins res outs => ∃ p : Int, 0 ≤ p ∧ p ≤ 7 ∧ args = [iv p] ∧ ins = [] ∧ res = uv (2 ^ p.toNat) ∧ outs = [] }
theorem bit_at (p : Int) (h0 : 0 ≤ p) (h1 : p ≤ 7) : bitS.rel [iv p] [] (uv (2 ^ p.toNat)) [] := ⟨p, h0, h1, rfl, rfl, rfl, rfl⟩
theorem bit_ok : Ok Try.prog 61 bitS := by
  refine fn_ok bitS Try.func61 rfl rfl ?_
  rintro args ins res outs ⟨p, h0, h1, rfl, rfl, rfl, rfl⟩
  refine ⟨by simp [Try.ntmps61], fun w0 V Bo mu0 => ?_⟩
  have hp := pow8_bd p h0 h1
  repeat' (first
    | (with_reducible first | refine W_seq ?_ | refine W_condT rfl ?_ | refine W_condF rfl ?_ | refine W_tf rfl (fun h => ?_) (fun h => ?_) | refine W_block ?_ | refine W_scope ?_ | refine endQ_ret ?_ | refine endQ_normal ?_)
    | ((with_reducible first | refine hK _ ?_ | refine hK _ _ ?_); clear hK K)
    | ((first | (with_reducible first | refine ops_cons (fun K hK => ?_) | refine opsd_cons (fun K hK => ?_) | refine ops_nil ?_ | refine fit_i64 (by omega) ?_ | refine fit_u8 (by omega) ?_ | refine fit_u64 (by omega) ?_ | refine fit_u32 (by omega) ?_ | refine fit_any ?_ | refine quo_nn (by omega) ?_ | refine rem_nn (by omega) ?_ | refine quo_any ?_ | refine rem_any ?_ | refine sh_in (by simp only [IntKind.bits]; omega) ?_) | ((with_reducible refine opsd_nil ?_); refine And.intro (by kernel_rfl) ?_) | with_reducible refine callV_snap ?_ | (with_reducible first | refine slice_old ?_ | refine app_grow ?_ | refine idx_map (by omega) ?_ | refine W_reg [(0, [0]), (1, [2])] ?_ | refine W_drw [(0, [0]), (1, [2])] (by kernel_rfl) ?_ | refine W_label ?_ | refine W_skip ?_ | refine W_exit ?_ | refine W_ret ?_ | refine end_at0 ?_) | (with_reducible refine And.intro (fun h => ?_) (fun h => ?_)) | (with_reducible refine And.intro (by omega) ?_)); (try simp only [go_sem, Nat.reduceAdd, Nat.reduceSub, Nat.reduceMul, Nat.reduceDiv, Nat.reduceMod, Nat.reducePow, Nat.reduceLT, Nat.reduceEqDiff, Nat.reduceBEq, Nat.reduceLeDiff, reduceIte, reduceCtorEq, Int.reduceLT, Int.reduceLE, Int.reduceEq, Int.reduceNe, Int.reduceNeg, Int.reduceAdd, Int.reduceSub, Int.reduceMul, Int.reduceToNat, Int.reducePow, Int.reduceDiv, Int.reduceMod, Nat.reduceSucc, Int.one_mul, Try.ntmps61, Try.results61, bitS]))
    | fail)

def sst (u : Int) : Int := if u = 0 then 1 else if u = 255 then 3 else 2
def stS : Spec := { rel := fun args ins res outs => ∃ f u : Int, args = [sv f u] ∧ ins = [] ∧ res = iv (sst u) ∧ outs = [] }
theorem st_at (f u : Int) : stS.rel [sv f u] [] (iv (sst u)) [] := ⟨f, u, rfl, rfl, rfl, rfl⟩
theorem st_ok : Ok Try.prog 60 stS := by
  refine fn_ok stS Try.func60 rfl rfl ?_
  rintro args ins res outs ⟨f, u, rfl, rfl, rfl, rfl⟩
  refine ⟨by simp [Try.ntmps60], fun w0 V Bo mu0 => ?_⟩
  by_cases h0 : u = 0
  · subst h0
    have e : sst 0 = 1 := by decide
    repeat' (first
      | (with_reducible first | refine W_seq ?_ | refine W_condT rfl ?_ | refine W_condF rfl ?_ | refine W_tf rfl (fun h => ?_) (fun h => ?_) | refine W_block ?_ | refine W_scope ?_ | refine endQ_ret ?_ | refine endQ_normal ?_)
      | ((with_reducible first | refine hK _ ?_ | refine hK _ _ ?_); clear hK K)
      | ((first | (with_reducible first | refine ops_cons (fun K hK => ?_) | refine opsd_cons (fun K hK => ?_) | refine ops_nil ?_ | refine fit_i64 (by omega) ?_ | refine fit_u8 (by omega) ?_ | refine fit_u64 (by omega) ?_ | refine fit_u32 (by omega) ?_ | refine fit_any ?_ | refine quo_nn (by omega) ?_ | refine rem_nn (by omega) ?_ | refine quo_any ?_ | refine rem_any ?_ | refine sh_in (by simp only [IntKind.bits]; omega) ?_) | ((with_reducible refine opsd_nil ?_); refine And.intro (by kernel_rfl) ?_) | with_reducible refine callV_snap ?_ | (with_reducible first | refine slice_old ?_ | refine app_grow ?_ | refine idx_map (by omega) ?_ | refine W_reg [(0, [1]), (1, [4]), (2, [4, 5]), (3, [2]), (4, [7]), (5, [2]), (6, [2])] ?_ | refine W_drw [(0, [1]), (1, [4]), (2, [4, 5]), (3, [2]), (4, [7]), (5, [2]), (6, [2])] (by kernel_rfl) ?_ | refine W_label ?_ | refine W_skip ?_ | refine W_exit ?_ | refine W_ret ?_ | refine end_at0 ?_) | (with_reducible refine And.intro (fun h => ?_) (fun h => ?_)) | (with_reducible refine And.intro (by omega) ?_)); (try simp only [go_sem, Nat.reduceAdd, Nat.reduceSub, Nat.reduceMul, Nat.reduceDiv, Nat.reduceMod, Nat.reducePow, Nat.reduceLT, Nat.reduceEqDiff, Nat.reduceBEq, Nat.reduceLeDiff, reduceIte, reduceCtorEq, Int.reduceLT, Int.reduceLE, Int.reduceEq, Int.reduceNe, Int.reduceNeg, Int.reduceAdd, Int.reduceSub, Int.reduceMul, Int.reduceToNat, Int.reducePow, Int.reduceDiv, Int.reduceMod, Nat.reduceSucc, e, Try.ntmps60, Try.results60, stS]))
      | fail)
  · by_cases h1 : u = 255
    · subst h1
      have e : sst 255 = 3 := by decide
      repeat' (first
        | (with_reducible first | refine W_seq ?_ | refine W_condT rfl ?_ | refine W_condF rfl ?_ | refine W_tf rfl (fun h => ?_) (fun h => ?_) | refine W_block ?_ | refine W_scope ?_ | refine endQ_ret ?_ | refine endQ_normal ?_)
        | ((with_reducible first | refine hK _ ?_ | refine hK _ _ ?_); clear hK K)
        | ((first | (with_reducible first | refine ops_cons (fun K hK => ?_) | refine opsd_cons (fun K hK => ?_) | refine ops_nil ?_ | refine fit_i64 (by omega) ?_ | refine fit_u8 (by omega) ?_ | refine fit_u64 (by omega) ?_ | refine fit_u32 (by omega) ?_ | refine fit_any ?_ | refine quo_nn (by omega) ?_ | refine rem_nn (by omega) ?_ | refine quo_any ?_ | refine rem_any ?_ | refine sh_in (by simp only [IntKind.bits]; omega) ?_) | ((with_reducible refine opsd_nil ?_); refine And.intro (by kernel_rfl) ?_) | with_reducible refine callV_snap ?_ | (with_reducible first | refine slice_old ?_ | refine app_grow ?_ | refine idx_map (by omega) ?_ | refine W_reg [(0, [1]), (1, [4]), (2, [4, 5]), (3, [2]), (4, [7]), (5, [2]), (6, [2])] ?_ | refine W_drw [(0, [1]), (1, [4]), (2, [4, 5]), (3, [2]), (4, [7]), (5, [2]), (6, [2])] (by kernel_rfl) ?_ | refine W_label ?_ | refine W_skip ?_ | refine W_exit ?_ | refine W_ret ?_ | refine end_at0 ?_) | (with_reducible refine And.intro (fun h => ?_) (fun h => ?_)) | (with_reducible refine And.intro (by omega) ?_)); (try simp only [go_sem, Nat.reduceAdd, Nat.reduceSub, Nat.reduceMul, Nat.reduceDiv, Nat.reduceMod, Nat.reducePow, Nat.reduceLT, Nat.reduceEqDiff, Nat.reduceBEq, Nat.reduceLeDiff, reduceIte, reduceCtorEq, Int.reduceLT, Int.reduceLE, Int.reduceEq, Int.reduceNe, Int.reduceNeg, Int.reduceAdd, Int.reduceSub, Int.reduceMul, Int.reduceToNat, Int.reducePow, Int.reduceDiv, Int.reduceMod, Nat.reduceSucc, e, Try.ntmps60, Try.results60, stS]))
        | fail)
    · have e : sst u = 2 := by simp [sst, h0, h1]
      repeat' (first
        | (with_reducible first | refine W_seq ?_ | refine W_condT rfl ?_ | refine W_condF rfl ?_ | refine W_tf rfl (fun h => ?_) (fun h => ?_) | refine W_block ?_ | refine W_scope ?_ | refine endQ_ret ?_ | refine endQ_normal ?_)
        | ((with_reducible first | refine hK _ ?_ | refine hK _ _ ?_); clear hK K)
        | ((first | (with_reducible first | refine ops_cons (fun K hK => ?_) | refine opsd_cons (fun K hK => ?_) | refine ops_nil ?_ | refine fit_i64 (by omega) ?_ | refine fit_u8 (by omega) ?_ | refine fit_u64 (by omega) ?_ | refine fit_u32 (by omega) ?_ | refine fit_any ?_ | refine quo_nn (by omega) ?_ | refine rem_nn (by omega) ?_ | refine quo_any ?_ | refine rem_any ?_ | refine sh_in (by simp only [IntKind.bits]; omega) ?_) | ((with_reducible refine opsd_nil ?_); refine And.intro (by kernel_rfl) ?_) | with_reducible refine callV_snap ?_ | (with_reducible first | refine slice_old ?_ | refine app_grow ?_ | refine idx_map (by omega) ?_ | refine W_reg [(0, [1]), (1, [4]), (2, [4, 5]), (3, [2]), (4, [7]), (5, [2]), (6, [2])] ?_ | refine W_drw [(0, [1]), (1, [4]), (2, [4, 5]), (3, [2]), (4, [7]), (5, [2]), (6, [2])] (by kernel_rfl) ?_ | refine W_label ?_ | refine W_skip ?_ | refine W_exit ?_ | refine W_ret ?_ | refine end_at0 ?_) | (with_reducible refine And.intro (fun h => ?_) (fun h => ?_)) | (with_reducible refine And.intro (by omega) ?_)); (try simp only [go_sem, Nat.reduceAdd, Nat.reduceSub, Nat.reduceMul, Nat.reduceDiv, Nat.reduceMod, Nat.reducePow, Nat.reduceLT, Nat.reduceEqDiff, Nat.reduceBEq, Nat.reduceLeDiff, reduceIte, reduceCtorEq, Int.reduceLT, Int.reduceLE, Int.reduceEq, Int.reduceNe, Int.reduceNeg, Int.reduceAdd, Int.reduceSub, Int.reduceMul, Int.reduceToNat, Int.reducePow, Int.reduceDiv, Int.reduceMod, Nat.reduceSucc, h0, h1, e, Try.ntmps60, Try.results60, stS]))
        | fail)

def schk (f : Int) : Int := if f < 0 ∨ 256 ≤ f then 2 else 0
def sckS : Spec := { rel := fun args ins res outs => ∃ f u : Int, args = [sv f u] ∧ ins = [] ∧ res = iv (schk f) ∧ outs = [] }
theorem sck_at (f u : Int) : sckS.rel [sv f u] [] (iv (schk f)) [] := ⟨f, u, rfl, rfl, rfl, rfl⟩
theorem sck_ok : Ok Try.prog 56 sckS := by
  refine fn_ok sckS Try.func56 rfl rfl ?_
  rintro args ins res outs ⟨f, u, rfl, rfl, rfl, rfl⟩
  refine ⟨by simp [Try.ntmps56], fun w0 V Bo mu0 => ?_⟩
  by_cases h0 : f < 0
  · have e : schk f = 2 := by simp [schk, h0]
    repeat' (first
      | (with_reducible first | refine W_seq ?_ | refine W_condT rfl ?_ | refine W_condF rfl ?_ | refine W_tf rfl (fun h => ?_) (fun h => ?_) | refine W_block ?_ | refine W_scope ?_ | refine endQ_ret ?_ | refine endQ_normal ?_)
      | ((with_reducible first | refine hK _ ?_ | refine hK _ _ ?_); clear hK K)
      | ((first | (with_reducible first | refine ops_cons (fun K hK => ?_) | refine opsd_cons (fun K hK => ?_) | refine ops_nil ?_ | refine fit_i64 (by omega) ?_ | refine fit_u8 (by omega) ?_ | refine fit_u64 (by omega) ?_ | refine fit_u32 (by omega) ?_ | refine fit_any ?_ | refine quo_nn (by omega) ?_ | refine rem_nn (by omega) ?_ | refine quo_any ?_ | refine rem_any ?_ | refine sh_in (by simp only [IntKind.bits]; omega) ?_) | ((with_reducible refine opsd_nil ?_); refine And.intro (by kernel_rfl) ?_) | with_reducible refine callV_snap ?_ | (with_reducible first | refine slice_old ?_ | refine app_grow ?_ | refine idx_map (by omega) ?_ | refine W_reg [(0, [1]), (1, [10]), (2, [2]), (3, [2])] ?_ | refine W_drw [(0, [1]), (1, [10]), (2, [2]), (3, [2])] (by kernel_rfl) ?_ | refine W_label ?_ | refine W_skip ?_ | refine W_exit ?_ | refine W_ret ?_ | refine end_at0 ?_) | (with_reducible refine And.intro (fun h => ?_) (fun h => ?_)) | (with_reducible refine And.intro (by omega) ?_)); (try simp only [go_sem, Nat.reduceAdd, Nat.reduceSub, Nat.reduceMul, Nat.reduceDiv, Nat.reduceMod, Nat.reducePow, Nat.reduceLT, Nat.reduceEqDiff, Nat.reduceBEq, Nat.reduceLeDiff, reduceIte, reduceCtorEq, Int.reduceLT, Int.reduceLE, Int.reduceEq, Int.reduceNe, Int.reduceNeg, Int.reduceAdd, Int.reduceSub, Int.reduceMul, Int.reduceToNat, Int.reducePow, Int.reduceDiv, Int.reduceMod, Nat.reduceSucc, h0, e, Try.ntmps56, Try.results56, sckS]))
      | fail)
  · by_cases h1 : 256 ≤ f
    · have e : schk f = 2 := by simp [schk, h1]
      repeat' (first
        | (with_reducible first | refine W_seq ?_ | refine W_condT rfl ?_ | refine W_condF rfl ?_ | refine W_tf rfl (fun h => ?_) (fun h => ?_) | refine W_block ?_ | refine W_scope ?_ | refine endQ_ret ?_ | refine endQ_normal ?_)
        | ((with_reducible first | refine hK _ ?_ | refine hK _ _ ?_); clear hK K)
        | ((first | (with_reducible first | refine ops_cons (fun K hK => ?_) | refine opsd_cons (fun K hK => ?_) | refine ops_nil ?_ | refine fit_i64 (by omega) ?_ | refine fit_u8 (by omega) ?_ | refine fit_u64 (by omega) ?_ | refine fit_u32 (by omega) ?_ | refine fit_any ?_ | refine quo_nn (by omega) ?_ | refine rem_nn (by omega) ?_ | refine quo_any ?_ | refine rem_any ?_ | refine sh_in (by simp only [IntKind.bits]; omega) ?_) | ((with_reducible refine opsd_nil ?_); refine And.intro (by kernel_rfl) ?_) | with_reducible refine callV_snap ?_ | (with_reducible first | refine slice_old ?_ | refine app_grow ?_ | refine idx_map (by omega) ?_ | refine W_reg [(0, [1]), (1, [10]), (2, [2]), (3, [2])] ?_ | refine W_drw [(0, [1]), (1, [10]), (2, [2]), (3, [2])] (by kernel_rfl) ?_ | refine W_label ?_ | refine W_skip ?_ | refine W_exit ?_ | refine W_ret ?_ | refine end_at0 ?_) | (with_reducible refine And.intro (fun h => ?_) (fun h => ?_)) | (with_reducible refine And.intro (by omega) ?_)); (try simp only [go_sem, Nat.reduceAdd, Nat.reduceSub, Nat.reduceMul, Nat.reduceDiv, Nat.reduceMod, Nat.reducePow, Nat.reduceLT, Nat.reduceEqDiff, Nat.reduceBEq, Nat.reduceLeDiff, reduceIte, reduceCtorEq, Int.reduceLT, Int.reduceLE, Int.reduceEq, Int.reduceNe, Int.reduceNeg, Int.reduceAdd, Int.reduceSub, Int.reduceMul, Int.reduceToNat, Int.reducePow, Int.reduceDiv, Int.reduceMod, Nat.reduceSucc, h0, h1, e, Try.ntmps56, Try.results56, sckS]))
        | fail)
    · have e : schk f = 0 := by simp [schk, h0, h1]
      repeat' (first
        | (with_reducible first | refine W_seq ?_ | refine W_condT rfl ?_ | refine W_condF rfl ?_ | refine W_tf rfl (fun h => ?_) (fun h => ?_) | refine W_block ?_ | refine W_scope ?_ | refine endQ_ret ?_ | refine endQ_normal ?_)
        | ((with_reducible first | refine hK _ ?_ | refine hK _ _ ?_); clear hK K)
        | ((first | (with_reducible first | refine ops_cons (fun K hK => ?_) | refine opsd_cons (fun K hK => ?_) | refine ops_nil ?_ | refine fit_i64 (by omega) ?_ | refine fit_u8 (by omega) ?_ | refine fit_u64 (by omega) ?_ | refine fit_u32 (by omega) ?_ | refine fit_any ?_ | refine quo_nn (by omega) ?_ | refine rem_nn (by omega) ?_ | refine quo_any ?_ | refine rem_any ?_ | refine sh_in (by simp only [IntKind.bits]; omega) ?_) | ((with_reducible refine opsd_nil ?_); refine And.intro (by kernel_rfl) ?_) | with_reducible refine callV_snap ?_ | (with_reducible first | refine slice_old ?_ | refine app_grow ?_ | refine idx_map (by omega) ?_ | refine W_reg [(0, [1]), (1, [10]), (2, [2]), (3, [2])] ?_ | refine W_drw [(0, [1]), (1, [10]), (2, [2]), (3, [2])] (by kernel_rfl) ?_ | refine W_label ?_ | refine W_skip ?_ | refine W_exit ?_ | refine W_ret ?_ | refine end_at0 ?_) | (with_reducible refine And.intro (fun h => ?_) (fun h => ?_)) | (with_reducible refine And.intro (by omega) ?_)); (try simp only [go_sem, Nat.reduceAdd, Nat.reduceSub, Nat.reduceMul, Nat.reduceDiv, Nat.reduceMod, Nat.reducePow, Nat.reduceLT, Nat.reduceEqDiff, Nat.reduceBEq, Nat.reduceLeDiff, reduceIte, reduceCtorEq, Int.reduceLT, Int.reduceLE, Int.reduceEq, Int.reduceNe, Int.reduceNeg, Int.reduceAdd, Int.reduceSub, Int.reduceMul, Int.reduceToNat, Int.reducePow, Int.reduceDiv, Int.reduceMod, Nat.reduceSucc, h0, h1, e, Try.ntmps56, Try.results56, sckS]))
        | fail)

/-- the lowest free place is taken -/
def AllocS : Spec := { rel := fun args ins res outs => ∃ f u : Int, 0 ≤ f ∧ f < 256 ∧ 0 ≤ u ∧ u ≤ 254 ∧ args = [sv f u] ∧ ins = [] ∧ res = .tup [sv f (u + 2 ^ (plc u).toNat), iv (f * 8 + plc u), iv 0] ∧ outs = [] }
theorem Alloc_at (f u : Int) (f0 : 0 ≤ f) (f1 : f < 256) (u0 : 0 ≤ u) (u1 : u ≤ 254) : AllocS.rel [sv f u] [] (.tup [sv f (u + 2 ^ (plc u).toNat), iv (f * 8 + plc u), iv 0]) [] := ⟨f, u, f0, f1, u0, u1, rfl, rfl, rfl, rfl⟩
set_option maxHeartbeats 1000000 in
theorem Alloc_ok : Ok Try.prog 41 AllocS := by
  refine fn_ok AllocS Try.func41 rfl rfl ?_
  rintro args ins res outs ⟨f, u, f0, f1, u0, u1, rfl, rfl, rfl, rfl⟩
  refine ⟨by simp [Try.ntmps41], fun w0 V Bo mu0 => ?_⟩
  have e1 : schk f = 0 := by simp [schk]; omega
  have e2 : ¬ sst u = 3 := by unfold sst; split; omega; split <;> omega
  obtain ⟨p0, p1⟩ := plc_bd u u0 u1
  have e3 := not_u8 u u0 (by omega)
  have e4 := or_free u (plc u) u0 (by omega) p0 p1 (plc_free u u0 u1)
  have e5 : tz (255 - u) = plc u := rfl
  repeat' (first
    | (with_reducible first | refine W_seq ?_ | refine W_condT rfl ?_ | refine W_condF rfl ?_ | refine W_tf rfl (fun h => ?_) (fun h => ?_) | refine W_block ?_ | refine W_scope ?_ | refine endQ_ret ?_ | refine endQ_normal ?_)
    | ((with_reducible first | refine hK _ ?_ | refine hK _ _ ?_); clear hK K)
    | ((first | (with_reducible first | refine ops_cons (fun K hK => ?_) | refine opsd_cons (fun K hK => ?_) | refine ops_nil ?_ | refine fit_i64 (by omega) ?_ | refine fit_u8 (by omega) ?_ | refine fit_u64 (by omega) ?_ | refine fit_u32 (by omega) ?_ | refine fit_any ?_ | refine quo_nn (by omega) ?_ | refine rem_nn (by omega) ?_ | refine quo_any ?_ | refine rem_any ?_ | refine sh_in (by simp only [IntKind.bits]; omega) ?_) | ((with_reducible refine opsd_nil ?_); refine And.intro (by kernel_rfl) ?_) | with_reducible refine callV_snap ?_ | ((with_reducible refine call_go sckS sck_ok ?_); refine ⟨(by first | exact alOk_nil _ | exact alOk_f rfl), _, _, sck_at _ _, ?_⟩) | ((with_reducible refine call_go stS st_ok ?_); refine ⟨(by first | exact alOk_nil _ | exact alOk_f rfl), _, _, st_at _ _, ?_⟩) | ((with_reducible refine call_go tz8S tz8_ok ?_); refine ⟨(by first | exact alOk_nil _ | exact alOk_f rfl), _, _, tz8_at _ (by omega) (by omega), ?_⟩) | ((with_reducible refine call_go bitS bit_ok ?_); refine ⟨(by first | exact alOk_nil _ | exact alOk_f rfl), _, _, bit_at _ p0 p1, ?_⟩) | (with_reducible first | refine slice_old ?_ | refine app_grow ?_ | refine idx_map (by omega) ?_ | refine W_reg [(0, [1, 2]), (1, [1, 2, 5]), (2, [1, 2, 5, 10]), (3, [2, 3, 4]), (4, [1, 2, 15]), (5, [2, 3, 4]), (6, [1, 2, 6]), (7, [1, 2, 6]), (8, [2, 3, 4])] ?_ | refine W_drw [(0, [1, 2]), (1, [1, 2, 5]), (2, [1, 2, 5, 10]), (3, [2, 3, 4]), (4, [1, 2, 15]), (5, [2, 3, 4]), (6, [1, 2, 6]), (7, [1, 2, 6]), (8, [2, 3, 4])] (by kernel_rfl) ?_ | refine W_label ?_ | refine W_skip ?_ | refine W_exit ?_ | refine W_ret ?_ | refine end_at0 ?_) | (with_reducible refine And.intro (fun h => ?_) (fun h => ?_)) | (with_reducible refine And.intro (by omega) ?_)); (try simp only [go_sem, Nat.reduceAdd, Nat.reduceSub, Nat.reduceMul, Nat.reduceDiv, Nat.reduceMod, Nat.reducePow, Nat.reduceLT, Nat.reduceEqDiff, Nat.reduceBEq, Nat.reduceLeDiff, reduceIte, reduceCtorEq, Int.reduceLT, Int.reduceLE, Int.reduceEq, Int.reduceNe, Int.reduceNeg, Int.reduceAdd, Int.reduceSub, Int.reduceMul, Int.reduceToNat, Int.reducePow, Int.reduceDiv, Int.reduceMod, Nat.reduceSucc, e1, e2, e3, e4, e5, Try.ntmps41, Try.results41, AllocS]))
    | fail)
end Go.Proofs.Ytokocigmchfdfaa
