import Derived.Test.YtpocnjliigjidaaGreatFlG
import Derived.Test.YtpocnjliigjidaaGreatFlE
import Derived.ChangeKeysEq
import Derived.Laws.StructEq
/- A flat memory: the kit's copies and compares, New of both sides; by the engine. -/
namespace Go.Proofs.YtpocnjliigjidaaGreat
open Go.RowKit
set_option maxRecDepth 100000
set_option linter.unusedSimpArgs false
set_option linter.unusedVariables false
abbrev lv35FlAF : List (Nat × List Nat) := [(0, [2, 3]), (1, [2, 3, 28]), (2, [4]), (3, [2, 3, 5]), (4, [2, 3, 5, 33]), (5, [2, 3, 5]), (6, [2, 3, 5, 46]), (7, [4]), (8, [4])]
abbrev lv36FlAF : List (Nat × List Nat) := [(0, [0, 1]), (1, [0, 1, 10]), (2, [4]), (3, [0, 1, 5]), (4, [0, 1, 5, 14]), (5, [0, 1, 5]), (6, [0, 1, 5, 25]), (7, [4]), (8, [4])]
abbrev lv56FlAF : List (Nat × List Nat) := [(0, [0, 1]), (1, [0, 1, 10]), (2, [4]), (3, [0, 1, 5]), (4, [0, 1, 5, 14]), (5, [0, 1, 5]), (6, [0, 1, 5, 25]), (7, [4]), (8, [4])]
theorem eqt_cell : EqT Tryz.prog 90 [some .i64, some .i64, some .i64, some .u64] := by
  refine ⟨by kernel_rfl, fun xs ys w hx hy => ?_⟩
  obtain ⟨a, _, rfl, h1⟩ := kinds_int hx
  obtain ⟨b, _, rfl, h2⟩ := kinds_int h1
  obtain ⟨c, _, rfl, h3⟩ := kinds_int h2
  obtain ⟨d, _, rfl, h4⟩ := kinds_int h3
  obtain rfl := kinds_nil h4
  obtain ⟨a', _, rfl, g1⟩ := kinds_int hy
  obtain ⟨b', _, rfl, g2⟩ := kinds_int g1
  obtain ⟨c', _, rfl, g3⟩ := kinds_int g2
  obtain ⟨d', _, rfl, g4⟩ := kinds_int g3
  obtain rfl := kinds_nil g4
  clear h1 h2 h3 h4 g1 g2 g3 g4 hx hy
  have u3 := Tryz.underlying3
  have u5 := Tryz.underlying24
  have a3 := Tryz.isAgg3
  have a5 := Tryz.isAgg24
  have a52 := Tryz.isAgg88
  have hS : Tryz.prog.underlying 90 = some (.struct (Tryz.prog.fieldsOf 90)) := by kernel_rfl
  have hS2 : Tryz.prog.underlying 88 = some (.struct (Tryz.prog.fieldsOf 88)) := by kernel_rfl
  have hp : Tryz.prog.stoodInHeld 90 = false := by kernel_rfl
  have hp2 : Tryz.prog.stoodInHeld 88 = false := by kernel_rfl
  rw [show (10000 : Nat) = 9999 + 1 from rfl, run_equalIn_agg w 9999 90 _ _ hS hp]
  simp only [Program.fieldsOf, Tryz.underlying90, valL]
  have e2 : ∀ (x y x' y' : Int), (Op.equalIn 9999 88 (.agg #[.int .i64 x, .int .i64 y]) (.agg #[.int .i64 x', .int .i64 y'])).run Tryz.prog w = .ok (x == x' && y == y') w := by
    intro x y x' y'
    rw [show (9999 : Nat) = 9998 + 1 from rfl, run_equalIn_agg w 9998 88 _ _ hS2 hp2]
    simp only [Program.fieldsOf, Tryz.underlying88]
    go_simp
    by_cases h1 : x = x' <;> by_cases h2 : y = y' <;> simp [h1, h2]
  have e3 : ∀ (x x' : Int), (Op.equalIn 9999 3 (.int .i64 x) (.int .i64 x')).run Tryz.prog w = .ok (x == x') w := fun x x' => run_equalIn_int w 9998 3 .i64 .i64 x x' u3
  have e4 : ∀ (x x' : Int), (Op.equalIn 9999 24 (.int .u64 x) (.int .u64 x')).run Tryz.prog w = .ok (x == x') w := fun x x' => run_equalIn_int w 9998 24 .u64 .u64 x x' u5
  generalize (9999 : Nat) = m at e2 e3 e4 ⊢
  go_simp
  by_cases h1 : a = a' <;> by_cases h2 : b = b' <;> by_cases h3 : c = c' <;> by_cases h4 : d = d' <;> simp [eqL, e2, e3, e4, h1, h2, h3, h4]
theorem ne_take {α : Type} {a b : List α} {i : Nat} (h1 : i < a.length) (h2 : i < b.length) (h : a[i] ≠ b[i]) : a ≠ b := fun e => h (by subst e; rfl)
theorem eq_get {α : Type} {a b : List α} (hl : a.length = b.length) (h : ∀ j (h1 : j < a.length) (h2 : j < b.length), a[j] = b[j]) : a = b := List.ext_getElem hl fun j h1 h2 => h j h1 h2
def SmbS : Spec := { rel := fun args ins res outs => ∃ (a b : List Bool), a.length ≤ 1000000 ∧ b.length ≤ 1000000 ∧ args = [.d (.sl (a.map encDB)), .d (.sl (b.map encDB))] ∧ ins = [] ∧ res = bv (decide (a = b)) ∧ outs = [] }
theorem Smb_at (a b : List Bool) (h1 : a.length ≤ 1000000) (h2 : b.length ≤ 1000000) : SmbS.rel [.d (.sl (a.map encDB)), .d (.sl (b.map encDB))] [] (bv (decide (a = b))) [] := ⟨a, b, h1, h2, rfl, rfl, rfl, rfl⟩
set_option maxHeartbeats 1000000 in
theorem Smb_ok : Ok Tryz.prog 56 SmbS := by
  refine fn_ok SmbS Tryz.func56 rfl rfl ?_
  rintro args ins res outs ⟨a, b, h1, h2, rfl, rfl, rfl, rfl⟩
  refine ⟨by simp [Tryz.ntmps56], fun w0 V Bo mu0 => ?_⟩
  by_cases hl : a.length = b.length
  case neg =>
    have hl' : ¬ (a.length : Int) = (b.length : Int) := by omega
    rw [decide_eq_false (fun e : a = b => hl (by rw [e]))]
    repeat' (first | refine sA ?_ | with_reducible refine W_tf rfl (fun h => ?_) (fun h => ?_) | ((with_reducible first | refine hK _ ?_ | refine hK _ _ ?_); clear hK K) | ((first | refine sB ?_ | (with_reducible first | refine ops_cons (fun K hK => ?_) | refine opsd_cons (fun K hK => ?_) | refine W_reg lv56FlAF ?_ | refine W_drw lv56FlAF (by kernel_rfl) ?_) | ((with_reducible refine opsd_nil ?_); refine And.intro (by kernel_rfl) ?_) | with_reducible refine callV_snap ?_ | with_reducible refine And.intro (fun h => ?_) (fun h => ?_) | with_reducible refine And.intro (by omega) ?_); (try simp only [go_sem, seval, reduceCtorEq, hl', lv56FlAF, Tryz.ntmps56, Tryz.results56, SmbS])) | fail)
  have hl' : (a.length : Int) = (b.length : Int) := by omega
  repeat' (first | refine sA ?_ | with_reducible refine W_tf rfl (fun h => ?_) (fun h => ?_) | ((with_reducible first | refine hK _ ?_ | refine hK _ _ ?_); clear hK K) | ((first | refine sB ?_ | (with_reducible first | refine ops_cons (fun K hK => ?_) | refine opsd_cons (fun K hK => ?_) | refine W_reg lv56FlAF ?_ | refine W_drw lv56FlAF (by kernel_rfl) ?_) | ((with_reducible refine opsd_nil ?_); refine And.intro (by kernel_rfl) ?_) | with_reducible refine callV_snap ?_ | with_reducible refine And.intro (fun h => ?_) (fun h => ?_) | with_reducible refine And.intro (by omega) ?_); (try simp only [go_sem, seval, reduceCtorEq, hl', lv56FlAF, Tryz.ntmps56, Tryz.results56, SmbS])) | fail)
  refine W_loop (fun i : Nat => ⟨[(0, .d (.sl (a.map encDB))), (1, .d (.sl (b.map encDB))), (5, iv (i : Int))], []⟩) (fun i => i ≤ a.length ∧ ∀ j (g1 : j < a.length) (g2 : j < b.length), j < i → a[j] = b[j]) (fun i => a.length - i) 0 ⟨Nat.zero_le _, fun j _ _ h => absurd h (Nat.not_lt_zero _)⟩ [] ?_ ?_
  · simp [go_sem]
  rintro i ⟨hi, hg⟩
  by_cases hlt : i < a.length
  · have hki : (i : Int) < (b.length : Int) := by omega
    have hlb : i < b.length := by omega
    obtain ⟨x, hx⟩ : ∃ x, a[i] = x := ⟨_, rfl⟩
    obtain ⟨y, hy⟩ : ∃ y, b[i] = y := ⟨_, rfl⟩
    have e0 : encDB a[i] = [.bool x] := by rw [hx]; rfl
    have e1 : encDB b[i] = [.bool y] := by rw [hy]; rfl
    have b4 := Tryz.underlying4
    have hbb : (x != x) = false := by simp
    by_cases he : x = y
    · have he' : (x == y) = true := by simpa using he
      subst he
      repeat' (first | refine sA ?_ | with_reducible refine W_tf rfl (fun h => ?_) (fun h => ?_) | ((with_reducible first | refine hK _ ?_ | refine hK _ _ ?_); clear hK K) | ((first | refine sB ?_ | (with_reducible first | refine ops_cons (fun K hK => ?_) | refine opsd_cons (fun K hK => ?_) | refine W_reg lv56FlAF ?_ | refine W_drw lv56FlAF (by kernel_rfl) ?_) | ((with_reducible refine opsd_nil ?_); refine And.intro (by kernel_rfl) ?_) | with_reducible refine callV_snap ?_ | with_reducible refine And.intro (fun h => ?_) (fun h => ?_) | with_reducible refine And.intro (by omega) ?_); (try simp only [go_sem, seval, reduceCtorEq, hl', hki, e0, e1, b4, hbb, lv56FlAF, Tryz.ntmps56, Tryz.results56, SmbS])) | fail)
      refine ⟨i + 1, [], ⟨by omega, fun j g1 g2 h => ?_⟩, by omega, ?_⟩
      · by_cases hj : j = i
        · subst hj; rw [hx, hy]
        · exact hg j g1 g2 (by omega)
      · simp [go_sem]
    · rw [decide_eq_false (ne_take hlt hlb (by rw [hx, hy]; exact he))]
      have hbn : (x != y) = true := by simpa using he
      repeat' (first | refine sA ?_ | with_reducible refine W_tf rfl (fun h => ?_) (fun h => ?_) | ((with_reducible first | refine hK _ ?_ | refine hK _ _ ?_); clear hK K) | ((first | refine sB ?_ | (with_reducible first | refine ops_cons (fun K hK => ?_) | refine opsd_cons (fun K hK => ?_) | refine W_reg lv56FlAF ?_ | refine W_drw lv56FlAF (by kernel_rfl) ?_) | ((with_reducible refine opsd_nil ?_); refine And.intro (by kernel_rfl) ?_) | with_reducible refine callV_snap ?_ | with_reducible refine And.intro (fun h => ?_) (fun h => ?_) | with_reducible refine And.intro (by omega) ?_); (try simp only [go_sem, seval, reduceCtorEq, hl', hki, e0, e1, b4, hbn, lv56FlAF, Tryz.ntmps56, Tryz.results56, SmbS])) | fail)
  · have hki : ¬ (i : Int) < (b.length : Int) := by omega
    rw [decide_eq_true (eq_get hl fun j g1 g2 => hg j g1 g2 (by omega))]
    repeat' (first | refine sA ?_ | with_reducible refine W_tf rfl (fun h => ?_) (fun h => ?_) | ((with_reducible first | refine hK _ ?_ | refine hK _ _ ?_); clear hK K) | ((first | refine sB ?_ | (with_reducible first | refine ops_cons (fun K hK => ?_) | refine opsd_cons (fun K hK => ?_) | refine W_reg lv56FlAF ?_ | refine W_drw lv56FlAF (by kernel_rfl) ?_) | ((with_reducible refine opsd_nil ?_); refine And.intro (by kernel_rfl) ?_) | with_reducible refine callV_snap ?_ | with_reducible refine And.intro (fun h => ?_) (fun h => ?_) | with_reducible refine And.intro (by omega) ?_); (try simp only [go_sem, seval, reduceCtorEq, hl', hki, lv56FlAF, Tryz.ntmps56, Tryz.results56, SmbS])) | fail)
def SmwS : Spec := { rel := fun args ins res outs => ∃ (a b : List Nat), a.length ≤ 1000000 ∧ b.length ≤ 1000000 ∧ args = [.d (.sl (a.map encU)), .d (.sl (b.map encU))] ∧ ins = [] ∧ res = bv (decide (a = b)) ∧ outs = [] }
theorem Smw_at (a b : List Nat) (h1 : a.length ≤ 1000000) (h2 : b.length ≤ 1000000) : SmwS.rel [.d (.sl (a.map encU)), .d (.sl (b.map encU))] [] (bv (decide (a = b))) [] := ⟨a, b, h1, h2, rfl, rfl, rfl, rfl⟩
set_option maxHeartbeats 1000000 in
theorem Smw_ok : Ok Tryz.prog 36 SmwS := by
  refine fn_ok SmwS Tryz.func36 rfl rfl ?_
  rintro args ins res outs ⟨a, b, h1, h2, rfl, rfl, rfl, rfl⟩
  refine ⟨by simp [Tryz.ntmps36], fun w0 V Bo mu0 => ?_⟩
  by_cases hl : a.length = b.length
  case neg =>
    have hl' : ¬ (a.length : Int) = (b.length : Int) := by omega
    rw [decide_eq_false (fun e : a = b => hl (by rw [e]))]
    repeat' (first | refine sA ?_ | with_reducible refine W_tf rfl (fun h => ?_) (fun h => ?_) | ((with_reducible first | refine hK _ ?_ | refine hK _ _ ?_); clear hK K) | ((first | refine sB ?_ | (with_reducible first | refine ops_cons (fun K hK => ?_) | refine opsd_cons (fun K hK => ?_) | refine W_reg lv36FlAF ?_ | refine W_drw lv36FlAF (by kernel_rfl) ?_) | ((with_reducible refine opsd_nil ?_); refine And.intro (by kernel_rfl) ?_) | with_reducible refine callV_snap ?_ | with_reducible refine And.intro (fun h => ?_) (fun h => ?_) | with_reducible refine And.intro (by omega) ?_); (try simp only [go_sem, seval, reduceCtorEq, hl', lv36FlAF, Tryz.ntmps36, Tryz.results36, SmwS])) | fail)
  have hl' : (a.length : Int) = (b.length : Int) := by omega
  repeat' (first | refine sA ?_ | with_reducible refine W_tf rfl (fun h => ?_) (fun h => ?_) | ((with_reducible first | refine hK _ ?_ | refine hK _ _ ?_); clear hK K) | ((first | refine sB ?_ | (with_reducible first | refine ops_cons (fun K hK => ?_) | refine opsd_cons (fun K hK => ?_) | refine W_reg lv36FlAF ?_ | refine W_drw lv36FlAF (by kernel_rfl) ?_) | ((with_reducible refine opsd_nil ?_); refine And.intro (by kernel_rfl) ?_) | with_reducible refine callV_snap ?_ | with_reducible refine And.intro (fun h => ?_) (fun h => ?_) | with_reducible refine And.intro (by omega) ?_); (try simp only [go_sem, seval, reduceCtorEq, hl', lv36FlAF, Tryz.ntmps36, Tryz.results36, SmwS])) | fail)
  refine W_loop (fun i : Nat => ⟨[(0, .d (.sl (a.map encU))), (1, .d (.sl (b.map encU))), (5, iv (i : Int))], []⟩) (fun i => i ≤ a.length ∧ ∀ j (g1 : j < a.length) (g2 : j < b.length), j < i → a[j] = b[j]) (fun i => a.length - i) 0 ⟨Nat.zero_le _, fun j _ _ h => absurd h (Nat.not_lt_zero _)⟩ [] ?_ ?_
  · simp [go_sem]
  rintro i ⟨hi, hg⟩
  by_cases hlt : i < a.length
  · have hki : (i : Int) < (b.length : Int) := by omega
    have hlb : i < b.length := by omega
    obtain ⟨x, hx⟩ : ∃ x, a[i] = x := ⟨_, rfl⟩
    obtain ⟨y, hy⟩ : ∃ y, b[i] = y := ⟨_, rfl⟩
    have e0 : encU a[i] = [.int .u64 (x : Int)] := by rw [hx]; rfl
    have e1 : encU b[i] = [.int .u64 (y : Int)] := by rw [hy]; rfl
    by_cases he : x = y
    · subst he
      repeat' (first | refine sA ?_ | with_reducible refine W_tf rfl (fun h => ?_) (fun h => ?_) | ((with_reducible first | refine hK _ ?_ | refine hK _ _ ?_); clear hK K) | ((first | refine sB ?_ | (with_reducible first | refine ops_cons (fun K hK => ?_) | refine opsd_cons (fun K hK => ?_) | refine W_reg lv36FlAF ?_ | refine W_drw lv36FlAF (by kernel_rfl) ?_) | ((with_reducible refine opsd_nil ?_); refine And.intro (by kernel_rfl) ?_) | with_reducible refine callV_snap ?_ | with_reducible refine And.intro (fun h => ?_) (fun h => ?_) | with_reducible refine And.intro (by omega) ?_); (try simp only [go_sem, seval, reduceCtorEq, hl', hki, e0, e1, lv36FlAF, Tryz.ntmps36, Tryz.results36, SmwS])) | fail)
      refine ⟨i + 1, [], ⟨by omega, fun j g1 g2 h => ?_⟩, by omega, ?_⟩
      · by_cases hj : j = i
        · subst hj; rw [hx, hy]
        · exact hg j g1 g2 (by omega)
      · simp [go_sem]
    · have he' : ¬ (x : Int) = (y : Int) := by omega
      rw [decide_eq_false (ne_take hlt hlb (by rw [hx, hy]; exact he))]
      repeat' (first | refine sA ?_ | with_reducible refine W_tf rfl (fun h => ?_) (fun h => ?_) | ((with_reducible first | refine hK _ ?_ | refine hK _ _ ?_); clear hK K) | ((first | refine sB ?_ | (with_reducible first | refine ops_cons (fun K hK => ?_) | refine opsd_cons (fun K hK => ?_) | refine W_reg lv36FlAF ?_ | refine W_drw lv36FlAF (by kernel_rfl) ?_) | ((with_reducible refine opsd_nil ?_); refine And.intro (by kernel_rfl) ?_) | with_reducible refine callV_snap ?_ | with_reducible refine And.intro (fun h => ?_) (fun h => ?_) | with_reducible refine And.intro (by omega) ?_); (try simp only [go_sem, seval, reduceCtorEq, hl', hki, e0, e1, he', lv36FlAF, Tryz.ntmps36, Tryz.results36, SmwS])) | fail)
  · have hki : ¬ (i : Int) < (b.length : Int) := by omega
    rw [decide_eq_true (eq_get hl fun j g1 g2 => hg j g1 g2 (by omega))]
    repeat' (first | refine sA ?_ | with_reducible refine W_tf rfl (fun h => ?_) (fun h => ?_) | ((with_reducible first | refine hK _ ?_ | refine hK _ _ ?_); clear hK K) | ((first | refine sB ?_ | (with_reducible first | refine ops_cons (fun K hK => ?_) | refine opsd_cons (fun K hK => ?_) | refine W_reg lv36FlAF ?_ | refine W_drw lv36FlAF (by kernel_rfl) ?_) | ((with_reducible refine opsd_nil ?_); refine And.intro (by kernel_rfl) ?_) | with_reducible refine callV_snap ?_ | with_reducible refine And.intro (fun h => ?_) (fun h => ?_) | with_reducible refine And.intro (by omega) ?_); (try simp only [go_sem, seval, reduceCtorEq, hl', hki, lv36FlAF, Tryz.ntmps36, Tryz.results36, SmwS])) | fail)
def SmfS : Spec := { rel := fun args ins res outs => ∃ (al al' : List Bool) (mp mp' : List Nat) (cs cs' : List Cl), al.length ≤ 1000000 ∧ al'.length ≤ 1000000 ∧ mp.length ≤ 1000000 ∧ mp'.length ≤ 1000000 ∧ cs.length ≤ 1000000 ∧ cs'.length ≤ 1000000 ∧ args = [fm al mp cs, fm al' mp' cs'] ∧ ins = [] ∧ res = bv (decide (al = al' ∧ mp = mp' ∧ cs = cs')) ∧ outs = [] }
theorem Smf_at (al al' : List Bool) (mp mp' : List Nat) (cs cs' : List Cl) (h1 : al.length ≤ 1000000) (h2 : al'.length ≤ 1000000) (h3 : mp.length ≤ 1000000) (h4 : mp'.length ≤ 1000000) (h5 : cs.length ≤ 1000000) (h6 : cs'.length ≤ 1000000) : SmfS.rel [fm al mp cs, fm al' mp' cs'] [] (bv (decide (al = al' ∧ mp = mp' ∧ cs = cs'))) [] := ⟨al, al', mp, mp', cs, cs', h1, h2, h3, h4, h5, h6, rfl, rfl, rfl, rfl⟩
set_option maxHeartbeats 2000000 in
theorem Smf_ok : Ok Tryz.prog 35 SmfS := by
  refine fn_ok SmfS Tryz.func35 rfl rfl ?_
  rintro args ins res outs ⟨al, al', mp, mp', cs, cs', h1, h2, h3, h4, h5, h6, rfl, rfl, rfl, rfl⟩
  refine ⟨by simp [Tryz.ntmps35], fun w0 V Bo mu0 => ?_⟩
  by_cases ha : al = al'
  case neg =>
    have da := decide_eq_false ha
    rw [decide_eq_false (fun h : al = al' ∧ mp = mp' ∧ cs = cs' => ha h.1)]
    repeat' (first | refine sA ?_ | with_reducible refine W_tf rfl (fun h => ?_) (fun h => ?_) | ((with_reducible first | refine hK _ ?_ | refine hK _ _ ?_); clear hK K) | ((first | refine sB ?_ | (with_reducible first | refine ops_cons (fun K hK => ?_) | refine opsd_cons (fun K hK => ?_) | refine W_reg lv35FlAF ?_ | refine W_drw lv35FlAF (by kernel_rfl) ?_) | ((with_reducible refine opsd_nil ?_); refine And.intro (by kernel_rfl) ?_) | with_reducible refine callV_snap ?_ | ((with_reducible refine call_go SmbS Smb_ok ?_); refine ⟨alk, _, _, Smb_at al al' h1 h2, ?_⟩) | with_reducible refine And.intro (fun h => ?_) (fun h => ?_) | with_reducible refine And.intro (by omega) ?_); (try simp only [go_sem, seval, reduceCtorEq, da, lv35FlAF, Tryz.ntmps35, Tryz.results35, SmfS])) | fail)
  have da := decide_eq_true ha
  by_cases hm : mp = mp'
  case neg =>
    have dm := decide_eq_false hm
    rw [decide_eq_false (fun h : al = al' ∧ mp = mp' ∧ cs = cs' => hm h.2.1)]
    repeat' (first | refine sA ?_ | with_reducible refine W_tf rfl (fun h => ?_) (fun h => ?_) | ((with_reducible first | refine hK _ ?_ | refine hK _ _ ?_); clear hK K) | ((first | refine sB ?_ | (with_reducible first | refine ops_cons (fun K hK => ?_) | refine opsd_cons (fun K hK => ?_) | refine W_reg lv35FlAF ?_ | refine W_drw lv35FlAF (by kernel_rfl) ?_) | ((with_reducible refine opsd_nil ?_); refine And.intro (by kernel_rfl) ?_) | with_reducible refine callV_snap ?_ | ((with_reducible refine call_go SmbS Smb_ok ?_); refine ⟨alk, _, _, Smb_at al al' h1 h2, ?_⟩) | ((with_reducible refine call_go SmwS Smw_ok ?_); refine ⟨alk, _, _, Smw_at mp mp' h3 h4, ?_⟩) | with_reducible refine And.intro (fun h => ?_) (fun h => ?_) | with_reducible refine And.intro (by omega) ?_); (try simp only [go_sem, seval, reduceCtorEq, da, dm, lv35FlAF, Tryz.ntmps35, Tryz.results35, SmfS])) | fail)
  have dm := decide_eq_true hm
  by_cases hl : cs.length = cs'.length
  case neg =>
    have hl' : ¬ (cs.length : Int) = (cs'.length : Int) := by omega
    rw [decide_eq_false (fun h : al = al' ∧ mp = mp' ∧ cs = cs' => hl (by rw [h.2.2]))]
    repeat' (first | refine sA ?_ | with_reducible refine W_tf rfl (fun h => ?_) (fun h => ?_) | ((with_reducible first | refine hK _ ?_ | refine hK _ _ ?_); clear hK K) | ((first | refine sB ?_ | (with_reducible first | refine ops_cons (fun K hK => ?_) | refine opsd_cons (fun K hK => ?_) | refine W_reg lv35FlAF ?_ | refine W_drw lv35FlAF (by kernel_rfl) ?_) | ((with_reducible refine opsd_nil ?_); refine And.intro (by kernel_rfl) ?_) | with_reducible refine callV_snap ?_ | ((with_reducible refine call_go SmbS Smb_ok ?_); refine ⟨alk, _, _, Smb_at al al' h1 h2, ?_⟩) | ((with_reducible refine call_go SmwS Smw_ok ?_); refine ⟨alk, _, _, Smw_at mp mp' h3 h4, ?_⟩) | with_reducible refine And.intro (fun h => ?_) (fun h => ?_) | with_reducible refine And.intro (by omega) ?_); (try simp only [go_sem, seval, reduceCtorEq, da, dm, hl', lv35FlAF, Tryz.ntmps35, Tryz.results35, SmfS])) | fail)
  have hl' : (cs.length : Int) = (cs'.length : Int) := by omega
  repeat' (first | refine sA ?_ | with_reducible refine W_tf rfl (fun h => ?_) (fun h => ?_) | ((with_reducible first | refine hK _ ?_ | refine hK _ _ ?_); clear hK K) | ((first | refine sB ?_ | (with_reducible first | refine ops_cons (fun K hK => ?_) | refine opsd_cons (fun K hK => ?_) | refine W_reg lv35FlAF ?_ | refine W_drw lv35FlAF (by kernel_rfl) ?_) | ((with_reducible refine opsd_nil ?_); refine And.intro (by kernel_rfl) ?_) | with_reducible refine callV_snap ?_ | ((with_reducible refine call_go SmbS Smb_ok ?_); refine ⟨alk, _, _, Smb_at al al' h1 h2, ?_⟩) | ((with_reducible refine call_go SmwS Smw_ok ?_); refine ⟨alk, _, _, Smw_at mp mp' h3 h4, ?_⟩) | with_reducible refine And.intro (fun h => ?_) (fun h => ?_) | with_reducible refine And.intro (by omega) ?_); (try simp only [go_sem, seval, reduceCtorEq, da, dm, hl', lv35FlAF, Tryz.ntmps35, Tryz.results35, SmfS])) | fail)
  refine W_loop (fun i : Nat => ⟨[(2, .ptr 0 0), (3, .ptr 1 0), (5, iv (i : Int))], [some (.box 38 [.d (.sl (al.map encDB)), .d (.sl (mp.map encU)), .d (.sl (cs.map encCl))]), some (.box 38 [.d (.sl (al'.map encDB)), .d (.sl (mp'.map encU)), .d (.sl (cs'.map encCl))])]⟩) (fun i => i ≤ cs.length ∧ ∀ j (g1 : j < cs.length) (g2 : j < cs'.length), j < i → cs[j] = cs'[j]) (fun i => cs.length - i) 0 ⟨Nat.zero_le _, fun j _ _ h => absurd h (Nat.not_lt_zero _)⟩ [0, 1] ?_ ?_
  · simp [go_sem]
  rintro i ⟨hi, hg⟩
  by_cases hlt : i < cs.length
  · have hki : (i : Int) < (cs'.length : Int) := by omega
    have hki2 : (i : Int) < (cs.length : Int) := by omega
    have hlb : i < cs'.length := by omega
    obtain ⟨x, hx⟩ : ∃ x, cs[i] = x := ⟨_, rfl⟩
    obtain ⟨y, hy⟩ : ∃ y, cs'[i] = y := ⟨_, rfl⟩
    obtain ⟨xp, xg, xw, xv⟩ := x
    obtain ⟨yp, yg, yw, yv⟩ := y
    have e0 : encCl cs[i] = [.int .i64 xp, .int .i64 xg, .int .i64 xw, .int .u64 (xv : Int)] := by rw [hx]; rfl
    have e1 : encCl cs'[i] = [.int .i64 yp, .int .i64 yg, .int .i64 yw, .int .u64 (yv : Int)] := by rw [hy]; rfl
    by_cases he : xp = yp ∧ xg = yg ∧ xw = yw ∧ (xv : Int) = (yv : Int)
    · skip
      repeat' (first | refine sA ?_ | with_reducible refine W_tf rfl (fun h => ?_) (fun h => ?_) | ((with_reducible first | refine hK _ ?_ | refine hK _ _ ?_); clear hK K) | ((with_reducible refine And.intro eqt_cell ?_); (try simp only [go_sem, seval, reduceCtorEq])) | ((first | refine sB ?_ | (with_reducible first | refine ops_cons (fun K hK => ?_) | refine opsd_cons (fun K hK => ?_) | refine W_reg lv35FlAF ?_ | refine W_drw lv35FlAF (by kernel_rfl) ?_) | ((with_reducible refine opsd_nil ?_); refine And.intro (by kernel_rfl) ?_) | with_reducible refine callV_snap ?_ | with_reducible refine And.intro (fun h => ?_) (fun h => ?_) | with_reducible refine And.intro (by omega) ?_); (try simp only [go_sem, seval, reduceCtorEq, hki, hki2, e0, e1, he, lv35FlAF, Tryz.ntmps35, Tryz.results35, SmfS])) | fail)
      refine ⟨i + 1, [0, 1], ⟨by omega, fun j g1 g2 h => ?_⟩, by omega, ?_⟩
      · by_cases hj : j = i
        · subst hj
          obtain ⟨q1, q2, q3, q4⟩ := he
          have q5 : xv = yv := by omega
          rw [hx, hy, q1, q2, q3, q5]
        · exact hg j g1 g2 (by omega)
      · simp [go_sem]
    · rw [decide_eq_false (fun h : al = al' ∧ mp = mp' ∧ cs = cs' => ne_take hlt hlb (by
        rw [hx, hy]
        intro e
        simp only [Prod.mk.injEq] at e
        exact he ⟨e.1, e.2.1, e.2.2.1, by rw [e.2.2.2]⟩) h.2.2)]
      repeat' (first | refine sA ?_ | with_reducible refine W_tf rfl (fun h => ?_) (fun h => ?_) | ((with_reducible first | refine hK _ ?_ | refine hK _ _ ?_); clear hK K) | ((with_reducible refine And.intro eqt_cell ?_); (try simp only [go_sem, seval, reduceCtorEq])) | ((first | refine sB ?_ | (with_reducible first | refine ops_cons (fun K hK => ?_) | refine opsd_cons (fun K hK => ?_) | refine W_reg lv35FlAF ?_ | refine W_drw lv35FlAF (by kernel_rfl) ?_) | ((with_reducible refine opsd_nil ?_); refine And.intro (by kernel_rfl) ?_) | with_reducible refine callV_snap ?_ | with_reducible refine And.intro (fun h => ?_) (fun h => ?_) | with_reducible refine And.intro (by omega) ?_); (try simp only [go_sem, seval, reduceCtorEq, hki, hki2, e0, e1, he, lv35FlAF, Tryz.ntmps35, Tryz.results35, SmfS])) | fail)
  · have hki : ¬ (i : Int) < (cs'.length : Int) := by omega
    have hki2 : ¬ (i : Int) < (cs.length : Int) := by omega
    rw [decide_eq_true (⟨ha, hm, eq_get hl fun j g1 g2 => hg j g1 g2 (by omega)⟩ : al = al' ∧ mp = mp' ∧ cs = cs')]
    repeat' (first | refine sA ?_ | with_reducible refine W_tf rfl (fun h => ?_) (fun h => ?_) | ((with_reducible first | refine hK _ ?_ | refine hK _ _ ?_); clear hK K) | ((first | refine sB ?_ | (with_reducible first | refine ops_cons (fun K hK => ?_) | refine opsd_cons (fun K hK => ?_) | refine W_reg lv35FlAF ?_ | refine W_drw lv35FlAF (by kernel_rfl) ?_) | ((with_reducible refine opsd_nil ?_); refine And.intro (by kernel_rfl) ?_) | with_reducible refine callV_snap ?_ | with_reducible refine And.intro (fun h => ?_) (fun h => ?_) | with_reducible refine And.intro (by omega) ?_); (try simp only [go_sem, seval, reduceCtorEq, hki, hki2, lv35FlAF, Tryz.ntmps35, Tryz.results35, SmfS])) | fail)
abbrev al0 : List Bool := [false, false, false, false, false, false, false, false]
abbrev mp0 : List Nat := [0, 0, 0, 0, 0, 0, 0, 0]
def NewS : Spec := { al := true, rel := fun args ins res outs => args = [] ∧ ins = [] ∧ res = .agg [.row 0 1 0 8, .row 1 1 0 8, .nil] ∧ outs = [.rows 4 1 (al0.map encDB), .rows 24 1 (mp0.map encU)] }
theorem New_ok : Ok Tryz.prog 46 NewS := by
  refine fn_ok NewS Tryz.func46 rfl rfl ?_
  rintro args ins res outs ⟨rfl, rfl, rfl, rfl⟩
  refine ⟨by simp [Tryz.ntmps46], fun w0 V Bo mu0 => ?_⟩
  repeat' (first | refine sA ?_ | ((with_reducible first | refine hK _ ?_ | refine hK _ _ ?_); clear hK K) | ((first | refine sC ?_ | (with_reducible first | refine ops_cons (fun K hK => ?_) | refine opsd_cons (fun K hK => ?_) | refine W_reg [(0, [0]), (1, [0])] ?_ | refine W_drw [(0, [0]), (1, [0])] (by kernel_rfl) ?_) | ((with_reducible refine opsd_nil ?_); refine And.intro (by kernel_rfl) ?_) | with_reducible refine And.intro (fun h => ?_) (fun h => ?_) | with_reducible refine And.intro (by omega) ?_); (try simp only [go_sem, seval, reduceCtorEq, Tryz.ntmps46, Tryz.results46, NewS])) | fail)
  refine W_ret (endQ_ret (end_at [1, 2] ?_))
  simp [go_sem, Tryz.results46, NewS, encDB, encU]
theorem rNew_ok : Ok Tryz.prog 47 NewS := by
  refine fn_ok NewS Tryz.func47 rfl rfl ?_
  rintro args ins res outs ⟨rfl, rfl, rfl, rfl⟩
  refine ⟨by simp [Tryz.ntmps47], fun w0 V Bo mu0 => ?_⟩
  repeat' (first | refine sA ?_ | ((with_reducible first | refine hK _ ?_ | refine hK _ _ ?_); clear hK K) | ((first | refine sC ?_ | (with_reducible first | refine ops_cons (fun K hK => ?_) | refine opsd_cons (fun K hK => ?_) | refine W_reg [(0, [0]), (1, [0])] ?_ | refine W_drw [(0, [0]), (1, [0])] (by kernel_rfl) ?_) | ((with_reducible refine opsd_nil ?_); refine And.intro (by kernel_rfl) ?_) | with_reducible refine And.intro (fun h => ?_) (fun h => ?_) | with_reducible refine And.intro (by omega) ?_); (try simp only [go_sem, seval, reduceCtorEq, Tryz.ntmps47, Tryz.results47, NewS])) | fail)
  refine W_ret (endQ_ret (end_at [1, 2] ?_))
  simp [go_sem, Tryz.results47, NewS, encDB, encU]
def NewFS : Spec := { al := true, rel := fun args ins res outs => args = [] ∧ ins = [] ∧ res = fm al0 mp0 [] ∧ outs = [] }
theorem NewF_at : NewFS.rel [] [] (fm al0 mp0 []) [] := ⟨rfl, rfl, rfl, rfl⟩
abbrev rNewFS : Spec := NewFS
theorem rNewF_at : rNewFS.rel [] [] (fm al0 mp0 []) [] := ⟨rfl, rfl, rfl, rfl⟩
theorem NewF_ok : Ok Tryz.prog 46 NewFS := by
  refine ok_frz New_ok NewFS rfl ?_
  rintro args ins res outs ⟨rfl, rfl, rfl, rfl⟩
  exact ⟨rfl, rfl, _, _, ⟨rfl, rfl, rfl, rfl⟩, rfl⟩
theorem rNewF_ok : Ok Tryz.prog 47 rNewFS := by
  refine ok_frz rNew_ok rNewFS rfl ?_
  rintro args ins res outs ⟨rfl, rfl, rfl, rfl⟩
  exact ⟨rfl, rfl, _, _, ⟨rfl, rfl, rfl, rfl⟩, rfl⟩
end Go.Proofs.YtpocnjliigjidaaGreat
