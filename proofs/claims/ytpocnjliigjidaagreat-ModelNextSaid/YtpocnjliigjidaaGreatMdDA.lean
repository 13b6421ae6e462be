import Derived.Test.YtpocnjliigjidaaGreatMdC
/- The validity of outcomes, the reference's side. -/
namespace Go.Proofs.YtpocnjliigjidaaGreat
open Go.RowKit
set_option maxRecDepth 100000
set_option linter.unusedSimpArgs false
set_option linter.unusedVariables false
abbrev lv135MdD : List (Nat × List Nat) := [(0, [0, 1]), (1, [1, 5]), (2, [1, 5, 6]), (3, [1, 5, 6, 12]), (4, [1, 5, 6]), (5, [1, 5, 6, 19]), (6, [4]), (7, [4])]
def lay2 (n : Nat) : List UInt8 := if n = 1 ∨ n = 2 then [115] else if n = 3 ∨ n = 4 then [112, 119, 118, 116] else if n = 5 then [111, 116] else if n = 8 then [112, 119] else if n = 11 then [118, 116] else if n = 7 then [] else [116]
def inRS : Spec := { rel := fun args ins res outs => ∃ n a b : Int, args = [iv n, iv a, iv b] ∧ ins = [] ∧ res = bv (decide (a ≤ n ∧ n ≤ b)) ∧ outs = [] }
theorem inR_ok : Ok Tryz.prog 134 inRS := by
  refine fn_ok inRS Tryz.func134 rfl rfl ?_
  rintro args ins res outs ⟨n, a, b, rfl, rfl, rfl, rfl⟩
  refine ⟨by simp [Tryz.ntmps134], fun w0 V Bo mu0 => ?_⟩
  repeat' (first | refine sA ?_ | ((with_reducible first | refine hK _ ?_ | refine hK _ _ ?_); clear hK K) | ((first | refine sB ?_ | (with_reducible first | refine ops_cons (fun K hK => ?_) | refine W_reg [(0, [0, 1, 2]), (1, [6])] ?_) | with_reducible refine And.intro (fun h => ?_) (fun h => ?_) | with_reducible refine And.intro (by omega) ?_); (try simp only [go_sem, seval, reduceCtorEq, Tryz.ntmps134, Tryz.results134, inRS])) | fail)
  all_goals first | exact dec_t (by omega) | exact dec_f (by omega)
def lstT (n : Int) : Int := if n = 3 ∨ n = 4 ∨ n = 10 then 0 else 1
def lstTS : Spec := { rel := fun args ins res outs => ∃ n : Int, args = [iv n] ∧ ins = [] ∧ res = wv (lstT n) ∧ outs = [] }
theorem lstT_at (n : Int) {m : Int} (h : lstT n = m) : lstTS.rel [iv n] [] (wv m) [] := ⟨n, rfl, rfl, by rw [h], rfl⟩
theorem lstT_ok : Ok Tryz.prog 136 lstTS := by
  refine fn_ok lstTS Tryz.func136 rfl rfl ?_
  rintro args ins res outs ⟨n, rfl, rfl, rfl, rfl⟩
  refine ⟨by simp [Tryz.ntmps136], fun w0 V Bo mu0 => ?_⟩
  repeat' (first | refine sA ?_ | with_reducible refine W_tf rfl (fun h => ?_) (fun h => ?_) | ((with_reducible first | refine hK _ ?_ | refine hK _ _ ?_); clear hK K) | ((first | refine sB ?_ | (with_reducible first | refine ops_cons (fun K hK => ?_) | refine W_reg [(0, [0]), (1, [12]), (2, [2]), (3, [2])] ?_) | with_reducible refine And.intro (fun h => ?_) (fun h => ?_) | with_reducible refine And.intro (by omega) ?_); (try simp only [go_sem, seval, reduceCtorEq, Tryz.ntmps136, Tryz.results136, lstTS])) | fail)
  all_goals simp [lstT, *]
def fldK (k : Int) : List UInt8 := lay2 k.toNat
def fldsS : Spec := { rel := fun args ins res outs => ∃ k : Int, 1 ≤ k ∧ k ≤ 11 ∧ args = [iv k] ∧ ins = [] ∧ res = .d (.str (sY (fldK k))) ∧ outs = [] }
theorem flds_at (k : Int) (h1 : 1 ≤ k) (h2 : k ≤ 11) : fldsS.rel [iv k] [] (.d (.str (sY (fldK k)))) [] := ⟨k, h1, h2, rfl, rfl, rfl, rfl⟩
theorem flds_ok : Ok Tryz.prog 154 fldsS := by
  refine fn_ok fldsS Tryz.func154 rfl rfl ?_
  rintro args ins res outs ⟨n, h1, h2, rfl, rfl, rfl, rfl⟩
  refine ⟨by simp [Tryz.ntmps154], fun w0 V Bo mu0 => ?_⟩
  rcases (show n = 1 ∨ n = 2 ∨ n = 3 ∨ n = 4 ∨ n = 5 ∨ n = 6 ∨ n = 7 ∨ n = 8 ∨ n = 9 ∨ n = 10 ∨ n = 11 by omega) with rfl | rfl | rfl | rfl | rfl | rfl | rfl | rfl | rfl | rfl | rfl
  all_goals
    repeat' (first | refine sA ?_ | ((with_reducible first | refine hK _ ?_ | refine hK _ _ ?_); clear hK K) | ((first | refine sB ?_ | (with_reducible first | refine ops_cons (fun K hK => ?_) | refine W_reg [(0, [0]), (1, [2])] ?_) | with_reducible refine And.intro (fun h => ?_) (fun h => ?_) | with_reducible refine And.intro (by omega) ?_); (try simp only [go_sem, seval, reduceCtorEq, Tryz.ntmps154, Tryz.results154, fldsS])) | fail)
  all_goals rfl
def usK (k c : Int) : Bool := (fldK k).any fun b => decide ((b.toNat : Int) = c)
def usesS : Spec := { rel := fun args ins res outs => ∃ k c : Int, 1 ≤ k ∧ k ≤ 11 ∧ args = [iv k, .d (.int .u8 c)] ∧ ins = [] ∧ res = bv (usK k c) ∧ outs = [] }
theorem uses_at {k c : Int} {b : Bool} (h1 : 1 ≤ k) (h2 : k ≤ 11) (h : usK k c = b) : usesS.rel [iv k, .d (.int .u8 c)] [] (bv b) [] := ⟨k, c, h1, h2, rfl, rfl, by rw [h], rfl⟩
theorem uses_ok : Ok Tryz.prog 135 usesS := by
  refine fn_ok usesS Tryz.func135 rfl rfl ?_
  rintro args ins res outs ⟨k, c, h1, h2, rfl, rfl, rfl, rfl⟩
  refine ⟨by simp [Tryz.ntmps135], fun w0 V Bo mu0 => ?_⟩
  have us := Tryz.underlying9
  repeat' (first | refine sA ?_ | with_reducible refine W_tf rfl (fun h => ?_) (fun h => ?_) | ((with_reducible first | refine hK _ ?_ | refine hK _ _ ?_); clear hK K) | ((first | refine sB ?_ | (with_reducible first | refine ops_cons (fun K hK => ?_) | refine W_reg lv135MdD ?_) | with_reducible refine callV_snap ?_ | ((with_reducible refine call_go fldsS flds_ok ?_); refine ⟨alk, _, _, flds_at k h1 h2, ?_⟩) | with_reducible refine And.intro (fun h => ?_) (fun h => ?_) | with_reducible refine And.intro (by omega) ?_); (try simp only [go_sem, seval, reduceCtorEq, lv135MdD, Tryz.ntmps135, Tryz.results135, usesS])) | fail)
  unfold usK
  have h4 : (fldK k).length ≤ 4 := by unfold fldK lay2; (repeat' split) <;> decide
  have hsz : (sY (fldK k)).size = (fldK k).length := rfl
  generalize fldK k = l at *
  refine W_loop (fun i : Nat => ⟨[(1, .d (.int .u8 c)), (5, .d (.str (sY l))), (6, iv (i : Int))], []⟩) (fun i => i ≤ l.length ∧ (l.take i).any (fun b => decide ((b.toNat : Int) = c)) = false) (fun i => l.length - i) 0 ⟨Nat.zero_le _, rfl⟩ [] ?_ ?_
  · simp [go_sem]
  rintro i ⟨hi, hT⟩
  by_cases hlt : i < l.length
  · have hki : (i : Int) < l.length := by omega
    have hb := sB_get hlt
    by_cases he : ((l[i]).toNat : Int) = c
    · have hr : l.any (fun b => decide ((b.toNat : Int) = c)) = true := List.any_eq_true.2 ⟨_, List.getElem_mem hlt, by simpa using he⟩
      rw [hr]
      repeat' (first | refine sA ?_ | with_reducible refine W_tf rfl (fun h => ?_) (fun h => ?_) | ((with_reducible first | refine hK _ ?_ | refine hK _ _ ?_); clear hK K) | ((refine ext_sindex rfl ?_ us rfl rfl (by omega) hb ?_) <;> simp only [go_sem, seval, reduceCtorEq]) | ((first | refine sB ?_ | (with_reducible first | refine ops_cons (fun K hK => ?_) | refine W_reg lv135MdD ?_) | with_reducible refine callV_snap ?_ | with_reducible refine And.intro (fun h => ?_) (fun h => ?_) | with_reducible refine And.intro (by omega) ?_); (try simp only [go_sem, seval, reduceCtorEq, hki, hsz, he, lv135MdD, Tryz.ntmps135, Tryz.results135, usesS])) | fail)
    · have hn : (l.take (i + 1)).any (fun b => decide ((b.toNat : Int) = c)) = false := by
        rw [take_get l i hlt, List.any_append, hT]
        simp [he]
      repeat' (first | refine sA ?_ | with_reducible refine W_tf rfl (fun h => ?_) (fun h => ?_) | ((with_reducible first | refine hK _ ?_ | refine hK _ _ ?_); clear hK K) | ((refine ext_sindex rfl ?_ us rfl rfl (by omega) hb ?_) <;> simp only [go_sem, seval, reduceCtorEq]) | ((first | refine sB ?_ | (with_reducible first | refine ops_cons (fun K hK => ?_) | refine W_reg lv135MdD ?_) | with_reducible refine callV_snap ?_ | with_reducible refine And.intro (fun h => ?_) (fun h => ?_) | with_reducible refine And.intro (by omega) ?_); (try simp only [go_sem, seval, reduceCtorEq, hki, hsz, he, lv135MdD, Tryz.ntmps135, Tryz.results135, usesS])) | fail)
      refine ⟨i + 1, [], ⟨by omega, hn⟩, by omega, ?_⟩
      simp [go_sem]
  · have hki : ¬ (i : Int) < l.length := by omega
    obtain rfl : i = l.length := by omega
    rw [List.take_length] at hT
    rw [hT]
    repeat' (first | refine sA ?_ | with_reducible refine W_tf rfl (fun h => ?_) (fun h => ?_) | ((with_reducible first | refine hK _ ?_ | refine hK _ _ ?_); clear hK K) | ((first | refine sB ?_ | (with_reducible first | refine ops_cons (fun K hK => ?_) | refine W_reg lv135MdD ?_) | with_reducible refine callV_snap ?_ | with_reducible refine And.intro (fun h => ?_) (fun h => ?_) | with_reducible refine And.intro (by omega) ?_); (try simp only [go_sem, seval, reduceCtorEq, hki, hsz, lv135MdD, Tryz.ntmps135, Tryz.results135, usesS])) | fail)
def nmN (n : Int) : List UInt8 := if n < 1 ∨ 11 < n then [] else nmB n.toNat
def nmRS : Spec := { rel := fun args ins res outs => ∃ n : Int, args = [iv n] ∧ ins = [] ∧ res = .d (.str (sY (nmN n))) ∧ outs = [] }
theorem nmR_at (n : Int) {l : List UInt8} (h : nmN n = l) : nmRS.rel [iv n] [] (.d (.str (sY l))) [] := ⟨n, rfl, rfl, by rw [h], rfl⟩
set_option maxHeartbeats 2000000 in
theorem nmR_ok : Ok Tryz.prog 90 nmRS := by
  refine fn_ok nmRS Tryz.func90 rfl rfl ?_
  rintro args ins res outs ⟨n, rfl, rfl, rfl, rfl⟩
  refine ⟨by simp [Tryz.ntmps90], fun w0 V Bo mu0 => ?_⟩
  by_cases k1 : n < 1
  · rw [show nmN n = [] from if_pos (.inl k1)]
    repeat' (first | refine sA ?_ | with_reducible refine W_tf rfl (fun h => ?_) (fun h => ?_) | ((with_reducible first | refine hK _ ?_ | refine hK _ _ ?_); clear hK K) | ((first | refine sB ?_ | (with_reducible first | refine ops_cons (fun K hK => ?_) | refine W_reg [(0, [0]), (1, [0, 3]), (2, [0, 3, 12]), (3, [2]), (4, [2])] ?_) | with_reducible refine callV_snap ?_ | with_reducible refine And.intro (fun h => ?_) (fun h => ?_) | with_reducible refine And.intro (by omega) ?_); (try simp only [go_sem, seval, reduceCtorEq, k1, Tryz.ntmps90, Tryz.results90, nmRS])) | fail)
  by_cases k2 : 11 < n
  · rw [show nmN n = [] from if_pos (.inr k2)]
    have k3 : 12 ≤ n := by omega
    repeat' (first | refine sA ?_ | with_reducible refine W_tf rfl (fun h => ?_) (fun h => ?_) | ((with_reducible first | refine hK _ ?_ | refine hK _ _ ?_); clear hK K) | ((first | refine sB ?_ | (with_reducible first | refine ops_cons (fun K hK => ?_) | refine W_reg [(0, [0]), (1, [0, 3]), (2, [0, 3, 12]), (3, [2]), (4, [2])] ?_) | with_reducible refine callV_snap ?_ | with_reducible refine And.intro (fun h => ?_) (fun h => ?_) | with_reducible refine And.intro (by omega) ?_); (try simp only [go_sem, seval, reduceCtorEq, k1, k3, Tryz.ntmps90, Tryz.results90, nmRS])) | fail)
  rw [show nmN n = nmB n.toNat from if_neg (by omega)]
  obtain ⟨m, rfl⟩ : ∃ m : Nat, n = (m : Int) := ⟨n.toNat, by omega⟩
  rcases (show m = 1 ∨ m = 2 ∨ m = 3 ∨ m = 4 ∨ m = 5 ∨ m = 6 ∨ m = 7 ∨ m = 8 ∨ m = 9 ∨ m = 10 ∨ m = 11 by omega) with rfl | rfl | rfl | rfl | rfl | rfl | rfl | rfl | rfl | rfl | rfl
  all_goals
    repeat' (first | refine sA ?_ | with_reducible refine W_tf rfl (fun h => ?_) (fun h => ?_) | ((with_reducible first | refine hK _ ?_ | refine hK _ _ ?_); clear hK K) | ((first | refine sB ?_ | (with_reducible first | refine ops_cons (fun K hK => ?_) | refine W_reg [(0, [0]), (1, [0, 3]), (2, [0, 3, 12]), (3, [2]), (4, [2])] ?_) | with_reducible refine callV_snap ?_ | with_reducible refine And.intro (fun h => ?_) (fun h => ?_) | with_reducible refine And.intro (by omega) ?_); (try simp only [go_sem, seval, reduceCtorEq, Tryz.ntmps90, Tryz.results90, nmRS])) | fail)
  all_goals rfl
theorem tl_go (l : List UInt8) : ∀ (n i : Nat) (r : List UInt8), l.length - i = n → ByteArray.toList.loop (sY l) i r = r.reverse ++ l.drop i := by
  intro n
  induction n with
  | zero =>
    intro i r h
    unfold ByteArray.toList.loop
    have hs : ¬ i < (sY l).size := by show ¬ i < l.length; omega
    rw [if_neg hs, List.drop_eq_nil_of_le (by omega)]
    simp
  | succ n ih =>
    intro i r h
    unfold ByteArray.toList.loop
    have hs : i < (sY l).size := by show i < l.length; omega
    rw [if_pos hs, ih _ _ (by omega)]
    have e : (sY l).get! i = l[i]'(by omega) := by
      unfold ByteArray.get!
      simp [show i < l.length by omega]
    rw [e, List.drop_eq_getElem_cons (show i < l.length by omega)]
    simp
theorem sB_toList (l : List UInt8) : (sY l).toList = l := by
  unfold ByteArray.toList
  rw [tl_go l _ 0 [] rfl]
  simp
theorem nmN_nil {n : Int} (h : n < 1 ∨ 11 < n) : nmN n = [] := if_pos h
theorem nmN_ne {n : Int} (h : ¬ (n < 1 ∨ 11 < n)) : ((sY (nmN n)).toList == (ByteArray.mk #[]).toList) = false := by
  have e : (ByteArray.mk #[]).toList = [] := sB_toList []
  rw [sB_toList, e]
  obtain ⟨m, rfl⟩ : ∃ m : Nat, n = (m : Int) := ⟨n.toNat, by omega⟩
  rcases (show m = 1 ∨ m = 2 ∨ m = 3 ∨ m = 4 ∨ m = 5 ∨ m = 6 ∨ m = 7 ∨ m = 8 ∨ m = 9 ∨ m = 10 ∨ m = 11 by omega) with rfl | rfl | rfl | rfl | rfl | rfl | rfl | rfl | rfl | rfl | rfl
  all_goals decide
def rngB (x : Oc) : Bool := decide (1 ≤ x.p ∧ x.p ≤ 8) && fitO x
def rngOS : Spec := { rel := fun args ins res outs => ∃ x : Oc, 1 ≤ x.k ∧ x.k ≤ 11 ∧ args = [ocA x] ∧ ins = [] ∧ res = bv (rngB x) ∧ outs = [] }
theorem rngO_at (x : Oc) (h1 : 1 ≤ x.k) (h2 : x.k ≤ 11) {b : Bool} (h : rngB x = b) : rngOS.rel [ocA x] [] (bv b) [] := ⟨x, h1, h2, rfl, rfl, by rw [h], rfl⟩
theorem inB_at {n a b : Int} {c : Bool} (h : decide (a ≤ n ∧ n ≤ b) = c) : inRS.rel [iv n, iv a, iv b] [] (bv c) [] := ⟨n, a, b, rfl, rfl, by rw [h], rfl⟩
abbrev inBS : Spec := inRS
theorem inB_ok : Ok Tryz.prog 134 inBS := inR_ok
def rnAS : Spec := { rel := fun args ins res outs => ∃ x : Oc, 1 ≤ x.k ∧ x.k ≤ 4 ∧ args = [ocA x] ∧ ins = [] ∧ res = bv (rngB x) ∧ outs = [] }
def rnBS : Spec := { rel := fun args ins res outs => ∃ x : Oc, 5 ≤ x.k ∧ x.k ≤ 8 ∧ args = [ocA x] ∧ ins = [] ∧ res = bv (rngB x) ∧ outs = [] }
def rnCS : Spec := { rel := fun args ins res outs => ∃ x : Oc, 9 ≤ x.k ∧ x.k ≤ 11 ∧ args = [ocA x] ∧ ins = [] ∧ res = bv (rngB x) ∧ outs = [] }
end Go.Proofs.YtpocnjliigjidaaGreat
namespace Go.Proofs.YtpocnjliigjidaaGreat
open Go.RowKit
set_option maxRecDepth 100000
set_option linter.unusedSimpArgs false
set_option linter.unusedVariables false
abbrev lv91MdDA : List (Nat × List Nat) := [(0, [1]), (1, [1, 3]), (2, [1, 3, 6]), (3, [2]), (4, [1, 3, 11]), (5, [2]), (6, [1, 3, 28]), (7, [2]), (8, [1, 3, 37]), (9, [2]), (10, [1, 3, 46]), (11, [2]), (12, [1, 3, 62]), (13, [2]), (14, [2])]
set_option maxHeartbeats 8000000 in
theorem rnA_ok : Ok Tryz.prog 91 rnAS := by
  refine fn_ok rnAS Tryz.func91 rfl rfl ?_
  rintro args ins res outs ⟨⟨K, p, o, g, w, t, v⟩, h1, h2, rfl, rfl, rfl, rfl⟩
  refine ⟨by simp [Tryz.ntmps91], fun w0 V Bo mu0 => ?_⟩
  dsimp only at h1 h2
  rcases (show K = 1 ∨ K = 2 ∨ K = 3 ∨ K = 4 by omega) with rfl | rfl | rfl | rfl
  · rcases (show ((1 ≤ p ∧ p ≤ 8) ∧ (0 ≤ g ∧ g ≤ 63) ∧ (g ≤ o ∧ o ≤ 63)) ∨ (¬ (1 ≤ p ∧ p ≤ 8)) ∨ ((1 ≤ p ∧ p ≤ 8) ∧ ¬ (0 ≤ g ∧ g ≤ 63)) ∨ ((1 ≤ p ∧ p ≤ 8) ∧ (0 ≤ g ∧ g ≤ 63) ∧ ¬ (g ≤ o ∧ o ≤ 63)) by omega) with h | h | h | h
    all_goals
      repeat' (first | refine sA ?_ | with_reducible refine W_tf rfl (fun h => ?_) (fun h => ?_) | ((with_reducible first | refine hK _ ?_ | refine hK _ _ ?_); clear hK K) | ((first | refine sB ?_ | (with_reducible first | refine ops_cons (fun K hK => ?_) | refine opsd_cons (fun K hK => ?_) | refine W_reg lv91MdDA ?_ | refine W_drw lv91MdDA (by kernel_rfl) ?_) | ((with_reducible refine opsd_nil ?_); refine And.intro (by kernel_rfl) ?_) | with_reducible refine callV_snap ?_ | ((with_reducible refine call_go inBS inB_ok ?_); refine ⟨alk, _, _, inB_at (by first | exact decide_eq_true (by omega) | exact decide_eq_false (by omega)), ?_⟩) | ((with_reducible refine call_go usesS uses_ok ?_); refine ⟨alk, _, _, uses_at (by omega) (by omega) (by first | (refine Eq.trans (b := true) ?_ rfl; decide +kernel) | (refine Eq.trans (b := false) ?_ rfl; decide +kernel)), ?_⟩) | ((with_reducible refine call_go lstTS lstT_ok ?_); refine ⟨alk, _, _, lstT_at _ (by first | (refine Eq.trans (b := 0) ?_ rfl; decide) | (refine Eq.trans (b := 1) ?_ rfl; decide)), ?_⟩) | with_reducible refine And.intro (fun h => ?_) (fun h => ?_) | with_reducible refine And.intro (by omega) ?_); (try simp only [go_sem, seval, reduceCtorEq, lv91MdDA, Tryz.ntmps91, Tryz.results91, rnAS])) | fail)
    all_goals first | (exfalso; omega) | (simp [rngB, fitO, mxT]; omega) | (simp [rngB, fitO, mxT]; done) | trace_state
  · rcases (show ((1 ≤ p ∧ p ≤ 8) ∧ (0 ≤ g ∧ g ≤ 63) ∧ (g ≤ o ∧ o ≤ 63)) ∨ (¬ (1 ≤ p ∧ p ≤ 8)) ∨ ((1 ≤ p ∧ p ≤ 8) ∧ ¬ (0 ≤ g ∧ g ≤ 63)) ∨ ((1 ≤ p ∧ p ≤ 8) ∧ (0 ≤ g ∧ g ≤ 63) ∧ ¬ (g ≤ o ∧ o ≤ 63)) by omega) with h | h | h | h
    all_goals
      repeat' (first | refine sA ?_ | with_reducible refine W_tf rfl (fun h => ?_) (fun h => ?_) | ((with_reducible first | refine hK _ ?_ | refine hK _ _ ?_); clear hK K) | ((first | refine sB ?_ | (with_reducible first | refine ops_cons (fun K hK => ?_) | refine opsd_cons (fun K hK => ?_) | refine W_reg lv91MdDA ?_ | refine W_drw lv91MdDA (by kernel_rfl) ?_) | ((with_reducible refine opsd_nil ?_); refine And.intro (by kernel_rfl) ?_) | with_reducible refine callV_snap ?_ | ((with_reducible refine call_go inBS inB_ok ?_); refine ⟨alk, _, _, inB_at (by first | exact decide_eq_true (by omega) | exact decide_eq_false (by omega)), ?_⟩) | ((with_reducible refine call_go usesS uses_ok ?_); refine ⟨alk, _, _, uses_at (by omega) (by omega) (by first | (refine Eq.trans (b := true) ?_ rfl; decide +kernel) | (refine Eq.trans (b := false) ?_ rfl; decide +kernel)), ?_⟩) | ((with_reducible refine call_go lstTS lstT_ok ?_); refine ⟨alk, _, _, lstT_at _ (by first | (refine Eq.trans (b := 0) ?_ rfl; decide) | (refine Eq.trans (b := 1) ?_ rfl; decide)), ?_⟩) | with_reducible refine And.intro (fun h => ?_) (fun h => ?_) | with_reducible refine And.intro (by omega) ?_); (try simp only [go_sem, seval, reduceCtorEq, lv91MdDA, Tryz.ntmps91, Tryz.results91, rnAS])) | fail)
    all_goals first | (exfalso; omega) | (simp [rngB, fitO, mxT]; omega) | (simp [rngB, fitO, mxT]; done) | trace_state
  · rcases (show ((1 ≤ p ∧ p ≤ 8) ∧ (0 ≤ g ∧ g ≤ 63) ∧ (0 ≤ w ∧ w ≤ 7) ∧ t ≤ 1099511627776) ∨ (¬ (1 ≤ p ∧ p ≤ 8)) ∨ ((1 ≤ p ∧ p ≤ 8) ∧ ¬ (0 ≤ g ∧ g ≤ 63)) ∨ ((1 ≤ p ∧ p ≤ 8) ∧ (0 ≤ g ∧ g ≤ 63) ∧ ¬ (0 ≤ w ∧ w ≤ 7)) ∨ ((1 ≤ p ∧ p ≤ 8) ∧ (0 ≤ g ∧ g ≤ 63) ∧ (0 ≤ w ∧ w ≤ 7) ∧ ¬ (t ≤ 1099511627776)) by omega) with h | h | h | h | h
    all_goals
      repeat' (first | refine sA ?_ | with_reducible refine W_tf rfl (fun h => ?_) (fun h => ?_) | ((with_reducible first | refine hK _ ?_ | refine hK _ _ ?_); clear hK K) | ((first | refine sB ?_ | (with_reducible first | refine ops_cons (fun K hK => ?_) | refine opsd_cons (fun K hK => ?_) | refine W_reg lv91MdDA ?_ | refine W_drw lv91MdDA (by kernel_rfl) ?_) | ((with_reducible refine opsd_nil ?_); refine And.intro (by kernel_rfl) ?_) | with_reducible refine callV_snap ?_ | ((with_reducible refine call_go inBS inB_ok ?_); refine ⟨alk, _, _, inB_at (by first | exact decide_eq_true (by omega) | exact decide_eq_false (by omega)), ?_⟩) | ((with_reducible refine call_go usesS uses_ok ?_); refine ⟨alk, _, _, uses_at (by omega) (by omega) (by first | (refine Eq.trans (b := true) ?_ rfl; decide +kernel) | (refine Eq.trans (b := false) ?_ rfl; decide +kernel)), ?_⟩) | ((with_reducible refine call_go lstTS lstT_ok ?_); refine ⟨alk, _, _, lstT_at _ (by first | (refine Eq.trans (b := 0) ?_ rfl; decide) | (refine Eq.trans (b := 1) ?_ rfl; decide)), ?_⟩) | with_reducible refine And.intro (fun h => ?_) (fun h => ?_) | with_reducible refine And.intro (by omega) ?_); (try simp only [go_sem, seval, reduceCtorEq, lv91MdDA, Tryz.ntmps91, Tryz.results91, rnAS])) | fail)
    all_goals first | (exfalso; omega) | (simp [rngB, fitO, mxT]; omega) | (simp [rngB, fitO, mxT]; done) | trace_state
  · rcases (show ((1 ≤ p ∧ p ≤ 8) ∧ (0 ≤ g ∧ g ≤ 63) ∧ (0 ≤ w ∧ w ≤ 7) ∧ t ≤ 1099511627776) ∨ (¬ (1 ≤ p ∧ p ≤ 8)) ∨ ((1 ≤ p ∧ p ≤ 8) ∧ ¬ (0 ≤ g ∧ g ≤ 63)) ∨ ((1 ≤ p ∧ p ≤ 8) ∧ (0 ≤ g ∧ g ≤ 63) ∧ ¬ (0 ≤ w ∧ w ≤ 7)) ∨ ((1 ≤ p ∧ p ≤ 8) ∧ (0 ≤ g ∧ g ≤ 63) ∧ (0 ≤ w ∧ w ≤ 7) ∧ ¬ (t ≤ 1099511627776)) by omega) with h | h | h | h | h
    all_goals
      repeat' (first | refine sA ?_ | with_reducible refine W_tf rfl (fun h => ?_) (fun h => ?_) | ((with_reducible first | refine hK _ ?_ | refine hK _ _ ?_); clear hK K) | ((first | refine sB ?_ | (with_reducible first | refine ops_cons (fun K hK => ?_) | refine opsd_cons (fun K hK => ?_) | refine W_reg lv91MdDA ?_ | refine W_drw lv91MdDA (by kernel_rfl) ?_) | ((with_reducible refine opsd_nil ?_); refine And.intro (by kernel_rfl) ?_) | with_reducible refine callV_snap ?_ | ((with_reducible refine call_go inBS inB_ok ?_); refine ⟨alk, _, _, inB_at (by first | exact decide_eq_true (by omega) | exact decide_eq_false (by omega)), ?_⟩) | ((with_reducible refine call_go usesS uses_ok ?_); refine ⟨alk, _, _, uses_at (by omega) (by omega) (by first | (refine Eq.trans (b := true) ?_ rfl; decide +kernel) | (refine Eq.trans (b := false) ?_ rfl; decide +kernel)), ?_⟩) | ((with_reducible refine call_go lstTS lstT_ok ?_); refine ⟨alk, _, _, lstT_at _ (by first | (refine Eq.trans (b := 0) ?_ rfl; decide) | (refine Eq.trans (b := 1) ?_ rfl; decide)), ?_⟩) | with_reducible refine And.intro (fun h => ?_) (fun h => ?_) | with_reducible refine And.intro (by omega) ?_); (try simp only [go_sem, seval, reduceCtorEq, lv91MdDA, Tryz.ntmps91, Tryz.results91, rnAS])) | fail)
    all_goals first | (exfalso; omega) | (simp [rngB, fitO, mxT]; omega) | (simp [rngB, fitO, mxT]; done) | trace_state
end Go.Proofs.YtpocnjliigjidaaGreat
