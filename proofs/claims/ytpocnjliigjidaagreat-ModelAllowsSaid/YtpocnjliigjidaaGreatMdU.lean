import Derived.Test.YtpocnjliigjidaaGreatMdZ2
import Derived.Test.YtpocnjliigjidaaGreatMdP
import Derived.Test.YtpocnjliigjidaaGreatMdF
/- The reference's walk and After with a story whose waits are an own row. -/
namespace Go.Proofs.YtpocnjliigjidaaGreat
open Go.RowKit
set_option maxRecDepth 100000
set_option linter.unusedSimpArgs false
set_option linter.unusedVariables false
abbrev lv13MdA1 : List (Nat × List Nat) := [(0, [0, 2]), (1, [0, 2, 4]), (2, [0, 2, 4, 14]), (3, [2, 3]), (4, [0, 2, 6, 7]), (5, [2, 7, 25]), (6, [2, 3]), (7, [2, 3])]
abbrev lv34MdA1 : List (Nat × List Nat) := [(0, [0, 3]), (1, [0, 3, 4]), (2, [0, 3, 4, 5]), (3, [0, 3, 4, 5, 12]), (4, [0, 3, 4, 5]), (5, [0, 3, 4, 5, 6, 7]), (6, [0, 3, 4, 5, 6, 25]), (7, [2, 3]), (8, [0, 3, 4, 5]), (9, [2, 3])]
def fzO (i sz : Nat) (rs : List (List D)) : Option Ob → Option Ob
  | some (.box t cs) => some (.box t (cs.map (fzA i sz rs)))
  | x => x
theorem fzO_none {i sz : Nat} {rs : List (List D)} : ∀ {x : Option Ob}, fzO i sz rs x ≠ none → x ≠ none
  | none, h => h
  | some _, _ => by simp
theorem W_frzB {cx : Cx} {c : Code} {σ : St} {Q : Exit → St → Prop} (hBo : ∀ b, ¬ cx.Bo b) (i : Nat) {t : TypeId} {sz : Nat} {rs : List (List D)} (hi : σ.h[i]? = some (some (.rows t sz rs))) (h : W cx c ⟨fzT i sz rs σ.t, (σ.h.map (fzO i sz rs)).set i none⟩ Q) : W cx c σ Q := by
  intro μ a w hr
  have hlt : i < σ.h.length := (List.getElem?_eq_some_iff.1 hi).1
  have eH : ∀ j, St.H ⟨fzT i sz rs σ.t, (σ.h.map (fzO i sz rs)).set i none⟩ j = if j = i then none else fzO i sz rs (σ.H j) := by
    intro j
    simp only [St.H, List.getElem?_set, List.getElem?_map, List.length_map]
    by_cases hj : i = j
    · subst hj; simp [hlt]
    · rw [if_neg hj, if_neg (fun h => hj h.symm)]
      cases σ.h[j]? <;> rfl
  have e0 : σ.H i = some (.rows t sz rs) := by simp [St.H, hi]
  have sub : ∀ j, St.H ⟨fzT i sz rs σ.t, (σ.h.map (fzO i sz rs)).set i none⟩ j ≠ none → σ.H j ≠ none ∧ j ≠ i := by
    intro j hj
    rw [eH] at hj
    by_cases e : j = i
    · rw [if_pos e] at hj; exact absurd rfl hj
    · rw [if_neg e] at hj; exact ⟨fzO_none hj, e⟩
  have hS : ∀ b, cx.Sta σ.H μ w b → cx.Sta (St.H ⟨fzT i sz rs σ.t, (σ.h.map (fzO i sz rs)).set i none⟩) μ w b := by
    rintro b (hv | ⟨h1, h2, h3, h4⟩)
    · exact .inl hv
    · exact .inr ⟨h1, h2, h3, fun j hj he => h4 j (sub j hj).1 he⟩
  have ev0 := Ev.refl w (fun _ => False)
  have key : ∀ {x : AV} {v : Value}, Rep w (cx.Sta σ.H μ w) μ x v → Rep w (cx.Sta (St.H ⟨fzT i sz rs σ.t, (σ.h.map (fzO i sz rs)).set i none⟩) μ w) μ (fzA i sz rs x) v := by
    intro x v h2
    cases x with
    | row j sz' o len =>
      simp only [fzA]
      split
      · rename_i hc
        obtain ⟨rfl, rfl, hol⟩ := hc
        cases h2 with
        | rowNil hb =>
          have e : (rs.drop 0).take 0 = ([] : List (List D)) := by simp
          rw [e]; exact .d .nil
        | row hb b2 b3 b4 b5 =>
          rename_i b c' arr tt
          refine .d (snap_rows hr.rr e0 hb hS (.inr ⟨?_, heap_lt b2, hBo b, fun k hk he => ?_⟩) (by simp; omega) b3 b4)
          · rcases (hr.rr.own j b (by rw [e0]; simp) hb).1 with h3 | h3
            · exact h3
            · exact absurd h3 (hBo b)
          · have hk2 := sub k hk
            exact hk2.2 (hr.rr.inj k j b hk2.1 (by rw [e0]; simp) he hb)
      · exact h2.evolve ev0 (fun _ h => h.elim) hS (fun _ _ h => h)
    | _ => exact h2.evolve ev0 (fun _ h => h.elim) hS (fun _ _ h => h)
  refine h μ a w ⟨⟨hr.rr.n, hr.rr.dfr, fun s y hy => ?_, fun j o ho => ?_, fun j b hj hb => hr.rr.own j b (sub j hj).1 hb, fun j k b hj hk => hr.rr.inj j k b (sub j hj).1 (sub k hk).1, hr.rr.fr, hr.rr.vlt, hr.rr.blt⟩, fun j hj => hr.mu j (by simpa using hj), hr.bor, by simpa using hr.kle⟩
  · obtain ⟨x, hx, rfl⟩ := fzT_look i sz rs σ.t s y hy
    obtain ⟨v, h1, h2⟩ := hr.rr.tm s x hx
    exact ⟨v, h1, key h2⟩
  · rw [eH] at ho
    by_cases e : j = i
    · rw [if_pos e] at ho; cases ho
    · rw [if_neg e] at ho
      have go : ∀ o', σ.H j = some o' → ObRep w (cx.Sta (St.H ⟨fzT i sz rs σ.t, (σ.h.map (fzO i sz rs)).set i none⟩) μ w) μ j o' := fun o' h => (hr.rr.ob j o' h).evolve ev0 (fun _ h => h.elim) hS (fun _ _ h => h) (fun _ _ h => h)
      cases hj : σ.H j with
      | none => rw [hj] at ho; cases ho
      | some o' =>
        rw [hj] at ho
        cases o' with
        | box tb cs =>
          injection ho with ho; subst ho
          cases hr.rr.ob j _ hj with
          | box q1 q2 q3 q4 q5 =>
            refine .box q1 q2 (by simpa using q3) (fun m x v hx hv => ?_) q5
            rw [List.getElem?_map, Option.map_eq_some_iff] at hx
            obtain ⟨y, hy, rfl⟩ := hx
            exact key (q4 m y v hy hv)
        | _ => injection ho with ho; subst ho; exact go _ hj
abbrev syO (k : Nat) (s : Sy) : Ob := .box 40 [.d (.sl (s.m.1.map encDB)), .d (.sl (s.m.2.1.map encU)), .d (.sl (s.m.2.2.map encCl)), .row k 1 0 s.W.length, wv (s.L : Int)]
theorem rMNew_at : rMNewS.rel [] [] (syR 0 sy0) [.rows 24 1 (mp0.map encU)] := ⟨rfl, rfl, rfl, rfl⟩
theorem rnx_at (s : Sy) (x : Oc) (h1 : Vs s) (h2 : ocE x = 0) {u : Sy} {b : Bool} (hu : rnx s x = u) (hb : (nx s x).isSome = b) : rnxS.rel [syA s, ocA x] [] (.tup [syR 0 u, bv b]) [.rows 24 1 (u.W.map encU)] := ⟨s, x, h1, h2, rfl, rfl, by rw [hu, hb], by rw [hu]⟩
def wlkA (l : List Oc) : AV × List Ob := if (wk sy0 l).1 < l.length then (.tup [iv ((wk sy0 l).1 : Int), syA (wk sy0 l).2], []) else (.tup [iv ((wk sy0 l).1 : Int), syR 0 (wk sy0 l).2], [.rows 24 1 ((wk sy0 l).2.W.map encU)])
def wlkRS : Spec := { al := true, rel := fun args ins res outs => ∃ l : List Oc, l.length ≤ 1000000 ∧ (∀ x ∈ l, ocE x = 0) ∧ args = [ocL l] ∧ ins = [] ∧ res = (wlkA l).1 ∧ outs = (wlkA l).2 }
set_option maxHeartbeats 2000000 in
theorem wlkR_ok : Ok Tryz.prog 34 wlkRS := by
  refine fn_okB wlkRS Tryz.func34 rfl rfl ?_
  rintro args ins res outs ⟨l, hl, hval, rfl, rfl, rfl, rfl⟩
  refine ⟨by simp [Tryz.ntmps34], fun w0 V Bo mu0 hBo => ?_⟩
  have hBo : ∀ b, ¬ Bo b := hBo rfl
  have rMNew_at := rMNew_at
  repeat' (first | refine sA ?_ | with_reducible refine W_tf rfl (fun h => ?_) (fun h => ?_) | ((with_reducible first | refine hK _ ?_ | refine hK _ _ ?_); clear hK K) | ((first | refine sC ?_ | (with_reducible first | refine ops_cons (fun K hK => ?_) | refine opsd_cons (fun K hK => ?_) | refine W_reg lv34MdA1 ?_ | refine W_drw lv34MdA1 (by kernel_rfl) ?_) | ((with_reducible refine opsd_nil ?_); refine And.intro (by kernel_rfl) ?_) | with_reducible refine callV_snap ?_ | ((with_reducible refine call_go rMNewS rMNew_ok ?_); refine ⟨alk, _, _, rMNew_at , ?_⟩) | with_reducible refine And.intro (fun h => ?_) (fun h => ?_) | with_reducible refine And.intro (by omega) ?_); (try simp only [go_sem, seval, reduceCtorEq, lv34MdA1, Tryz.ntmps34, Tryz.results34, wlkRS])) | fail)
  refine W_loop (fun i : Nat => ⟨[(0, ocL l), (3, .ptr 0 0), (4, .ptr 1 0), (5, iv (i : Int))], [some (.box 40 [.nil, .nil, .nil, .nil, wv 0]), some (syO 2 (tlG l i)), some (.rows 24 1 ((tlG l i).W.map encU))]⟩) (fun i => i ≤ l.length ∧ run sy0 (l.take i) = some (tlG l i)) (fun i => l.length - i) 0 ⟨Nat.zero_le _, rfl⟩ [0, 2, 1] ?_ ?_
  · simp [go_sem, tlG, run, sy0, encU]
  rintro i ⟨hi, hT⟩
  by_cases hlt : i < l.length
  · have hki : (i : Int) < l.length := by omega
    have hx := hval _ (List.getElem_mem hlt)
    have hnext := fun u => run_step (u := u) hlt hT
    have hstop := wk_stop hlt hT
    have hv : Vs (tlG l i) := run_vs sy0_vs (fun y hy => hval y (List.mem_of_mem_take hy)) hT
    have hgo := fun u h => tlG_of (i := i + 1) (hnext u h)
    obtain ⟨x, hxe⟩ : ∃ x, l[i] = x := ⟨_, rfl⟩
    have e0 : encOc l[i] = [.int .i64 x.k, .int .i64 x.p, .int .i64 x.o, .int .i64 x.g, .int .i64 x.w, .int .u64 (x.t : Int), .int .u64 (x.v : Int)] := by rw [hxe]; rfl
    rw [hxe] at hx hnext hstop hgo
    have hR := rnx_eq (tlG l i) x
    refine W_frzB hBo 2 (t := 24) (sz := 1) (rs := (tlG l i).W.map encU) rfl ?_
    simp only [fzT, fzA, fzO, List.map_cons, List.map_nil, List.set_cons_succ, List.set_cons_zero, List.length_map, Nat.zero_add, Nat.le_refl, and_self, if_true, List.drop_zero, List.take_of_length_le]
    cases hnx : (nx (tlG l i) x).isSome with
    | false =>
      have rnx_at := rnx_at (tlG l i) x hv hx rfl hnx
      rw [hnx] at hR
      rw [if_neg (by decide)] at hR
      have hw : wlkA l = (.tup [iv (i : Int), syA (tlG l i)], []) := by unfold wlkA; rw [hstop hR, if_pos hlt]
      rw [hw]
      generalize tlG l i = s at *
      generalize rnx s x = u at *
      repeat' (first | refine sA ?_ | with_reducible refine W_tf rfl (fun h => ?_) (fun h => ?_) | ((with_reducible first | refine hK _ ?_ | refine hK _ _ ?_); clear hK K) | ((first | refine sB ?_ | (with_reducible first | refine ops_cons (fun K hK => ?_) | refine opsd_cons (fun K hK => ?_) | refine W_reg lv34MdA1 ?_ | refine W_drw lv34MdA1 (by kernel_rfl) ?_) | ((with_reducible refine opsd_nil ?_); refine And.intro (by kernel_rfl) ?_) | with_reducible refine callV_snap ?_ | ((with_reducible refine call_go rnxS rnx_ok ?_); refine ⟨alk, _, _, rnx_at , ?_⟩) | with_reducible refine And.intro (fun h => ?_) (fun h => ?_) | with_reducible refine And.intro (by omega) ?_); (try simp only [go_sem, seval, reduceCtorEq, hki, e0, lv34MdA1, Tryz.ntmps34, Tryz.results34, wlkRS])) | fail)
    | true =>
      have rnx_at := rnx_at (tlG l i) x hv hx rfl hnx
      rw [hnx] at hR
      rw [if_pos rfl] at hR
      have hg := hgo _ hR
      have hnx' := hnext _ hR
      generalize tlG l i = s at *
      generalize rnx s x = u at *
      repeat' (first | refine sA ?_ | with_reducible refine W_tf rfl (fun h => ?_) (fun h => ?_) | ((with_reducible first | refine hK _ ?_ | refine hK _ _ ?_); clear hK K) | ((first | refine sB ?_ | (with_reducible first | refine ops_cons (fun K hK => ?_) | refine opsd_cons (fun K hK => ?_) | refine W_reg lv34MdA1 ?_ | refine W_drw lv34MdA1 (by kernel_rfl) ?_) | ((with_reducible refine opsd_nil ?_); refine And.intro (by kernel_rfl) ?_) | with_reducible refine callV_snap ?_ | ((with_reducible refine call_go rnxS rnx_ok ?_); refine ⟨alk, _, _, rnx_at , ?_⟩) | with_reducible refine And.intro (fun h => ?_) (fun h => ?_) | with_reducible refine And.intro (by omega) ?_); (try simp only [go_sem, seval, reduceCtorEq, hki, e0, lv34MdA1, Tryz.ntmps34, Tryz.results34, wlkRS])) | fail)
      refine ⟨i + 1, [0, 1, 3], ⟨by omega, by rw [hg]; exact hnx'⟩, by omega, ?_⟩
      simp [go_sem, hg]
  · have hki : ¬ (i : Int) < l.length := by omega
    obtain rfl : i = l.length := by omega
    rw [List.take_length] at hT
    have hw : wlkA l = (.tup [iv (l.length : Int), syR 0 (tlG l l.length)], [.rows 24 1 ((tlG l l.length).W.map encU)]) := by unfold wlkA; rw [wk_run hT, if_neg (Nat.lt_irrefl _)]
    rw [hw]
    generalize tlG l l.length = s at *
    repeat' (first | refine sA ?_ | with_reducible refine W_tf rfl (fun h => ?_) (fun h => ?_) | ((with_reducible first | refine hK _ ?_ | refine hK _ _ ?_); clear hK K) | ((first | refine sC ?_ | (with_reducible first | refine ops_cons (fun K hK => ?_) | refine opsd_cons (fun K hK => ?_) | refine W_reg lv34MdA1 ?_ | refine W_drw lv34MdA1 (by kernel_rfl) ?_) | ((with_reducible refine opsd_nil ?_); refine And.intro (by kernel_rfl) ?_) | with_reducible refine callV_snap ?_ | with_reducible refine And.intro (fun h => ?_) (fun h => ?_) | with_reducible refine And.intro (by omega) ?_); (try simp only [go_sem, seval, reduceCtorEq, hki, lv34MdA1, Tryz.ntmps34, Tryz.results34, wlkRS])) | fail)
    refine W_ret (endQ_ret (end_at [2] ?_))
    simp [go_sem, Tryz.results34, wlkRS]
def aftA (l : List Oc) : AV × List Ob := if afE l = 0 then (.tup [syR 0 (afT l), iv 0], [.rows 24 1 ((afT l).W.map encU)]) else (.tup [zrS, iv (afE l)], [])
def aftRS : Spec := { al := true, rel := fun args ins res outs => ∃ l : List Oc, l.length ≤ 1000000 ∧ args = [ocL l] ∧ ins = [] ∧ res = (aftA l).1 ∧ outs = (aftA l).2 }
theorem aftR_ok : Ok Tryz.prog 13 aftRS := by
  refine fn_ok aftRS Tryz.func13 rfl rfl ?_
  rintro args ins res outs ⟨l, hl, rfl, rfl, rfl, rfl⟩
  refine ⟨by simp [Tryz.ntmps13], fun w0 V Bo mu0 => ?_⟩
  have T0 := rTrk_at l hl (e := (trE l).1) (i := (trE l).2) rfl
  generalize (trE l).2 = I at *
  by_cases he : (trE l).1 = 0
  · have hval := (trE_ok he).2
    have W0 : wlkRS.rel [ocL l] [] (wlkA l).1 (wlkA l).2 := ⟨l, hl, hval, rfl, rfl, rfl, rfl⟩
    have e1 : tlN l = (wk sy0 l).1 := if_pos he
    have e2 : tlS l = (wk sy0 l).2 := if_pos he
    have hE : afE l = if (trE l).1 = 0 ∧ tlN l < l.length then 9 else (trE l).1 := rfl
    have hT : afT l = if afE l = 0 then tlS l else syZ := rfl
    have hA : aftA l = if afE l = 0 then (.tup [syR 0 (afT l), iv 0], [.rows 24 1 ((afT l).W.map encU)]) else (.tup [zrS, iv (afE l)], []) := rfl
    rw [he, e1] at hE
    rw [e2] at hT
    rw [hA, hT]
    rw [he] at T0
    have rTrk_at : rTrkS.rel [ocL l] [] (.tup [iv 0, iv (I : Int)]) [] := T0
    unfold wlkA at W0
    generalize afE l = F at *
    generalize (wk sy0 l).1 = N at *
    generalize (wk sy0 l).2 = S at *
    by_cases hN : N < l.length
    · have hN' : (N : Int) < (l.length : Int) := by omega
      rw [if_pos ⟨rfl, hN⟩] at hE
      rw [if_pos hN] at W0
      have wlkR_at : wlkRS.rel [ocL l] [] (.tup [iv (N : Int), syA S]) [] := W0
      subst hE
      rw [if_neg (show ¬ (9 : Int) = 0 by decide)]
      repeat' (first | refine sA ?_ | with_reducible refine W_tf rfl (fun h => ?_) (fun h => ?_) | ((with_reducible first | refine hK _ ?_ | refine hK _ _ ?_); clear hK K) | ((first | refine sB ?_ | (with_reducible first | refine ops_cons (fun K hK => ?_) | refine W_reg lv13MdA1 ?_) | with_reducible refine callV_snap ?_ | ((with_reducible refine call_go rTrkS rTrk_ok ?_); refine ⟨alk, _, _, rTrk_at , ?_⟩) | ((with_reducible refine call_go wlkRS wlkR_ok ?_); refine ⟨alk, _, _, wlkR_at , ?_⟩) | with_reducible refine And.intro (fun h => ?_) (fun h => ?_) | with_reducible refine And.intro (by omega) ?_); (try simp only [go_sem, seval, reduceCtorEq, hN', lv13MdA1, Tryz.ntmps13, Tryz.results13, aftRS])) | fail)
    · have hN' : ¬ (N : Int) < (l.length : Int) := by omega
      rw [if_neg (fun h => hN h.2)] at hE
      rw [if_neg hN] at W0
      have wlkR_at : wlkRS.rel [ocL l] [] (.tup [iv (N : Int), syR 0 S]) [.rows 24 1 (S.W.map encU)] := W0
      subst hE
      rw [if_pos rfl, if_pos rfl]
      repeat' (first | refine sA ?_ | with_reducible refine W_tf rfl (fun h => ?_) (fun h => ?_) | ((with_reducible first | refine hK _ ?_ | refine hK _ _ ?_); clear hK K) | ((first | refine sC ?_ | (with_reducible first | refine ops_cons (fun K hK => ?_) | refine W_reg lv13MdA1 ?_) | with_reducible refine callV_snap ?_ | ((with_reducible refine call_go rTrkS rTrk_ok ?_); refine ⟨alk, _, _, rTrk_at , ?_⟩) | ((with_reducible refine call_go wlkRS wlkR_ok ?_); refine ⟨alk, _, _, wlkR_at , ?_⟩) | with_reducible refine And.intro (fun h => ?_) (fun h => ?_) | with_reducible refine And.intro (by omega) ?_); (try simp only [go_sem, seval, reduceCtorEq, hN', lv13MdA1, Tryz.ntmps13, Tryz.results13, aftRS])) | fail)
      refine W_ret (endQ_ret (end_at [1] ?_))
      simp [go_sem, Tryz.results13, aftRS]
  · have hE : afE l = (trE l).1 := if_neg (fun h => he h.1)
    have hA : aftA l = (.tup [zrS, iv (afE l)], []) := if_neg (by rw [hE]; exact he)
    rw [hA, hE]
    generalize (trE l).1 = E at *
    have rTrk_at : rTrkS.rel [ocL l] [] (.tup [iv E, iv (I : Int)]) [] := T0
    repeat' (first | refine sA ?_ | with_reducible refine W_tf rfl (fun h => ?_) (fun h => ?_) | ((with_reducible first | refine hK _ ?_ | refine hK _ _ ?_); clear hK K) | ((first | refine sB ?_ | (with_reducible first | refine ops_cons (fun K hK => ?_) | refine W_reg lv13MdA1 ?_) | with_reducible refine callV_snap ?_ | ((with_reducible refine call_go rTrkS rTrk_ok ?_); refine ⟨alk, _, _, rTrk_at , ?_⟩) | with_reducible refine And.intro (fun h => ?_) (fun h => ?_) | with_reducible refine And.intro (by omega) ?_); (try simp only [go_sem, seval, reduceCtorEq, he, lv13MdA1, Tryz.ntmps13, Tryz.results13, aftRS])) | fail)
end Go.Proofs.YtpocnjliigjidaaGreat
namespace Go.Proofs.YtpocnjliigjidaaGreat
open Go.RowKit
set_option maxRecDepth 100000
set_option linter.unusedSimpArgs false
set_option linter.unusedVariables false
end Go.Proofs.YtpocnjliigjidaaGreat
namespace Go.Proofs.YtpocnjliigjidaaGreat
open Go.RowKit
set_option maxRecDepth 100000
set_option linter.unusedSimpArgs false
set_option linter.unusedVariables false
abbrev Pe := Int × Nat × Nat
def pget (l : List Pe) (k : Int) : Option Nat := (l.find? fun x => k == x.1).map (·.2.1)
theorem pget_cons (x : Pe) (l : List Pe) (k : Int) : pget (x :: l) k = if k = x.1 then some x.2.1 else pget l k := by
  unfold pget
  rw [List.find?_cons]
  by_cases h : k = x.1
  · rw [if_pos h, show (k == x.1) = true by simpa using h]; rfl
  · rw [if_neg h, show (k == x.1) = false by simpa using h]
theorem pget_none {l : List Pe} {k : Int} (h : pget l k = none) : ∀ x ∈ l, x.1 ≠ k := by
  intro x hx e
  unfold pget at h
  rw [Option.map_eq_none_iff, List.find?_eq_none] at h
  have := h x hx
  simp [e] at this
theorem pget_app (l : List Pe) (x : Pe) (k : Int) : pget (l ++ [x]) k = (pget l k).or (if k = x.1 then some x.2.1 else none) := by
  induction l with
  | nil => rw [List.nil_append, pget_cons]; simp [pget]
  | cons y l ih => rw [List.cons_append, pget_cons, pget_cons, ih]; split <;> rfl
def wtP (W : List Nat) : Nat → List Int
  | 0 => []
  | i + 1 => wtP W i ++ if W[i]?.getD 0 = 0 then [] else [(i : Int) + 1]
theorem wtP_mem {W : List Nat} {p : Int} : ∀ {i : Nat}, p ∈ wtP W i ↔ ∃ k : Nat, k < i ∧ p = (k : Int) + 1 ∧ W[k]?.getD 0 ≠ 0
  | 0 => by simp [wtP]
  | i + 1 => by
    rw [wtP, List.mem_append, wtP_mem (i := i)]
    constructor
    · rintro (⟨k, h1, h2, h3⟩ | h)
      · exact ⟨k, by omega, h2, h3⟩
      · by_cases h0 : W[i]?.getD 0 = 0
        · rw [if_pos h0] at h; cases h
        · rw [if_neg h0] at h; simp at h; exact ⟨i, by omega, h, h0⟩
    · rintro ⟨k, h1, h2, h3⟩
      by_cases hk : k = i
      · subst hk; rw [if_neg h3]; exact .inr (by simp [h2])
      · exact .inl ⟨k, by omega, h2, h3⟩
theorem wtP_nodup (W : List Nat) : ∀ i, (wtP W i).Nodup
  | 0 => by simp [wtP]
  | i + 1 => by
    rw [wtP, List.nodup_append]
    refine ⟨wtP_nodup W i, by split <;> simp, ?_⟩
    intro x hx y hy
    obtain ⟨k, h1, h2, _⟩ := wtP_mem.1 hx
    split at hy
    · cases hy
    · simp at hy; omega
theorem wtP_len (W : List Nat) : ∀ i, (wtP W i).length ≤ i
  | 0 => Nat.le_refl _
  | i + 1 => by
    have := wtP_len W i
    rw [wtP, List.length_append]
    split <;> simp <;> omega
def tkO2 (W : List Nat) (p : Int) : Nat := W[(p - 1).toNat]?.getD 0
end Go.Proofs.YtpocnjliigjidaaGreat
