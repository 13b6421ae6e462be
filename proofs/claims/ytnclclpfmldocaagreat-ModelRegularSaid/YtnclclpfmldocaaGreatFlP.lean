/- A flat memory: the pages of a process forgotten; by the engine. -/
import Derived.Test.YtnclclpfmldocaaGreatFlO
namespace Go.Proofs.YtnclclpfmldocaaGreat
open Go.RowKit
set_option maxRecDepth 100000
set_option linter.unusedSimpArgs false
set_option linter.unusedVariables false

abbrev lv120FlP : List (Nat × List Nat) := [(0, [0, 1, 7]), (1, [0, 1, 7, 9]), (2, [0, 1, 4, 5, 7]), (3, [0, 1, 4, 7, 16]), (4, [0, 1, 7])]
def inS (p : Int) (set : Nat) (c : Cl) : Bool := decide (c.1 = p) && set.testBit c.2.1.toNat
def fg1S : Spec := { rel := fun args ins res outs => ∃ (c : Cl) (p : Int) (set : Nat), set < 18446744073709551616 ∧ Pgs c.2.1 ∧ args = [keyA c.1 c.2.1 c.2.2.1, wv (c.2.2.2 : Int), .dp [.int .i64 p], .dp [.int .u64 (set : Int)]] ∧ ins = [] ∧ res = bv (inS p set c) ∧ outs = [] }
theorem fg1_at (c : Cl) (p : Int) (set : Nat) (h1 : set < 18446744073709551616) (h2 : Pgs c.2.1) : fg1S.rel [keyA c.1 c.2.1 c.2.2.1, wv (c.2.2.2 : Int), .dp [.int .i64 p], .dp [.int .u64 (set : Int)]] [] (bv (inS p set c)) [] := ⟨c, p, set, h1, h2, rfl, rfl, rfl, rfl⟩
set_option maxHeartbeats 1000000 in
theorem fg1_ok : Ok Tryz.prog 121 fg1S := by
  refine fn_ok fg1S Tryz.func121 rfl rfl ?_
  rintro args ins res outs ⟨⟨cp, cg, cw, cv⟩, p, set, h1, ⟨h2, h3⟩, rfl, rfl, rfl, rfl⟩
  refine ⟨by simp [Tryz.ntmps121], fun w0 V Bo mu0 => ?_⟩
  obtain ⟨g, rfl⟩ : ∃ g : Nat, cg = (g : Int) := ⟨cg.toNat, by dsimp only at h2; omega⟩
  have hg : g < 64 := by dsimp only at h3; omega
  by_cases e1 : cp = p
  · cases hb : set.testBit g with
    | true =>
      have hne : ¬ bits .and .u64 (set : Int) (pgM g g : Int) = 0 := by rw [and_bit0 h1 hg, hb]; simp
      rw [show inS p set (cp, (g : Int), cw, cv) = true by simp [inS, e1, hb]]
      repeat' (first
        | (with_reducible first | refine W_seq ?_ | refine endQ_ret ?_ | refine endQ_normal ?_)
        | ((with_reducible first | refine hK _ ?_ | refine hK _ _ ?_); clear hK K)
        | ((first | (with_reducible first | refine ops_cons (fun K hK => ?_) | refine opsd_cons (fun K hK => ?_) | refine ops_nil ?_) | ((with_reducible refine opsd_nil ?_); refine And.intro (by kernel_rfl) ?_) | with_reducible refine callV_snap ?_ | ((with_reducible refine call_go pagesS pages_ok ?_); refine ⟨(by first | exact alOk_nil _ | exact alOk_f rfl), _, _, pages_at g g (Nat.le_refl _) hg, ?_⟩) | (with_reducible first | refine W_reg [(0, [2, 3, 4]), (1, [6])] ?_ | refine W_drw [(0, [2, 3, 4]), (1, [6])] (by kernel_rfl) ?_ | refine W_ret ?_ | refine end_at0 ?_) | (with_reducible refine And.intro (fun h => ?_) (fun h => ?_)) | (with_reducible refine And.intro (by omega) ?_)); (try simp only [go_sem, seval, reduceCtorEq, e1, hne, Tryz.ntmps121, Tryz.results121, fg1S]))
        | fail)
    | false =>
      have hne : bits .and .u64 (set : Int) (pgM g g : Int) = 0 := by rw [and_bit0 h1 hg, hb]
      rw [show inS p set (cp, (g : Int), cw, cv) = false by simp [inS, hb]]
      repeat' (first
        | (with_reducible first | refine W_seq ?_ | refine endQ_ret ?_ | refine endQ_normal ?_)
        | ((with_reducible first | refine hK _ ?_ | refine hK _ _ ?_); clear hK K)
        | ((first | (with_reducible first | refine ops_cons (fun K hK => ?_) | refine opsd_cons (fun K hK => ?_) | refine ops_nil ?_) | ((with_reducible refine opsd_nil ?_); refine And.intro (by kernel_rfl) ?_) | with_reducible refine callV_snap ?_ | ((with_reducible refine call_go pagesS pages_ok ?_); refine ⟨(by first | exact alOk_nil _ | exact alOk_f rfl), _, _, pages_at g g (Nat.le_refl _) hg, ?_⟩) | (with_reducible first | refine W_reg [(0, [2, 3, 4]), (1, [6])] ?_ | refine W_drw [(0, [2, 3, 4]), (1, [6])] (by kernel_rfl) ?_ | refine W_ret ?_ | refine end_at0 ?_) | (with_reducible refine And.intro (fun h => ?_) (fun h => ?_)) | (with_reducible refine And.intro (by omega) ?_)); (try simp only [go_sem, seval, reduceCtorEq, e1, hne, Tryz.ntmps121, Tryz.results121, fg1S]))
        | fail)
  · rw [show inS p set (cp, (g : Int), cw, cv) = false by simp [inS, e1]]
    repeat' (first
      | (with_reducible first | refine W_seq ?_ | refine endQ_ret ?_ | refine endQ_normal ?_)
      | ((with_reducible first | refine hK _ ?_ | refine hK _ _ ?_); clear hK K)
      | ((first | (with_reducible first | refine ops_cons (fun K hK => ?_) | refine opsd_cons (fun K hK => ?_) | refine ops_nil ?_) | ((with_reducible refine opsd_nil ?_); refine And.intro (by kernel_rfl) ?_) | with_reducible refine callV_snap ?_ | (with_reducible first | refine W_reg [(0, [2, 3, 4]), (1, [6])] ?_ | refine W_drw [(0, [2, 3, 4]), (1, [6])] (by kernel_rfl) ?_ | refine W_ret ?_ | refine end_at0 ?_) | (with_reducible refine And.intro (fun h => ?_) (fun h => ?_)) | (with_reducible refine And.intro (by omega) ?_)); (try simp only [go_sem, seval, reduceCtorEq, e1, Tryz.ntmps121, Tryz.results121, fg1S]))
      | fail)

/-- keys and stamps are each there once; stamps are from before -/
structure Mok (l : List Me) (ck : Nat) : Prop where
  kn : (l.map fun x => ck3 x.1).Nodup
  sn : (l.map (·.2)).Nodup
  lt : ∀ x ∈ l, x.2 < ck
theorem nodup_inj {α β : Type} {f : α → β} {l : List α} (h : (l.map f).Nodup) {x y : α} (hx : x ∈ l) (hy : y ∈ l) (he : f x = f y) : x = y := by
  induction l with
  | nil => cases hx
  | cons a l ih =>
    rw [List.map_cons, List.nodup_cons] at h
    rcases List.mem_cons.1 hx with ha | hx
    · rcases List.mem_cons.1 hy with hb | hy
      · rw [ha, hb]
      · exact absurd (List.mem_map.2 ⟨y, hy, by rw [← he, ha]⟩) h.1
    · rcases List.mem_cons.1 hy with hb | hy
      · exact absurd (List.mem_map.2 ⟨x, hx, by rw [he, hb]⟩) h.1
      · exact ih h.2 hx hy
theorem Mok.sub {l : List Me} {ck : Nat} (h : Mok l ck) (f : Me → Bool) : Mok (l.filter f) ck :=
  ⟨h.kn.sublist (List.filter_sublist.map _), h.sn.sublist (List.filter_sublist.map _), fun x hx => h.lt x (List.mem_filter.1 hx).1⟩
theorem mdel_filter {k : K3} : ∀ {l : List Me}, (l.map fun x => ck3 x.1).Nodup → mdel l k = l.filter fun x => !(ck3 x.1 == k)
  | [], _ => rfl
  | x :: l, h => by
    rw [List.map_cons, List.nodup_cons] at h
    have ih := mdel_filter (k := k) h.2
    by_cases hk : ck3 x.1 = k
    · have e : fIdx k (x :: l) = some 0 := by simp [fIdx, List.findIdx?_cons, hk]
      rw [mdel, e]
      simp only [List.eraseIdx_cons_zero]
      rw [List.filter_cons_of_neg (by simp [hk]), List.filter_eq_self.2]
      intro y hy
      have : ck3 y.1 ≠ k := fun e => h.1 (List.mem_map.2 ⟨y, hy, e.trans hk.symm⟩)
      simpa using this
    · have e : fIdx k (x :: l) = (fIdx k l).map (· + 1) := by
        have : (ck3 x.1 == k) = false := by simpa using hk
        simp [fIdx, List.findIdx?_cons, this]
      rw [List.filter_cons_of_pos (by simpa using hk), ← ih, mdel, e, mdel]
      cases fIdx k l <;> simp
/-- the entries that are still there when those of 'seen' have been looked at -/
def lef (f : Cl → Bool) (l : List Me) (seen : List Nat) : List Me := l.filter fun x => !(decide (x.2 ∈ seen) && f x.1)
theorem lef_nil (f : Cl → Bool) (l : List Me) : lef f l [] = l := by simp [lef]
theorem lef_no {f : Cl → Bool} {l : List Me} {ck : Nat} (h : Mok l ck) {seen : List Nat} {x : Me} (hx : x ∈ l) (hf : f x.1 = false) : lef f l (seen ++ [x.2]) = lef f l seen := by
  unfold lef
  refine List.filter_congr fun y hy => ?_
  by_cases he : y.2 = x.2
  · obtain rfl := nodup_inj h.sn hy hx he
    simp [hf]
  · simp [he]
theorem lef_yes {f : Cl → Bool} {l : List Me} {ck : Nat} (h : Mok l ck) {seen : List Nat} {x : Me} (hx : x ∈ l) (hf : f x.1 = true) : mdel (lef f l seen) (ck3 x.1) = lef f l (seen ++ [x.2]) := by
  unfold lef
  rw [mdel_filter (h.sub _).kn, List.filter_filter]
  refine List.filter_congr fun y hy => ?_
  by_cases he : y.2 = x.2
  · obtain rfl := nodup_inj h.sn hy hx he
    simp [hf]
  · have : ck3 y.1 ≠ ck3 x.1 := fun e => he (by rw [nodup_inj h.kn hy hx e])
    simp [he, this]
theorem lef_all {f : Cl → Bool} {l : List Me} {seen : List Nat} (h : ∀ x ∈ lef f l seen, x.2 ∈ seen) : lef f l seen = l.filter fun x => !f x.1 := by
  unfold lef
  refine List.filter_congr fun y hy => ?_
  by_cases hm : y.2 ∈ seen
  · simp [hm]
  · have : y ∈ lef f l seen := List.mem_filter.2 ⟨hy, by simp [hm]⟩
    exact absurd (h y this) hm
theorem flt_lt {α : Type} {p q : α → Bool} : ∀ {l : List α} {x : α}, (∀ y ∈ l, q y = true → p y = true) → x ∈ l → p x = true → q x = false → (l.filter q).length < (l.filter p).length
  | a :: l, x, himp, hx, hp, hq => by
    have hle : (l.filter q).length ≤ (l.filter p).length := by
      rw [← List.countP_eq_length_filter, ← List.countP_eq_length_filter]
      exact List.countP_mono_left fun y hy h => himp y (List.mem_cons_of_mem _ hy) h
    rcases List.mem_cons.1 hx with ha | hx
    · subst ha
      rw [List.filter_cons_of_neg (by simp [hq]), List.filter_cons_of_pos hp, List.length_cons]
      omega
    · have ih := flt_lt (fun y hy h => himp y (List.mem_cons_of_mem _ hy) h) hx hp hq
      have ha := himp a List.mem_cons_self
      cases h1 : q a with
      | true => rw [List.filter_cons_of_pos h1, List.filter_cons_of_pos (ha h1)]; simpa using ih
      | false =>
        rw [List.filter_cons_of_neg (by simp [h1])]
        cases h2 : p a with
        | true => rw [List.filter_cons_of_pos h2, List.length_cons]; omega
        | false => rw [List.filter_cons_of_neg (by simp [h2])]; exact ih
def unsn (l : List Me) (seen : List Nat) : Nat := (l.filter fun x => decide (x.2 ∉ seen)).length
theorem unsn_lt {l : List Me} {seen : List Nat} {x : Me} (hx : x ∈ l) (hs : x.2 ∉ seen) : unsn l (seen ++ [x.2]) < unsn l seen :=
  flt_lt (x := x) (fun y _ h => by simp only [List.mem_append, not_or, decide_eq_true_eq] at h ⊢; exact h.1) hx (by simpa using hs) (by simp)
def dlfS : Spec := { rel := fun args ins res outs => ∃ (l : List Me) (ck : Nat) (p : Int) (set : Nat), Mok l ck ∧ (∀ x ∈ l, Pgs x.1.2.1) ∧ set < 18446744073709551616 ∧ args = [.mp 0, .fn 121 [.dp [.int .i64 p], .dp [.int .u64 (set : Int)]]] ∧ ins = [mpO l ck] ∧ res = .tup [] ∧ outs = [mpO (l.filter fun x => !inS p set x.1) ck] }
theorem dlf_at (l : List Me) (ck : Nat) (p : Int) (set : Nat) (h1 : Mok l ck) (h2 : ∀ x ∈ l, Pgs x.1.2.1) (h3 : set < 18446744073709551616) : dlfS.rel [.mp 0, .fn 121 [.dp [.int .i64 p], .dp [.int .u64 (set : Int)]]] [mpO l ck] (.tup []) [mpO (l.filter fun x => !inS p set x.1) ck] := ⟨l, ck, p, set, h1, h2, h3, rfl, rfl, rfl, rfl⟩
set_option maxHeartbeats 2000000 in
theorem dlf_ok : Ok Tryz.prog 120 dlfS := by
  refine fn_ok dlfS Tryz.func120 rfl rfl ?_
  rintro args ins res outs ⟨l, ck, p, set, h1, h2, h3, rfl, rfl, rfl, rfl⟩
  refine ⟨by simp [Tryz.ntmps120], fun w0 V Bo mu0 => ?_⟩
  repeat' (first
    | (with_reducible first | refine W_seq ?_ | refine W_condT rfl ?_ | refine W_condF rfl ?_ | refine W_tf rfl (fun h => ?_) (fun h => ?_) | refine W_block ?_ | refine endQ_ret ?_ | refine endQ_normal ?_)
    | ((with_reducible first | refine hK _ ?_ | refine hK _ _ ?_); clear hK K)
    | ((refine ext_mrange rfl ?_ rfl rfl ?_) <;> simp only [go_sem, seval, reduceCtorEq])
    | ((first | (with_reducible first | refine ops_cons (fun K hK => ?_) | refine ops_nil ?_) | with_reducible refine callV_snap ?_ | (with_reducible first | refine W_reg lv120FlP ?_ | refine W_skip ?_ | refine W_exit ?_ | refine W_ret ?_ | refine end_at0 ?_) | (with_reducible refine And.intro (fun h => ?_) (fun h => ?_)) | (with_reducible refine And.intro (by omega) ?_)); (try simp only [go_sem, seval, reduceCtorEq, lv120FlP, Tryz.ntmps120, Tryz.results120, dlfS]))
    | fail)
  refine W_loop (fun seen : List Nat => ⟨[(0, .mp 0), (1, .fn 121 [.dp [.int .i64 p], .dp [.int .u64 (set : Int)]]), (7, .ptr 1 0)], [some (mpO (lef (inS p set) l seen) ck), some (.iter 0 ck seen ck)]⟩) (fun _ => True) (fun seen => unsn l seen) [] trivial [0, 1] ?_ ?_
  · simp [go_sem, lef_nil]
  intro seen _
  have hM := h1.sub (fun x => !(decide (x.2 ∈ seen) && inS p set x.1))
  refine W_seq ?_
  refine W_next [(1, [0, 1, 7, 9])] rfl rfl rfl ?_ rfl rfl rfl ?_ hM.lt (Nat.le_refl _) (fun hov => ?_) (fun x hx => ?_)
  · simp only [go_sem, seval, reduceCtorEq]
  · simp only [go_sem, seval, reduceCtorEq]
  · have he := lef_all hov
    rw [he]
    repeat' (first
      | (with_reducible first | refine W_seq ?_ | refine W_condT rfl ?_ | refine W_condF rfl ?_ | refine W_tf rfl (fun h => ?_) (fun h => ?_) | refine W_block ?_ | refine endQ_ret ?_ | refine endQ_normal ?_)
      | ((with_reducible first | refine hK _ ?_ | refine hK _ _ ?_); clear hK K)
      | ((first | (with_reducible first | refine ops_cons (fun K hK => ?_) | refine ops_nil ?_) | with_reducible refine callV_snap ?_ | (with_reducible first | refine W_reg lv120FlP ?_ | refine W_skip ?_ | refine W_exit ?_ | refine end_at0 ?_) | (with_reducible refine And.intro (fun h => ?_) (fun h => ?_)) | (with_reducible refine And.intro (by omega) ?_)); (try simp only [go_sem, seval, reduceCtorEq, lv120FlP, Tryz.ntmps120, Tryz.results120, dlfS]))
      | fail)
    refine end_at [0] ?_
    simp [go_sem, dlfS]
  · obtain ⟨hx1, hx2⟩ := hx
    have hxl := (List.mem_filter.1 hx1).1
    have hpg := h2 _ hxl
    have hst : ((lef (inS p set) l seen).map (·.2)).Nodup := hM.sn
    have hne := lef_no (f := inS p set) h1 (seen := seen) hxl
    have hye := lef_yes (f := inS p set) h1 (seen := seen) hxl
    have hms := unsn_lt hxl hx2
    cases hb : inS p set x.1 with
    | false =>
      repeat' (first
        | (with_reducible first | refine W_seq ?_ | refine W_condT rfl ?_ | refine W_condF rfl ?_ | refine W_tf rfl (fun h => ?_) (fun h => ?_) | refine W_block ?_ | refine endQ_ret ?_ | refine endQ_normal ?_)
        | ((with_reducible first | refine hK _ ?_ | refine hK _ _ ?_); clear hK K)
        | ((refine ext_mentry rfl ?_ rfl rfl rfl hx1 hst ?_) <;> simp only [go_sem, seval, reduceCtorEq])
        | ((first | (with_reducible first | refine ops_cons (fun K hK => ?_) | refine ops_nil ?_) | with_reducible refine callV_snap ?_ | ((with_reducible refine call_go fg1S fg1_ok ?_); refine ⟨(by first | exact alOk_nil _ | exact alOk_f rfl), _, _, fg1_at x.1 p set h3 hpg, ?_⟩) | (with_reducible first | refine W_reg lv120FlP ?_ | refine W_skip ?_ | refine W_exit ?_ | refine W_ret ?_ | refine end_at0 ?_) | (with_reducible refine And.intro (fun h => ?_) (fun h => ?_)) | (with_reducible refine And.intro (by omega) ?_)); (try simp only [go_sem, seval, reduceCtorEq, hb, lv120FlP, Tryz.ntmps120, Tryz.results120, dlfS]))
        | fail)
      refine ⟨seen ++ [x.2], [0, 1], hms, ?_⟩
      simp [go_sem, hne hb]
    | true =>
      repeat' (first
        | (with_reducible first | refine W_seq ?_ | refine W_condT rfl ?_ | refine W_condF rfl ?_ | refine W_tf rfl (fun h => ?_) (fun h => ?_) | refine W_block ?_ | refine endQ_ret ?_ | refine endQ_normal ?_)
        | ((with_reducible first | refine hK _ ?_ | refine hK _ _ ?_); clear hK K)
        | ((refine ext_mentry rfl ?_ rfl rfl rfl hx1 hst ?_) <;> simp only [go_sem, seval, reduceCtorEq])
        | ((refine ext_mdel (ck3 x.1) rfl ?_ rfl rfl rfl ?_) <;> simp only [go_sem, seval, reduceCtorEq])
        | ((first | (with_reducible first | refine ops_cons (fun K hK => ?_) | refine ops_nil ?_) | with_reducible refine callV_snap ?_ | ((with_reducible refine call_go fg1S fg1_ok ?_); refine ⟨(by first | exact alOk_nil _ | exact alOk_f rfl), _, _, fg1_at x.1 p set h3 hpg, ?_⟩) | (with_reducible first | refine W_reg lv120FlP ?_ | refine W_skip ?_ | refine W_exit ?_ | refine W_ret ?_ | refine end_at0 ?_) | (with_reducible refine And.intro (fun h => ?_) (fun h => ?_)) | (with_reducible refine And.intro (by omega) ?_)); (try simp only [go_sem, seval, reduceCtorEq, hb, lv120FlP, Tryz.ntmps120, Tryz.results120, dlfS]))
        | fail)
      refine ⟨seen ++ [x.2], [0, 1], hms, ?_⟩
      simp [go_sem, hye hb]

def clr (x s : Nat) : Nat := x &&& (18446744073709551615 - s)
theorem clr_lt {x : Nat} (s : Nat) (h : x < 18446744073709551616) : clr x s < 18446744073709551616 := Nat.lt_of_le_of_lt Nat.and_le_left h
theorem clr_bit (x s i : Nat) (hs : s < 18446744073709551616) (hx : x < 18446744073709551616) : (clr x s).testBit i = (x.testBit i && !s.testBit i) := by
  unfold clr
  rw [Nat.testBit_and, show (18446744073709551615 : Nat) - s = 2 ^ 64 - (s + 1) by omega, Nat.testBit_two_pow_sub_succ (show s < 2 ^ 64 by omega)]
  by_cases h : i < 64
  · simp [h]
  · have : x.testBit i = false := Nat.testBit_lt_two_pow (Nat.lt_of_lt_of_le hx (show (2 : Nat) ^ 64 ≤ 2 ^ i from Nat.pow_le_pow_right (by decide) (by omega)))
    simp [this]
abbrev mmO (al : List Bool) (mp : List Nat) (l : List Me) (ck : Nat) : List Ob := [.rows 4 1 (al.map encDB), .rows 29 1 (mp.map encU), mpO l ck]
def fgtS : Spec := { rel := fun args ins res outs => ∃ (al : List Bool) (mp : List Nat) (l : List Me) (ck k set : Nat), al.length ≤ 1000000 ∧ mp.length = 8 ∧ U64 mp ∧ k < 8 ∧ Mok l ck ∧ (∀ x ∈ l, Pgs x.1.2.1) ∧ set < 18446744073709551616 ∧
  args = [mmA 0 1 2 al mp, iv ((k : Int) + 1), wv (set : Int)] ∧ ins = mmO al mp l ck ∧ res = .tup [] ∧ outs = mmO al (mp.set k (clr (mp[k]?.getD 0) set)) (l.filter fun x => !inS ((k : Int) + 1) set x.1) ck }
theorem fgt_at (al : List Bool) (mp : List Nat) (l : List Me) (ck k set : Nat) (h0 : al.length ≤ 1000000) (h1 : mp.length = 8) (h2 : U64 mp) (h3 : k < 8) (h4 : Mok l ck) (h5 : ∀ x ∈ l, Pgs x.1.2.1) (h6 : set < 18446744073709551616) :
  fgtS.rel [mmA 0 1 2 al mp, iv ((k : Int) + 1), wv (set : Int)] (mmO al mp l ck) (.tup []) (mmO al (mp.set k (clr (mp[k]?.getD 0) set)) (l.filter fun x => !inS ((k : Int) + 1) set x.1) ck) := ⟨al, mp, l, ck, k, set, h0, h1, h2, h3, h4, h5, h6, rfl, rfl, rfl, rfl⟩
theorem encU_len (n : Nat) : (encU n).length = 1 := rfl
set_option maxHeartbeats 2000000 in
theorem fgt_ok : Ok Tryz.prog 109 fgtS := by
  refine fn_ok fgtS Tryz.func109 rfl rfl ?_
  rintro args ins res outs ⟨al, mp, l, ck, k, set, h0, h1, h2, h3, h4, h5, h6, rfl, rfl, rfl, rfl⟩
  refine ⟨by simp [Tryz.ntmps109], fun w0 V Bo mu0 => ?_⟩
  have hk : k < mp.length := by omega
  have hki : (k : Int) < mp.length := by omega
  have hp1 : (k : Int) + 1 - 1 = (k : Int) := by omega
  have e0 : encU mp[k] = [.int .u64 (mp[k] : Int)] := rfl
  have e1 := u64_andNot_nat mp[k] set (h2 _ (List.getElem_mem hk)) h6
  have e2 : mp[k]?.getD 0 = mp[k] := by simp [hk]
  have hset : ((mp.map encU).set k [.int .u64 ((clr mp[k] set : Nat) : Int)]) = (mp.set k (clr mp[k] set)).map encU := by rw [List.map_set]; rfl
  rw [show mp[k] &&& (18446744073709551615 - set) = clr mp[k] set from rfl] at e1
  rw [e2]
  repeat' (first
    | (with_reducible first | refine W_seq ?_ | refine endQ_ret ?_ | refine endQ_normal ?_)
    | ((with_reducible first | refine hK _ ?_ | refine hK _ _ ?_); clear hK K)
    | ((with_reducible refine idx_map2 hk ?_); simp only [go_sem, seval, reduceCtorEq, encU_len, e0, hset])
    | ((first | (with_reducible first | refine ops_cons (fun K hK => ?_) | refine opsd_cons (fun K hK => ?_) | refine ops_nil ?_ | refine fit_i64 (by omega) ?_ | refine fit_any ?_) | ((with_reducible refine opsd_nil ?_); refine And.intro (by kernel_rfl) ?_) | ((with_reducible refine callV_lend dlfS [2] dlf_ok rfl ?_); simp only [go_sem, seval, reduceCtorEq, hp1, e0, e1, hki, hset]; refine ⟨(by first | exact alOk_nil _ | exact alOk_f rfl), rfl, _, _, dlf_at l ck ((k : Int) + 1) set h4 h5 h6, ?_⟩) | with_reducible refine callV_snap ?_ | (with_reducible first | refine idx_map (by omega) ?_ | refine W_reg [(0, [3, 4, 5]), (1, [3, 4, 5]), (2, [])] ?_ | refine W_drw [(0, [3, 4, 5]), (1, [3, 4, 5]), (2, [])] (by kernel_rfl) ?_ | refine end_at0 ?_) | (with_reducible refine And.intro (fun h => ?_) (fun h => ?_)) | (with_reducible refine And.intro (by omega) ?_)); (try simp only [go_sem, seval, reduceCtorEq, hp1, e0, e1, hki, hset, dlfS, Tryz.ntmps109, Tryz.results109, fgtS]))
    | fail)
  refine end_at [0, 1, 2] ?_
  have f1 := encB.flat al
  have f2 := encUe.flat (mp.set k (clr mp[k] set))
  simp [go_sem, fgtS]
  exact ⟨by simpa [flatD] using f1, by simpa [flatD] using f2⟩
end Go.Proofs.YtnclclpfmldocaaGreat
