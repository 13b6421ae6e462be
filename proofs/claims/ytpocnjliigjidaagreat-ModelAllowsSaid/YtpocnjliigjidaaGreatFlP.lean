import Derived.Test.YtpocnjliigjidaaGreatFlM
import Derived.Test.YtpocnjliigjidaaGreatFlI
/- A flat memory opened: its values in a map; by the engine. -/
namespace Go.Proofs.YtpocnjliigjidaaGreat
open Go.RowKit
set_option maxRecDepth 100000
set_option linter.unusedSimpArgs false
set_option linter.unusedVariables false
abbrev lv143FlO : List (Nat × List Nat) := [(0, [1, 2]), (1, [1, 2, 3]), (2, [2, 3, 18, 19, 20]), (3, [2, 3, 18, 19, 20, 21]), (4, [2, 3, 5, 18, 19, 20]), (5, [2, 3, 18, 19, 20]), (6, [2, 3, 18, 19, 20]), (7, [2])]
def ClBS : Spec := { rel := fun args ins res outs => ∃ c : List Bool, c.length ≤ 1000000 ∧ args = [.d (.sl (c.map encDB))] ∧ ins = [] ∧ res = .row 0 1 0 c.length ∧ outs = [.rows 4 1 (c.map encDB)] }
theorem ClB_at (c : List Bool) (h : c.length ≤ 1000000) : ClBS.rel [.d (.sl (c.map encDB))] [] (.row 0 1 0 c.length) [.rows 4 1 (c.map encDB)] := ⟨c, h, rfl, rfl, rfl, rfl⟩
theorem ClB_ok : Ok Tryz.prog 156 ClBS := by
  refine fn_ok ClBS Tryz.func156 rfl rfl ?_
  rintro args ins res outs ⟨c, hc, rfl, rfl, rfl, rfl⟩
  refine ⟨by simp [Tryz.ntmps156], fun w0 V Bo mu0 => ?_⟩
  repeat' (first | refine sA ?_ | with_reducible refine W_tf rfl (fun h => ?_) (fun h => ?_) | ((with_reducible first | refine hK _ ?_ | refine hK _ _ ?_); clear hK K) | ((with_reducible refine And.intro (encB.rows _) ?_)) | ((first | refine sC ?_ | (with_reducible first | refine ops_cons (fun K hK => ?_) | refine W_reg [(0, [0]), (1, [0, 4]), (2, [2]), (3, [2])] ?_) | with_reducible refine callV_snap ?_ | with_reducible refine And.intro (fun h => ?_) (fun h => ?_) | with_reducible refine And.intro (by omega) ?_); (try simp only [go_sem, seval, reduceCtorEq, Tryz.ntmps156, Tryz.results156, ClBS])) | fail)
  · obtain rfl : c = [] := List.eq_nil_of_length_eq_zero h
    refine W_adopt 2 4 1 (by decide) (by simp [go_sem]) ?_
    refine W_ret (endQ_ret (end_at [0] ?_))
    simp [go_sem, Tryz.results156, ClBS]
  · refine W_ret (endQ_ret (end_at [1] ?_))
    have := encB.flat c
    simp [go_sem, Tryz.results156, ClBS]
    simpa [flatD] using this
def ClWS : Spec := { rel := fun args ins res outs => ∃ c : List Nat, c.length ≤ 1000000 ∧ args = [.d (.sl (c.map encU))] ∧ ins = [] ∧ res = .row 0 1 0 c.length ∧ outs = [.rows 24 1 (c.map encU)] }
theorem ClW_at (c : List Nat) (h : c.length ≤ 1000000) : ClWS.rel [.d (.sl (c.map encU))] [] (.row 0 1 0 c.length) [.rows 24 1 (c.map encU)] := ⟨c, h, rfl, rfl, rfl, rfl⟩
theorem ClW_ok : Ok Tryz.prog 157 ClWS := by
  refine fn_ok ClWS Tryz.func157 rfl rfl ?_
  rintro args ins res outs ⟨c, hc, rfl, rfl, rfl, rfl⟩
  refine ⟨by simp [Tryz.ntmps157], fun w0 V Bo mu0 => ?_⟩
  repeat' (first | refine sA ?_ | with_reducible refine W_tf rfl (fun h => ?_) (fun h => ?_) | ((with_reducible first | refine hK _ ?_ | refine hK _ _ ?_); clear hK K) | ((with_reducible refine And.intro (encUe.rows _) ?_)) | ((first | refine sC ?_ | (with_reducible first | refine ops_cons (fun K hK => ?_) | refine W_reg [(0, [0]), (1, [0, 4]), (2, [2]), (3, [2])] ?_) | with_reducible refine callV_snap ?_ | with_reducible refine And.intro (fun h => ?_) (fun h => ?_) | with_reducible refine And.intro (by omega) ?_); (try simp only [go_sem, seval, reduceCtorEq, Tryz.ntmps157, Tryz.results157, ClWS])) | fail)
  · obtain rfl : c = [] := List.eq_nil_of_length_eq_zero h
    refine W_adopt 2 24 1 (by decide) (by simp [go_sem]) ?_
    refine W_ret (endQ_ret (end_at [0] ?_))
    simp [go_sem, Tryz.results157, ClWS]
  · refine W_ret (endQ_ret (end_at [1] ?_))
    have := encUe.flat c
    simp [go_sem, Tryz.results157, ClWS]
    simpa [flatD] using this
def Srt (cs : List Cl) : Prop := cs.Pairwise Bef
theorem fIdx_none {k : K3} {l : List Me} (h : ∀ x ∈ l, ck3 x.1 ≠ k) : fIdx k l = none := by
  unfold fIdx
  rw [List.findIdx?_eq_none_iff]
  intro x hx
  simpa using h x hx
theorem bef_ne {a b : Cl} (h : Bef a b) : ck3 a ≠ ck3 b := by
  obtain ⟨p, g, w, v⟩ := a
  obtain ⟨p', g', w', v'⟩ := b
  simp only [ck3, ne_eq, Prod.mk.injEq, not_and]
  unfold Bef at h
  simp only at h
  omega
theorem open_step {cs : List Cl} (hs : Srt cs) (k : Nat) (hk : k < cs.length) : mput ((cs.take k).zipIdx) k cs[k] = ((cs.take (k + 1)).zipIdx, k + 1) := by
  unfold mput
  rw [fIdx_none]
  · simp only
    rw [List.take_succ_eq_append_getElem hk, List.zipIdx_append]
    simp [Nat.min_eq_left (Nat.le_of_lt hk)]
  · rintro ⟨c, i⟩ hx
    obtain ⟨h1, h2⟩ := List.mem_zipIdx' hx
    simp only [List.length_take] at h1
    rw [h2, List.getElem_take]
    exact bef_ne (List.pairwise_iff_getElem.1 hs i k (by omega) hk (by omega))
abbrev mmA (a b c : Nat) (al : List Bool) (mp : List Nat) : AV := .agg [.row a 1 0 al.length, .row b 1 0 mp.length, .mp c]
def openS : Spec := { rel := fun args ins res outs => ∃ (al : List Bool) (mp : List Nat) (cs : List Cl), al.length ≤ 1000000 ∧ mp.length ≤ 1000000 ∧ cs.length ≤ 1000000 ∧ Srt cs ∧ args = [fm al mp cs] ∧ ins = [] ∧ res = mmA 0 1 2 al mp ∧ outs = [.rows 4 1 (al.map encDB), .rows 24 1 (mp.map encU), mpO cs.zipIdx cs.length] }
theorem open_at (al : List Bool) (mp : List Nat) (cs : List Cl) (h1 : al.length ≤ 1000000) (h2 : mp.length ≤ 1000000) (h3 : cs.length ≤ 1000000) (h4 : Srt cs) : openS.rel [fm al mp cs] [] (mmA 0 1 2 al mp) [.rows 4 1 (al.map encDB), .rows 24 1 (mp.map encU), mpO cs.zipIdx cs.length] := ⟨al, mp, cs, h1, h2, h3, h4, rfl, rfl, rfl, rfl⟩
set_option maxHeartbeats 2000000 in
theorem open_ok : Ok Tryz.prog 143 openS := by
  refine fn_ok openS Tryz.func143 rfl rfl ?_
  rintro args ins res outs ⟨al, mp, cs, h1, h2, h3, h4, rfl, rfl, rfl, rfl⟩
  refine ⟨by simp [Tryz.ntmps143], fun w0 V Bo mu0 => ?_⟩
  repeat' (first | refine sA ?_ | with_reducible refine W_tf rfl (fun h => ?_) (fun h => ?_) | ((with_reducible first | refine hK _ ?_ | refine hK _ _ ?_); clear hK K) | ((refine ext_mmake (m := cs.length) rfl ?_ ?_ ?_) <;> simp only [go_sem, seval, reduceCtorEq]) | ((first | refine sC ?_ | (with_reducible first | refine ops_cons (fun K hK => ?_) | refine opsd_cons (fun K hK => ?_) | refine W_reg lv143FlO ?_ | refine W_drw lv143FlO (by kernel_rfl) ?_) | ((with_reducible refine opsd_nil ?_); refine And.intro (by kernel_rfl) ?_) | with_reducible refine callV_snap ?_ | ((with_reducible refine call_go ClBS ClB_ok ?_); refine ⟨alk, _, _, ClB_at al h1, ?_⟩) | ((with_reducible refine call_go ClWS ClW_ok ?_); refine ⟨alk, _, _, ClW_at mp h2, ?_⟩) | with_reducible refine And.intro (fun h => ?_) (fun h => ?_) | with_reducible refine And.intro (by omega) ?_); (try simp only [go_sem, seval, reduceCtorEq, lv143FlO, Tryz.ntmps143, Tryz.results143, openS])) | fail)
  refine W_loop (fun k : Nat => ⟨[(2, .ptr 1 0), (3, .ptr 5 0), (18, .d (.sl (cs.map encCl))), (19, iv cs.length), (20, iv k)], [some (.box 38 [.d (.sl (al.map encDB)), .d (.sl (mp.map encU)), .d (.sl (cs.map encCl))]), some (.box 159 [.nil, .nil, .any]), some (.rows 4 1 (al.map encDB)), some (.rows 24 1 (mp.map encU)), some (mpO (cs.take k).zipIdx k), some (.box 159 [.row 2 1 0 al.length, .row 3 1 0 mp.length, .mp 4])]⟩) (fun k => k ≤ cs.length) (fun k => cs.length - k) 0 (Nat.zero_le _) [0, 1, 2, 3, 4, 5] ?_ ?_
  · simp [go_sem]
  intro k hk
  by_cases hlt : k < cs.length
  · have hki : (k : Int) < cs.length := by omega
    have hst := open_step h4 k hlt
    generalize hg : (cs.take (k + 1)).zipIdx = L' at hst
    generalize (cs.take k).zipIdx = L at hst ⊢
    obtain ⟨⟨cp, cg, cw, cv⟩, hc⟩ : ∃ c, cs[k] = c := ⟨_, rfl⟩
    rw [hc] at hst
    have e0 : encCl cs[k] = [.int .i64 cp, .int .i64 cg, .int .i64 cw, .int .u64 (cv : Int)] := by rw [hc]; rfl
    repeat' (first | refine sA ?_ | with_reducible refine W_tf rfl (fun h => ?_) (fun h => ?_) | ((with_reducible first | refine hK _ ?_ | refine hK _ _ ?_); clear hK K) | ((refine ext_mput (cp, cg, cw, cv) rfl rfl rfl rfl rfl rfl ?_); simp only [go_sem, seval, reduceCtorEq, hst]) | ((first | refine sB ?_ | (with_reducible first | refine ops_cons (fun K hK => ?_) | refine opsd_cons (fun K hK => ?_) | refine W_reg lv143FlO ?_ | refine W_drw lv143FlO (by kernel_rfl) ?_) | ((with_reducible refine opsd_nil ?_); refine And.intro (by kernel_rfl) ?_) | with_reducible refine callV_snap ?_ | ((with_reducible refine call_go keyOfS keyOf_ok ?_); refine ⟨alk, _, _, keyOf_at (cp, cg, cw, cv), ?_⟩) | with_reducible refine And.intro (fun h => ?_) (fun h => ?_) | with_reducible refine And.intro (by omega) ?_); (try simp only [go_sem, seval, reduceCtorEq, hki, e0, lv143FlO, Tryz.ntmps143, Tryz.results143, openS])) | fail)
    refine ⟨k + 1, [0, 1, 2, 3, 4, 5], by omega, by omega, ?_⟩
    simp [go_sem, hg]
  · have hki : ¬ (k : Int) < cs.length := by omega
    obtain rfl : k = cs.length := by omega
    repeat' (first | refine sA ?_ | with_reducible refine W_tf rfl (fun h => ?_) (fun h => ?_) | ((with_reducible first | refine hK _ ?_ | refine hK _ _ ?_); clear hK K) | ((first | refine sC ?_ | (with_reducible first | refine ops_cons (fun K hK => ?_) | refine opsd_cons (fun K hK => ?_) | refine W_reg lv143FlO ?_ | refine W_drw lv143FlO (by kernel_rfl) ?_) | ((with_reducible refine opsd_nil ?_); refine And.intro (by kernel_rfl) ?_) | with_reducible refine callV_snap ?_ | with_reducible refine And.intro (fun h => ?_) (fun h => ?_) | with_reducible refine And.intro (by omega) ?_); (try simp only [go_sem, seval, reduceCtorEq, hki, List.take_length, lv143FlO, Tryz.ntmps143, Tryz.results143, openS])) | fail)
    refine W_ret (endQ_ret (end_at [2, 3, 4] ?_))
    have f1 := encB.flat al
    have f2 := encUe.flat mp
    simp [go_sem, Tryz.results143, openS]
    exact ⟨by simpa [flatD] using f1, by simpa [flatD] using f2⟩
end Go.Proofs.YtpocnjliigjidaaGreat
namespace Go.Proofs.YtpocnjliigjidaaGreat
open Go.RowKit
set_option maxRecDepth 100000
set_option linter.unusedSimpArgs false
set_option linter.unusedVariables false
abbrev lv159FlP : List (Nat × List Nat) := [(0, [0, 1, 7]), (1, [0, 1, 7, 9]), (2, [0, 1, 4, 5, 7]), (3, [0, 1, 4, 7, 16]), (4, [0, 1, 7])]
def inS (p : Int) (set : Nat) (c : Cl) : Bool := decide (c.1 = p) && set.testBit c.2.1.toNat
def fg1S : Spec := { rel := fun args ins res outs => ∃ (c : Cl) (p : Int) (set : Nat), set < 18446744073709551616 ∧ Pgs c.2.1 ∧ args = [keyA c.1 c.2.1 c.2.2.1, wv (c.2.2.2 : Int), .dp [.int .i64 p], .dp [.int .u64 (set : Int)]] ∧ ins = [] ∧ res = bv (inS p set c) ∧ outs = [] }
theorem fg1_at (c : Cl) (p : Int) (set : Nat) (h1 : set < 18446744073709551616) (h2 : Pgs c.2.1) : fg1S.rel [keyA c.1 c.2.1 c.2.2.1, wv (c.2.2.2 : Int), .dp [.int .i64 p], .dp [.int .u64 (set : Int)]] [] (bv (inS p set c)) [] := ⟨c, p, set, h1, h2, rfl, rfl, rfl, rfl⟩
set_option maxHeartbeats 1000000 in
theorem fg1_ok : Ok Tryz.prog 160 fg1S := by
  refine fn_ok fg1S Tryz.func160 rfl rfl ?_
  rintro args ins res outs ⟨⟨cp, cg, cw, cv⟩, p, set, h1, ⟨h2, h3⟩, rfl, rfl, rfl, rfl⟩
  refine ⟨by simp [Tryz.ntmps160], fun w0 V Bo mu0 => ?_⟩
  obtain ⟨g, rfl⟩ : ∃ g : Nat, cg = (g : Int) := ⟨cg.toNat, by dsimp only at h2; omega⟩
  have hg : g < 64 := by dsimp only at h3; omega
  by_cases e1 : cp = p
  · cases hb : set.testBit g with
    | true =>
      have hne : ¬ bits .and .u64 (set : Int) (pgM g g : Int) = 0 := by rw [and_bit0 h1 hg, hb]; simp
      rw [show inS p set (cp, (g : Int), cw, cv) = true by simp [inS, e1, hb]]
      repeat' (first | refine sA ?_ | ((with_reducible first | refine hK _ ?_ | refine hK _ _ ?_); clear hK K) | ((first | refine sB ?_ | (with_reducible first | refine ops_cons (fun K hK => ?_) | refine opsd_cons (fun K hK => ?_) | refine W_reg [(0, [2, 3, 4]), (1, [6])] ?_ | refine W_drw [(0, [2, 3, 4]), (1, [6])] (by kernel_rfl) ?_) | ((with_reducible refine opsd_nil ?_); refine And.intro (by kernel_rfl) ?_) | with_reducible refine callV_snap ?_ | ((with_reducible refine call_go pagesS pages_ok ?_); refine ⟨alk, _, _, pages_at g g (Nat.le_refl _) hg, ?_⟩) | with_reducible refine And.intro (fun h => ?_) (fun h => ?_) | with_reducible refine And.intro (by omega) ?_); (try simp only [go_sem, seval, reduceCtorEq, e1, hne, Tryz.ntmps160, Tryz.results160, fg1S])) | fail)
    | false =>
      have hne : bits .and .u64 (set : Int) (pgM g g : Int) = 0 := by rw [and_bit0 h1 hg, hb]
      rw [show inS p set (cp, (g : Int), cw, cv) = false by simp [inS, hb]]
      repeat' (first | refine sA ?_ | ((with_reducible first | refine hK _ ?_ | refine hK _ _ ?_); clear hK K) | ((first | refine sB ?_ | (with_reducible first | refine ops_cons (fun K hK => ?_) | refine opsd_cons (fun K hK => ?_) | refine W_reg [(0, [2, 3, 4]), (1, [6])] ?_ | refine W_drw [(0, [2, 3, 4]), (1, [6])] (by kernel_rfl) ?_) | ((with_reducible refine opsd_nil ?_); refine And.intro (by kernel_rfl) ?_) | with_reducible refine callV_snap ?_ | ((with_reducible refine call_go pagesS pages_ok ?_); refine ⟨alk, _, _, pages_at g g (Nat.le_refl _) hg, ?_⟩) | with_reducible refine And.intro (fun h => ?_) (fun h => ?_) | with_reducible refine And.intro (by omega) ?_); (try simp only [go_sem, seval, reduceCtorEq, e1, hne, Tryz.ntmps160, Tryz.results160, fg1S])) | fail)
  · rw [show inS p set (cp, (g : Int), cw, cv) = false by simp [inS, e1]]
    repeat' (first | refine sA ?_ | ((with_reducible first | refine hK _ ?_ | refine hK _ _ ?_); clear hK K) | ((first | refine sB ?_ | (with_reducible first | refine ops_cons (fun K hK => ?_) | refine opsd_cons (fun K hK => ?_) | refine W_reg [(0, [2, 3, 4]), (1, [6])] ?_ | refine W_drw [(0, [2, 3, 4]), (1, [6])] (by kernel_rfl) ?_) | ((with_reducible refine opsd_nil ?_); refine And.intro (by kernel_rfl) ?_) | with_reducible refine callV_snap ?_ | with_reducible refine And.intro (fun h => ?_) (fun h => ?_) | with_reducible refine And.intro (by omega) ?_); (try simp only [go_sem, seval, reduceCtorEq, e1, Tryz.ntmps160, Tryz.results160, fg1S])) | fail)
structure Mok (l : List Me) (ck : Nat) : Prop where
  kn : (l.map fun x => ck3 x.1).Nodup
  sn : (l.map (·.2)).Nodup
  lt : ∀ x ∈ l, x.2 < ck
theorem nodup_inj {α β : Type} {f : α → β} {l : List α} (h : (l.map f).Nodup) {x y : α} (hx : x ∈ l) (hy : y ∈ l) (he : f x = f y) : x = y := by
  induction l with
  | nil => cases hx
  | cons a l ih =>
    rw [List.map_cons, List.nodup_cons] at h
    rcases List.mem_cons.1 hx with ha | hx
    · rcases List.mem_cons.1 hy with hb | hy
      · rw [ha, hb]
      · exact absurd (List.mem_map.2 ⟨y, hy, by rw [← he, ha]⟩) h.1
    · rcases List.mem_cons.1 hy with hb | hy
      · exact absurd (List.mem_map.2 ⟨x, hx, by rw [he, hb]⟩) h.1
      · exact ih h.2 hx hy
theorem Mok.sub {l : List Me} {ck : Nat} (h : Mok l ck) (f : Me → Bool) : Mok (l.filter f) ck :=
  ⟨h.kn.sublist (List.filter_sublist.map _), h.sn.sublist (List.filter_sublist.map _), fun x hx => h.lt x (List.mem_filter.1 hx).1⟩
theorem mdel_filter {k : K3} : ∀ {l : List Me}, (l.map fun x => ck3 x.1).Nodup → mdel l k = l.filter fun x => !(ck3 x.1 == k)
  | [], _ => rfl
  | x :: l, h => by
    rw [List.map_cons, List.nodup_cons] at h
    have ih := mdel_filter (k := k) h.2
    by_cases hk : ck3 x.1 = k
    · have e : fIdx k (x :: l) = some 0 := by simp [fIdx, List.findIdx?_cons, hk]
      rw [mdel, e]
      simp only [List.eraseIdx_cons_zero]
      rw [List.filter_cons_of_neg (by simp [hk]), List.filter_eq_self.2]
      intro y hy
      have : ck3 y.1 ≠ k := fun e => h.1 (List.mem_map.2 ⟨y, hy, e.trans hk.symm⟩)
      simpa using this
    · have e : fIdx k (x :: l) = (fIdx k l).map (· + 1) := by
        have : (ck3 x.1 == k) = false := by simpa using hk
        simp [fIdx, List.findIdx?_cons, this]
      rw [List.filter_cons_of_pos (by simpa using hk), ← ih, mdel, e, mdel]
      cases fIdx k l <;> simp
def lef (f : Cl → Bool) (l : List Me) (seen : List Nat) : List Me := l.filter fun x => !(decide (x.2 ∈ seen) && f x.1)
theorem lef_nil (f : Cl → Bool) (l : List Me) : lef f l [] = l := by simp [lef]
theorem lef_no {f : Cl → Bool} {l : List Me} {ck : Nat} (h : Mok l ck) {seen : List Nat} {x : Me} (hx : x ∈ l) (hf : f x.1 = false) : lef f l (seen ++ [x.2]) = lef f l seen := by
  unfold lef
  refine List.filter_congr fun y hy => ?_
  by_cases he : y.2 = x.2
  · obtain rfl := nodup_inj h.sn hy hx he
    simp [hf]
  · simp [he]
theorem lef_yes {f : Cl → Bool} {l : List Me} {ck : Nat} (h : Mok l ck) {seen : List Nat} {x : Me} (hx : x ∈ l) (hf : f x.1 = true) : mdel (lef f l seen) (ck3 x.1) = lef f l (seen ++ [x.2]) := by
  unfold lef
  rw [mdel_filter (h.sub _).kn, List.filter_filter]
  refine List.filter_congr fun y hy => ?_
  by_cases he : y.2 = x.2
  · obtain rfl := nodup_inj h.sn hy hx he
    simp [hf]
  · have : ck3 y.1 ≠ ck3 x.1 := fun e => he (by rw [nodup_inj h.kn hy hx e])
    simp [he, this]
theorem lef_all {f : Cl → Bool} {l : List Me} {seen : List Nat} (h : ∀ x ∈ lef f l seen, x.2 ∈ seen) : lef f l seen = l.filter fun x => !f x.1 := by
  unfold lef
  refine List.filter_congr fun y hy => ?_
  by_cases hm : y.2 ∈ seen
  · simp [hm]
  · have : y ∈ lef f l seen := List.mem_filter.2 ⟨hy, by simp [hm]⟩
    exact absurd (h y this) hm
theorem flt_lt {α : Type} {p q : α → Bool} : ∀ {l : List α} {x : α}, (∀ y ∈ l, q y = true → p y = true) → x ∈ l → p x = true → q x = false → (l.filter q).length < (l.filter p).length
  | a :: l, x, himp, hx, hp, hq => by
    have hle : (l.filter q).length ≤ (l.filter p).length := by
      rw [← List.countP_eq_length_filter, ← List.countP_eq_length_filter]
      exact List.countP_mono_left fun y hy h => himp y (List.mem_cons_of_mem _ hy) h
    rcases List.mem_cons.1 hx with ha | hx
    · subst ha
      rw [List.filter_cons_of_neg (by simp [hq]), List.filter_cons_of_pos hp, List.length_cons]
      omega
    · have ih := flt_lt (fun y hy h => himp y (List.mem_cons_of_mem _ hy) h) hx hp hq
      have ha := himp a List.mem_cons_self
      cases h1 : q a with
      | true => rw [List.filter_cons_of_pos h1, List.filter_cons_of_pos (ha h1)]; simpa using ih
      | false =>
        rw [List.filter_cons_of_neg (by simp [h1])]
        cases h2 : p a with
        | true => rw [List.filter_cons_of_pos h2, List.length_cons]; omega
        | false => rw [List.filter_cons_of_neg (by simp [h2])]; exact ih
def unsn (l : List Me) (seen : List Nat) : Nat := (l.filter fun x => decide (x.2 ∉ seen)).length
theorem unsn_lt {l : List Me} {seen : List Nat} {x : Me} (hx : x ∈ l) (hs : x.2 ∉ seen) : unsn l (seen ++ [x.2]) < unsn l seen :=
  flt_lt (x := x) (fun y _ h => by simp only [List.mem_append, not_or, decide_eq_true_eq] at h ⊢; exact h.1) hx (by simpa using hs) (by simp)
def dlfS : Spec := { rel := fun args ins res outs => ∃ (l : List Me) (ck : Nat) (p : Int) (set : Nat), Mok l ck ∧ (∀ x ∈ l, Pgs x.1.2.1) ∧ set < 18446744073709551616 ∧ args = [.mp 0, .fn 160 [.dp [.int .i64 p], .dp [.int .u64 (set : Int)]]] ∧ ins = [mpO l ck] ∧ res = .tup [] ∧ outs = [mpO (l.filter fun x => !inS p set x.1) ck] }
theorem dlf_at (l : List Me) (ck : Nat) (p : Int) (set : Nat) (h1 : Mok l ck) (h2 : ∀ x ∈ l, Pgs x.1.2.1) (h3 : set < 18446744073709551616) : dlfS.rel [.mp 0, .fn 160 [.dp [.int .i64 p], .dp [.int .u64 (set : Int)]]] [mpO l ck] (.tup []) [mpO (l.filter fun x => !inS p set x.1) ck] := ⟨l, ck, p, set, h1, h2, h3, rfl, rfl, rfl, rfl⟩
set_option maxHeartbeats 2000000 in
theorem dlf_ok : Ok Tryz.prog 159 dlfS := by
  refine fn_ok dlfS Tryz.func159 rfl rfl ?_
  rintro args ins res outs ⟨l, ck, p, set, h1, h2, h3, rfl, rfl, rfl, rfl⟩
  refine ⟨by simp [Tryz.ntmps159], fun w0 V Bo mu0 => ?_⟩
  repeat' (first | refine sA ?_ | with_reducible refine W_tf rfl (fun h => ?_) (fun h => ?_) | ((with_reducible first | refine hK _ ?_ | refine hK _ _ ?_); clear hK K) | ((refine ext_mrange rfl ?_ rfl rfl ?_) <;> simp only [go_sem, seval, reduceCtorEq]) | ((first | refine sB ?_ | (with_reducible first | refine ops_cons (fun K hK => ?_) | refine W_reg lv159FlP ?_) | with_reducible refine callV_snap ?_ | with_reducible refine And.intro (fun h => ?_) (fun h => ?_) | with_reducible refine And.intro (by omega) ?_); (try simp only [go_sem, seval, reduceCtorEq, lv159FlP, Tryz.ntmps159, Tryz.results159, dlfS])) | fail)
  refine W_loop (fun seen : List Nat => ⟨[(0, .mp 0), (1, .fn 160 [.dp [.int .i64 p], .dp [.int .u64 (set : Int)]]), (7, .ptr 1 0)], [some (mpO (lef (inS p set) l seen) ck), some (.iter 0 ck seen ck)]⟩) (fun _ => True) (fun seen => unsn l seen) [] trivial [0, 1] ?_ ?_
  · simp [go_sem, lef_nil]
  intro seen _
  have hM := h1.sub (fun x => !(decide (x.2 ∈ seen) && inS p set x.1))
  refine W_seq ?_
  refine W_next [(1, [0, 1, 7, 9])] rfl rfl rfl ?_ rfl rfl rfl ?_ hM.lt (Nat.le_refl _) (fun hov => ?_) (fun x hx => ?_)
  · simp only [go_sem, seval, reduceCtorEq]
  · simp only [go_sem, seval, reduceCtorEq]
  · have he := lef_all hov
    rw [he]
    repeat' (first | refine sA ?_ | with_reducible refine W_tf rfl (fun h => ?_) (fun h => ?_) | ((with_reducible first | refine hK _ ?_ | refine hK _ _ ?_); clear hK K) | ((first | refine sC ?_ | (with_reducible first | refine ops_cons (fun K hK => ?_) | refine W_reg lv159FlP ?_) | with_reducible refine callV_snap ?_ | with_reducible refine And.intro (fun h => ?_) (fun h => ?_) | with_reducible refine And.intro (by omega) ?_); (try simp only [go_sem, seval, reduceCtorEq, lv159FlP, Tryz.ntmps159, Tryz.results159, dlfS])) | fail)
    refine end_at [0] ?_
    simp [go_sem, dlfS]
  · obtain ⟨hx1, hx2⟩ := hx
    have hxl := (List.mem_filter.1 hx1).1
    have hpg := h2 _ hxl
    have hst : ((lef (inS p set) l seen).map (·.2)).Nodup := hM.sn
    have hne := lef_no (f := inS p set) h1 (seen := seen) hxl
    have hye := lef_yes (f := inS p set) h1 (seen := seen) hxl
    have hms := unsn_lt hxl hx2
    cases hb : inS p set x.1 with
    | false =>
      repeat' (first | refine sA ?_ | with_reducible refine W_tf rfl (fun h => ?_) (fun h => ?_) | ((with_reducible first | refine hK _ ?_ | refine hK _ _ ?_); clear hK K) | ((refine ext_mentry rfl ?_ rfl rfl rfl hx1 hst ?_) <;> simp only [go_sem, seval, reduceCtorEq]) | ((first | refine sB ?_ | (with_reducible first | refine ops_cons (fun K hK => ?_) | refine W_reg lv159FlP ?_) | with_reducible refine callV_snap ?_ | ((with_reducible refine call_go fg1S fg1_ok ?_); refine ⟨alk, _, _, fg1_at x.1 p set h3 hpg, ?_⟩) | with_reducible refine And.intro (fun h => ?_) (fun h => ?_) | with_reducible refine And.intro (by omega) ?_); (try simp only [go_sem, seval, reduceCtorEq, hb, lv159FlP, Tryz.ntmps159, Tryz.results159, dlfS])) | fail)
      refine ⟨seen ++ [x.2], [0, 1], hms, ?_⟩
      simp [go_sem, hne hb]
    | true =>
      repeat' (first | refine sA ?_ | with_reducible refine W_tf rfl (fun h => ?_) (fun h => ?_) | ((with_reducible first | refine hK _ ?_ | refine hK _ _ ?_); clear hK K) | ((refine ext_mentry rfl ?_ rfl rfl rfl hx1 hst ?_) <;> simp only [go_sem, seval, reduceCtorEq]) | ((refine ext_mdel (ck3 x.1) rfl ?_ rfl rfl rfl ?_) <;> simp only [go_sem, seval, reduceCtorEq]) | ((first | refine sB ?_ | (with_reducible first | refine ops_cons (fun K hK => ?_) | refine W_reg lv159FlP ?_) | with_reducible refine callV_snap ?_ | ((with_reducible refine call_go fg1S fg1_ok ?_); refine ⟨alk, _, _, fg1_at x.1 p set h3 hpg, ?_⟩) | with_reducible refine And.intro (fun h => ?_) (fun h => ?_) | with_reducible refine And.intro (by omega) ?_); (try simp only [go_sem, seval, reduceCtorEq, hb, lv159FlP, Tryz.ntmps159, Tryz.results159, dlfS])) | fail)
      refine ⟨seen ++ [x.2], [0, 1], hms, ?_⟩
      simp [go_sem, hye hb]
def clr (x s : Nat) : Nat := x &&& (18446744073709551615 - s)
theorem clr_lt {x : Nat} (s : Nat) (h : x < 18446744073709551616) : clr x s < 18446744073709551616 := Nat.lt_of_le_of_lt Nat.and_le_left h
theorem clr_bit (x s i : Nat) (hs : s < 18446744073709551616) (hx : x < 18446744073709551616) : (clr x s).testBit i = (x.testBit i && !s.testBit i) := by
  unfold clr
  rw [Nat.testBit_and, show (18446744073709551615 : Nat) - s = 2 ^ 64 - (s + 1) by omega, Nat.testBit_two_pow_sub_succ (show s < 2 ^ 64 by omega)]
  by_cases h : i < 64
  · simp [h]
  · have : x.testBit i = false := Nat.testBit_lt_two_pow (Nat.lt_of_lt_of_le hx (show (2 : Nat) ^ 64 ≤ 2 ^ i from Nat.pow_le_pow_right (by decide) (by omega)))
    simp [this]
abbrev mmO (al : List Bool) (mp : List Nat) (l : List Me) (ck : Nat) : List Ob := [.rows 4 1 (al.map encDB), .rows 24 1 (mp.map encU), mpO l ck]
def fgtS : Spec := { rel := fun args ins res outs => ∃ (al : List Bool) (mp : List Nat) (l : List Me) (ck k set : Nat), al.length ≤ 1000000 ∧ mp.length = 8 ∧ U64 mp ∧ k < 8 ∧ Mok l ck ∧ (∀ x ∈ l, Pgs x.1.2.1) ∧ set < 18446744073709551616 ∧
  args = [mmA 0 1 2 al mp, iv ((k : Int) + 1), wv (set : Int)] ∧ ins = mmO al mp l ck ∧ res = .tup [] ∧ outs = mmO al (mp.set k (clr (mp[k]?.getD 0) set)) (l.filter fun x => !inS ((k : Int) + 1) set x.1) ck }
theorem fgt_at (al : List Bool) (mp : List Nat) (l : List Me) (ck k set : Nat) (h0 : al.length ≤ 1000000) (h1 : mp.length = 8) (h2 : U64 mp) (h3 : k < 8) (h4 : Mok l ck) (h5 : ∀ x ∈ l, Pgs x.1.2.1) (h6 : set < 18446744073709551616) :
  fgtS.rel [mmA 0 1 2 al mp, iv ((k : Int) + 1), wv (set : Int)] (mmO al mp l ck) (.tup []) (mmO al (mp.set k (clr (mp[k]?.getD 0) set)) (l.filter fun x => !inS ((k : Int) + 1) set x.1) ck) := ⟨al, mp, l, ck, k, set, h0, h1, h2, h3, h4, h5, h6, rfl, rfl, rfl, rfl⟩
theorem encU_len (n : Nat) : (encU n).length = 1 := rfl
set_option maxHeartbeats 2000000 in
theorem fgt_ok : Ok Tryz.prog 146 fgtS := by
  refine fn_ok fgtS Tryz.func146 rfl rfl ?_
  rintro args ins res outs ⟨al, mp, l, ck, k, set, h0, h1, h2, h3, h4, h5, h6, rfl, rfl, rfl, rfl⟩
  refine ⟨by simp [Tryz.ntmps146], fun w0 V Bo mu0 => ?_⟩
  have hk : k < mp.length := by omega
  have hki : (k : Int) < mp.length := by omega
  have hp1 : (k : Int) + 1 - 1 = (k : Int) := by omega
  have e0 : encU mp[k] = [.int .u64 (mp[k] : Int)] := rfl
  have e1 := u64_andNot_nat mp[k] set (h2 _ (List.getElem_mem hk)) h6
  have e2 : mp[k]?.getD 0 = mp[k] := by simp [hk]
  have hset : ((mp.map encU).set k [.int .u64 ((clr mp[k] set : Nat) : Int)]) = (mp.set k (clr mp[k] set)).map encU := by rw [List.map_set]; rfl
  rw [show mp[k] &&& (18446744073709551615 - set) = clr mp[k] set from rfl] at e1
  rw [e2]
  repeat' (first | refine sA ?_ | ((with_reducible first | refine hK _ ?_ | refine hK _ _ ?_); clear hK K) | ((with_reducible refine idx_map2 hk ?_); simp only [go_sem, seval, reduceCtorEq, encU_len, e0, hset]) | ((first | refine sC ?_ | (with_reducible first | refine ops_cons (fun K hK => ?_) | refine opsd_cons (fun K hK => ?_) | refine W_reg [(0, [3, 4, 5]), (1, [3, 4, 5]), (2, [])] ?_ | refine W_drw [(0, [3, 4, 5]), (1, [3, 4, 5]), (2, [])] (by kernel_rfl) ?_) | ((with_reducible refine opsd_nil ?_); refine And.intro (by kernel_rfl) ?_) | ((with_reducible refine callV_lend dlfS [2] dlf_ok rfl ?_); simp only [go_sem, seval, reduceCtorEq, hp1, e0, e1, hki, hset]; refine ⟨alk, rfl, _, _, dlf_at l ck ((k : Int) + 1) set h4 h5 h6, ?_⟩) | with_reducible refine callV_snap ?_ | with_reducible refine And.intro (fun h => ?_) (fun h => ?_) | with_reducible refine And.intro (by omega) ?_); (try simp only [go_sem, seval, reduceCtorEq, hp1, e0, e1, hki, hset, dlfS, Tryz.ntmps146, Tryz.results146, fgtS])) | fail)
  refine end_at [0, 1, 2] ?_
  have f1 := encB.flat al
  have f2 := encUe.flat (mp.set k (clr mp[k] set))
  simp [go_sem, fgtS]
  exact ⟨by simpa [flatD] using f1, by simpa [flatD] using f2⟩
end Go.Proofs.YtpocnjliigjidaaGreat
