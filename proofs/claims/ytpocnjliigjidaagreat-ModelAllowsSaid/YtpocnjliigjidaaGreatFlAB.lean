import Derived.Test.YtpocnjliigjidaaGreatFlZ
/- A flat memory: Write, by the engine. -/
namespace Go.Proofs.YtpocnjliigjidaaGreat
open Go.RowKit
set_option maxRecDepth 100000
set_option linter.unusedSimpArgs false
set_option linter.unusedVariables false
abbrev lv119FlAB : List (Nat × List Nat) := [(0, [1, 2, 3, 4, 5, 10]), (1, [1, 2, 3, 4, 5, 10, 12]), (2, [1, 2, 3, 4, 5, 10, 12, 21]), (3, [10, 11]), (4, [1, 2, 3, 4, 10, 13]), (5, [4, 10, 13, 14]), (6, [4, 10, 13, 14, 32]), (7, [10, 13]), (8, [10, 13]), (9, [10, 11])]
def rmK (cs : List Cl) (k : K3) : List Cl := cs.filter fun c => !(ck3 c == k)
def putC (cs : List Cl) (c : Cl) : List Cl := cs.takeWhile (fun x => decide (Bef x c)) ++ c :: cs.dropWhile (fun x => decide (Bef x c))
def wrC (cs : List Cl) (c : Cl) : List Cl := if c.2.2.2 = 0 then rmK cs (ck3 c) else putC (rmK cs (ck3 c)) c
theorem rmK_srt {cs : List Cl} (h : Srt cs) (k : K3) : Srt (rmK cs k) := h.sublist List.filter_sublist
theorem rmK_ne {cs : List Cl} {k : K3} {c : Cl} (h : c ∈ rmK cs k) : ck3 c ≠ k := by
  have := (List.mem_filter.1 h).2
  simpa using this
theorem bef_tri {a b : Cl} (h : ck3 a ≠ ck3 b) (hn : ¬ Bef a b) : Bef b a := by
  obtain ⟨p, g, w, v⟩ := a
  obtain ⟨p', g', w', v'⟩ := b
  simp only [ck3, ne_eq, Prod.mk.injEq, not_and] at h
  unfold Bef at *
  dsimp only at *
  omega
theorem putC_perm (cs : List Cl) (c : Cl) : (putC cs c).Perm (c :: cs) := by
  unfold putC
  refine (List.perm_middle).trans ?_
  rw [List.takeWhile_append_dropWhile]
theorem putC_srt {cs : List Cl} {c : Cl} (h : Srt cs) (hn : ∀ x ∈ cs, ck3 x ≠ ck3 c) : Srt (putC cs c) := by
  unfold putC Srt
  have htw : ∀ x ∈ cs.takeWhile (fun x => decide (Bef x c)), Bef x c := fun x hx => by
    have := List.all_eq_true.1 (List.all_takeWhile (p := fun x => decide (Bef x c)) (l := cs)) x hx
    simpa using this
  have hdw : ∀ x ∈ cs.dropWhile (fun x => decide (Bef x c)), Bef c x := by
    cases hd : cs.dropWhile (fun x => decide (Bef x c)) with
    | nil => simp
    | cons y r =>
      have hsub : (y :: r).Sublist cs := hd ▸ List.dropWhile_sublist _
      have hp : (y :: r).Pairwise Bef := List.Pairwise.sublist hsub h
      obtain ⟨p1, p2⟩ := List.pairwise_cons.1 hp
      have hy : ¬ Bef y c := by
        have := List.head_dropWhile_not (p := fun x => decide (Bef x c)) (l := cs) (by rw [hd]; simp)
        simpa [hd] using this
      have hyc : Bef c y := bef_tri (hn y (hsub.subset (by simp))) hy
      intro x hx
      rcases List.mem_cons.1 hx with rfl | hx
      · exact hyc
      · exact bef_trans hyc (p1 x hx)
  rw [List.pairwise_append]
  refine ⟨List.Pairwise.sublist (List.takeWhile_sublist _) h, List.pairwise_cons.2 ⟨hdw, List.Pairwise.sublist (List.dropWhile_sublist _) h⟩, fun a ha b hb => ?_⟩
  rcases List.mem_cons.1 hb with rfl | hb
  · exact htw a ha
  · exact bef_trans (htw a ha) (hdw b hb)
theorem wrC_srt {cs : List Cl} (h : Srt cs) (c : Cl) : Srt (wrC cs c) := by
  unfold wrC
  split
  · exact rmK_srt h _
  · exact putC_srt (rmK_srt h _) (fun x hx => rmK_ne hx)
theorem mput_ok {l : List Me} {ck : Nat} (hM : Mok l ck) (c : Cl) : Mok (mput l ck c).1 (mput l ck c).2 ∧ ((mput l ck c).1.map (·.1)).Perm (c :: rmK (l.map (·.1)) (ck3 c)) ∧ (mput l ck c).1.length ≤ l.length + 1 := by
  unfold mput
  cases hf : fIdx (ck3 c) l with
  | none =>
    have hno : ∀ x ∈ l, ck3 x.1 ≠ ck3 c := by
      unfold fIdx at hf
      rw [List.findIdx?_eq_none_iff] at hf
      intro x hx
      have := hf x hx
      simpa using this
    refine ⟨⟨?_, ?_, fun x hx => ?_⟩, ?_, by simp⟩
    · rw [List.map_append, List.nodup_append]
      refine ⟨hM.kn, by simp, fun a ha b hb e => ?_⟩
      obtain ⟨x, hx, rfl⟩ := List.mem_map.1 ha
      simp at hb
      exact hno x hx (e.trans hb)
    · rw [List.map_append, List.nodup_append]
      refine ⟨hM.sn, by simp, fun a ha b hb e => ?_⟩
      obtain ⟨x, hx, rfl⟩ := List.mem_map.1 ha
      simp at hb
      have := hM.lt x hx
      omega
    · rcases List.mem_append.1 hx with hx | hx
      · exact Nat.lt_succ_of_lt (hM.lt x hx)
      · simp at hx; subst hx; exact Nat.lt_succ_self _
    · have hr : rmK (l.map (·.1)) (ck3 c) = l.map (·.1) := by
        unfold rmK
        refine List.filter_eq_self.2 fun x hx => ?_
        obtain ⟨y, hy, rfl⟩ := List.mem_map.1 hx
        simpa using hno y hy
      rw [hr]
      simp only [List.map_append, List.map_cons, List.map_nil]
      exact List.perm_append_singleton _ _
  | some i =>
    obtain ⟨hl, hk⟩ := fIdx_lt hf
    have hsp : l = l.take i ++ l[i] :: l.drop (i + 1) := by rw [← List.drop_eq_getElem_cons hl, List.take_append_drop]
    have hmod : l.modify i (fun x => (c, x.2)) = l.take i ++ (c, l[i].2) :: l.drop (i + 1) := by
      rw [List.modify_eq_take_cons_drop hl]
    simp only
    rw [hmod]
    have hkn := hM.kn
    have hsn := hM.sn
    rw [hsp] at hkn hsn
    simp only [List.map_append, List.map_cons] at hkn hsn
    generalize l.take i = A at *
    generalize l.drop (i + 1) = B at *
    generalize l[i] = y at *
    subst hsp
    refine ⟨⟨by simpa [hk] using hkn, by simpa using hsn, fun x hx => ?_⟩, ?_, by simp⟩
    · rcases List.mem_append.1 hx with h | h
      · exact hM.lt x (by simp [h])
      · rcases List.mem_cons.1 h with rfl | h
        · exact hM.lt y (by simp)
        · exact hM.lt x (by simp [h])
    · rw [List.nodup_append] at hkn
      obtain ⟨n1, n2, n3⟩ := hkn
      rw [List.nodup_cons] at n2
      have hA : ∀ x ∈ A, ck3 x.1 ≠ ck3 c := fun x hx e => n3 (ck3 x.1) (List.mem_map_of_mem (f := fun x : Me => ck3 x.1) hx) (ck3 y.1) (by simp) (e.trans hk.symm)
      have hB : ∀ x ∈ B, ck3 x.1 ≠ ck3 c := fun x hx e => n2.1 (by rw [hk, ← e]; exact List.mem_map_of_mem (f := fun x : Me => ck3 x.1) hx)
      have hr : rmK ((A ++ y :: B).map (·.1)) (ck3 c) = (A.map (·.1)) ++ (B.map (·.1)) := by
        unfold rmK
        rw [List.map_append, List.filter_append, List.map_cons, List.filter_cons_of_neg (by simp [hk])]
        congr 1
        · refine List.filter_eq_self.2 fun x hx => ?_
          obtain ⟨z, hz, rfl⟩ := List.mem_map.1 hx
          simpa using hA z hz
        · refine List.filter_eq_self.2 fun x hx => ?_
          obtain ⟨z, hz, rfl⟩ := List.mem_map.1 hx
          simpa using hB z hz
      rw [hr]
      simp only [List.map_append, List.map_cons]
      exact List.perm_middle
theorem mdel_ok {l : List Me} {ck : Nat} (hM : Mok l ck) (k : K3) : Mok (mdel l k) ck ∧ (mdel l k).map (·.1) = rmK (l.map (·.1)) k ∧ (mdel l k).length ≤ l.length := by
  rw [mdel_filter hM.kn]
  refine ⟨hM.sub _, ?_, List.length_filter_le _ _⟩
  unfold rmK
  rw [show (fun x : Me => !(ck3 x.1 == k)) = (fun c => !(ck3 c == k)) ∘ Prod.fst from rfl, ← List.filter_map]
def WrtS : Spec := { al := true, rel := fun args ins res outs => (∃ (al : List Bool) (mp : List Nat) (cs : List Cl) (p g w : Int) (v : Nat), U64 mp ∧ al.length ≤ 1000000 ∧ mp.length ≤ 1000000 ∧ cs.length ≤ 1000000 ∧ mapE al mp cs p g w ≠ 0 ∧ args = [fm al mp cs, iv p, iv g, iv w, wv (v : Int)] ∧ ins = [] ∧ res = .tup [erM, iv (mapE al mp cs p g w)] ∧ outs = []) ∨
  (∃ (al : List Bool) (mp : List Nat) (cs : List Cl) (p g w : Int) (v : Nat), U64 mp ∧ cs.length ≤ 900000 ∧ mapE al mp cs p g w = 0 ∧ args = [fm al mp cs, iv p, iv g, iv w, wv (v : Int)] ∧ ins = [] ∧
    res = .tup [fmR 0 1 2 al mp (wrC cs (p, g, w, v)), iv 0] ∧ outs = fmO al mp (wrC cs (p, g, w, v))) }
set_option maxHeartbeats 4000000 in
theorem Wrt_ok : Ok Tryz.prog 119 WrtS := by
  refine fn_ok WrtS Tryz.func119 rfl rfl ?_
  rintro args ins res outs (⟨al, mp, cs, p, g, w, v, hu, la, lm, lc, he, rfl, rfl, rfl, rfl⟩ | ⟨al, mp, cs, p, g, w, v, hu, lc, h0, rfl, rfl, rfl, rfl⟩)
  all_goals refine ⟨by simp [Tryz.ntmps119], fun w0 V Bo mu0 => ?_⟩
  · have mapd_at := mapd_at al mp cs p g w hu la lm lc
    generalize mapE al mp cs p g w = E at *
    repeat' (first | refine sA ?_ | with_reducible refine W_tf rfl (fun h => ?_) (fun h => ?_) | ((with_reducible first | refine hK _ ?_ | refine hK _ _ ?_); clear hK K) | ((first | refine sB ?_ | (with_reducible first | refine ops_cons (fun K hK => ?_) | refine W_reg lv119FlAB ?_) | with_reducible refine callV_snap ?_ | ((with_reducible refine call_go mapdS mapd_ok ?_); refine ⟨alk, _, _, mapd_at , ?_⟩) | with_reducible refine And.intro (fun h => ?_) (fun h => ?_) | with_reducible refine And.intro (by omega) ?_); (try simp only [go_sem, seval, reduceCtorEq, he, lv119FlAB, Tryz.ntmps119, Tryz.results119, WrtS])) | fail)
  · obtain ⟨z1, z2, z3, z4⟩ := mapE_zero h0
    have g0 := (lvs_zero z1).1
    obtain ⟨l1, l2⟩ := flchk_len g0
    have mapd_at := mapd_at al mp cs p g w hu (by omega) (by omega) (by omega)
    rw [h0] at mapd_at
    have hsr := flchk_srt g0
    have hM := mok_zip hsr
    have hws := wrC_srt hsr (p, g, w, v)
    have hzf : cs.zipIdx.map (·.1) = cs := zip_fst cs 0
    by_cases hv : v = 0
    · subst hv
      obtain ⟨d1, d2, d3⟩ := mdel_ok hM (p, g, w)
      rw [hzf] at d2
      have hwd : wrC cs (p, g, w, 0) = rmK cs (p, g, w) := by simp [wrC, ck3]
      rw [hwd] at hws ⊢
      generalize hL : mdel cs.zipIdx (p, g, w) = L at *
      have hdl : mdel cs.zipIdx (p, g, w) = L := hL
      have shut_at := shut_at2 al mp L cs.length (rmK cs (p, g, w)) al.length mp.length rfl rfl (by simp at d3; omega) d1 (by rw [d2]) hws
      repeat' (first | refine sA ?_ | with_reducible refine W_tf rfl (fun h => ?_) (fun h => ?_) | ((with_reducible first | refine hK _ ?_ | refine hK _ _ ?_); clear hK K) | ((refine ext_mdel (p, g, w) rfl ?_ rfl rfl rfl ?_) <;> simp only [go_sem, seval, reduceCtorEq, hdl]) | ((first | refine sC ?_ | (with_reducible first | refine ops_cons (fun K hK => ?_) | refine W_reg lv119FlAB ?_) | ((with_reducible refine callV_lend shutS [2,3,4] shut_ok rfl ?_); simp only [go_sem, seval, reduceCtorEq, decide_true, Bool.and_self, hdl, lv119FlAB]; refine ⟨alk, rfl, _, _, shut_at , ?_⟩) | with_reducible refine callV_snap ?_ | ((with_reducible refine call_go mapdS mapd_ok ?_); refine ⟨alk, _, _, mapd_at , ?_⟩) | ((with_reducible refine call_go openS open_ok ?_); refine ⟨alk, _, _, open_at al mp cs (by omega) (by omega) (by omega) hsr, ?_⟩) | with_reducible refine And.intro (fun h => ?_) (fun h => ?_) | with_reducible refine And.intro (by omega) ?_); (try simp only [go_sem, seval, reduceCtorEq, decide_true, Bool.and_self, hdl, lv119FlAB, shutS, Tryz.ntmps119, Tryz.results119, WrtS])) | fail)
      refine W_ret (endQ_ret (end_at [2, 3, 7] ?_))
      simp [go_sem, Tryz.results119, WrtS]
    · obtain ⟨d1, d2, d3⟩ := mput_ok hM (p, g, w, v)
      rw [hzf] at d2
      have hwd : wrC cs (p, g, w, v) = putC (rmK cs (p, g, w)) (p, g, w, v) := by simp [wrC, ck3, hv]
      generalize hL : mput cs.zipIdx cs.length (p, g, w, v) = L at *
      obtain ⟨L, ck'⟩ := L
      dsimp only at d1 d2 d3
      have hv' : ¬ (v : Int) = 0 := by omega
      have shut_at := shut_at2 al mp L ck' (wrC cs (p, g, w, v)) al.length mp.length rfl rfl (by simp at d3; omega) d1 (by rw [hwd]; exact (putC_perm _ _).trans d2.symm) hws
      repeat' (first | refine sA ?_ | with_reducible refine W_tf rfl (fun h => ?_) (fun h => ?_) | ((with_reducible first | refine hK _ ?_ | refine hK _ _ ?_); clear hK K) | ((refine ext_mput (p, g, w, v) rfl rfl rfl rfl rfl rfl ?_); simp only [go_sem, seval, reduceCtorEq, hL]) | ((first | refine sC ?_ | (with_reducible first | refine ops_cons (fun K hK => ?_) | refine W_reg lv119FlAB ?_) | ((with_reducible refine callV_lend shutS [2,3,4] shut_ok rfl ?_); simp only [go_sem, seval, reduceCtorEq, decide_true, Bool.and_self, hL, hv', lv119FlAB]; refine ⟨alk, rfl, _, _, shut_at , ?_⟩) | with_reducible refine callV_snap ?_ | ((with_reducible refine call_go mapdS mapd_ok ?_); refine ⟨alk, _, _, mapd_at , ?_⟩) | ((with_reducible refine call_go openS open_ok ?_); refine ⟨alk, _, _, open_at al mp cs (by omega) (by omega) (by omega) hsr, ?_⟩) | with_reducible refine And.intro (fun h => ?_) (fun h => ?_) | with_reducible refine And.intro (by omega) ?_); (try simp only [go_sem, seval, reduceCtorEq, decide_true, Bool.and_self, hL, hv', lv119FlAB, shutS, Tryz.ntmps119, Tryz.results119, WrtS])) | fail)
      refine W_ret (endQ_ret (end_at [2, 3, 7] ?_))
      simp [go_sem, Tryz.results119, WrtS]
end Go.Proofs.YtpocnjliigjidaaGreat
