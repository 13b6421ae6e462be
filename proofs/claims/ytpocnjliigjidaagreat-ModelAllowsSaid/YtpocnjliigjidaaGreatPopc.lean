import Derived.Test.YtpocnjliigjidaaGreatFlX
import Derived.Test.YtpocnjliigjidaaGreatEngY
import Derived.Laws.BitsAllLaws
import Derived.Laws.Bits128
/- A flat memory: Spawn, Exit, by the engine. -/
namespace Go.Proofs.YtpocnjliigjidaaGreat
open Go.RowKit
set_option maxRecDepth 100000
set_option linter.unusedSimpArgs false
set_option linter.unusedVariables false
abbrev lv121FlY : List (Nat × List Nat) := [(0, [1, 2, 4]), (1, [1, 2, 4, 6]), (2, [1, 2, 4, 6, 12]), (3, [4, 5]), (4, [1, 2, 4, 6, 12, 15]), (5, [4, 6, 17]), (6, [4, 5]), (7, [1, 4, 7]), (8, [4, 7]), (9, [4, 5])]
abbrev lv122FlY : List (Nat × List Nat) := [(0, [1, 2, 4]), (1, [1, 2, 4, 6]), (2, [1, 2, 4, 6, 13]), (3, [4, 5]), (4, [1, 4, 7]), (5, [1, 4, 7]), (6, [4, 7]), (7, [4, 5])]
theorem shut_at2 (al : List Bool) (mp : List Nat) (l : List Me) (ck : Nat) (cs : List Cl) (n m : Nat) (hn : al.length = n) (hm : mp.length = m) (h1 : l.length ≤ 1000000) (h2 : Mok l ck) (h3 : cs.Perm (l.map (·.1))) (h4 : Srt cs) :
    shutS.rel [.agg [.row 0 1 0 n, .row 1 1 0 m, .mp 2]] [.rows 4 1 (al.map encDB), .rows 24 1 (mp.map encU), .map (l.map ent) ck] (.agg [.row 0 1 0 n, .row 1 1 0 m, .row 3 4 0 cs.length]) [.rows 4 1 (al.map encDB), .rows 24 1 (mp.map encU), .map (l.map ent) ck, .rows 90 4 (cs.map encCl)] := by
  subst hn hm
  exact shut_at al mp l ck cs h1 h2 h3 h4
theorem fgt_at2 (al : List Bool) (mp mp' : List Nat) (l l' : List Me) (ck k set n m : Nat) (hn : al.length = n) (hm : mp.length = m) (h0 : al.length ≤ 1000000) (h1 : mp.length = 8) (h2 : U64 mp) (h3 : k < 8) (h4 : Mok l ck) (h5 : ∀ x ∈ l, Pgs x.1.2.1) (h6 : set < 18446744073709551616)
    (e1 : mp.set k (clr (mp[k]?.getD 0) set) = mp') (e2 : (l.filter fun x => !inS ((k : Int) + 1) set x.1) = l') :
    fgtS.rel [.agg [.row 0 1 0 n, .row 1 1 0 m, .mp 2], iv ((k : Int) + 1), wv (set : Int)] [.rows 4 1 (al.map encDB), .rows 24 1 (mp.map encU), .map (l.map ent) ck] (.tup []) [.rows 4 1 (al.map encDB), .rows 24 1 (mp'.map encU), .map (l'.map ent) ck] := by
  subst hn hm e1 e2
  exact fgt_at al mp l ck k set h0 h1 h2 h3 h4 h5 h6
theorem flchk_srt {al : List Bool} {mp : List Nat} {cs : List Cl} (h : flchk al mp cs = 0) : Srt cs := ckGo_pw (flchk_go h)
theorem flchk_pgs {al : List Bool} {mp : List Nat} {cs : List Cl} (h : flchk al mp cs = 0) : ∀ c ∈ cs, ck1 mp c = 0 := ckGo_mem cs none (flchk_go h)
theorem zip_fst {α : Type} (l : List α) (n : Nat) : (l.zipIdx n).map (·.1) = l := by
  induction l generalizing n with
  | nil => rfl
  | cons a l ih => simp [List.zipIdx_cons, ih]
theorem mok_zip {cs : List Cl} (h : Srt cs) : Mok cs.zipIdx cs.length := by
  refine ⟨?_, ?_, fun x hx => ?_⟩
  · have : (cs.zipIdx.map fun x => ck3 x.1) = cs.map ck3 := by
      rw [show (fun x : Me => ck3 x.1) = ck3 ∘ Prod.fst from rfl, ← List.map_map]
      exact congrArg (List.map ck3) (zip_fst cs 0)
    rw [this]
    unfold List.Nodup
    rw [List.pairwise_map]
    exact List.Pairwise.imp (fun hb => bef_ne hb) h
  · rw [List.zipIdx_map_snd]
    exact List.nodup_range'
  · obtain ⟨c, i⟩ := x
    have := (List.mem_zipIdx' hx).1
    exact this
theorem flchk_ne11 {al : List Bool} {mp : List Nat} {cs : List Cl} : flchk al mp cs ≠ 11 := by
  have h1 : ∀ c : Cl, ck1 mp c ≠ 11 := by
    intro c
    unfold ck1
    split
    · decide
    · split
      · decide
      · split <;> decide
  have h2 : ∀ (cs : List Cl) (b : Option Cl), ckGo mp b cs ≠ 11 := by
    intro cs
    induction cs with
    | nil => intro b; cases b <;> (rw [ckGo]; decide)
    | cons c r ih =>
      intro b
      cases b with
      | none =>
        rw [ckGo]
        split
        · exact h1 c
        · exact ih _
      | some b =>
        rw [ckGo]
        split
        · exact h1 c
        · split
          · exact ih _
          · decide
  unfold flchk
  split
  · decide
  · split
    · decide
    · exact h2 _ _
theorem ask_lvs {al : List Bool} {mp : List Nat} {cs : List Cl} {p : Int} (h : askE29 al mp cs p p ≠ 0) : lvsE al mp cs [p] = askE29 al mp cs p p ∧ askE29 al mp cs p p ≠ 11 := by
  unfold askE29 at h ⊢
  unfold lvsE
  by_cases h0 : flchk al mp cs = 0
  · simp only [h0, ne_eq, not_true_eq_false, if_false] at h ⊢
    by_cases hP : Prc p
    · rw [if_neg (fun hh => hh ⟨hP, hP⟩)] at h
      exact absurd rfl h
    · simp [hP]
  · rw [if_pos h0, if_pos h0]
    exact ⟨rfl, flchk_ne11⟩
abbrev SpnS : Spec := rSpnS
set_option maxHeartbeats 4000000 in
theorem Spn_ok : Ok Tryz.prog 121 SpnS := by
  refine fn_ok SpnS Tryz.func121 rfl rfl ?_
  rintro args ins res outs (⟨al, mp, cs, p, hu, la, lm, lc, he, rfl, rfl, rfl, rfl⟩ | ⟨al, mp, cs, k, h0, hu, lc, hk, hb, rfl, rfl, rfl, rfl⟩ | ⟨al, mp, cs, k, h0, hu, lc, hk, hb, rfl, rfl, rfl, rfl⟩)
  all_goals refine ⟨by simp [Tryz.ntmps121], fun w0 V Bo mu0 => ?_⟩
  · have L0 := lives_at al mp cs [p] hu la lm lc (by simp)
    obtain ⟨e1, e2⟩ := ask_lvs he
    rw [e1] at L0
    generalize askE29 al mp cs p p = E at *
    have lives_at : livesS.rel [fm al mp cs, .d (.sl [[.int .i64 p]])] [] (iv E) [] := L0
    repeat' (first | refine sA ?_ | with_reducible refine W_tf rfl (fun h => ?_) (fun h => ?_) | ((with_reducible first | refine hK _ ?_ | refine hK _ _ ?_); clear hK K) | ((first | refine sB ?_ | (with_reducible first | refine ops_cons (fun K hK => ?_) | refine W_reg lv121FlY ?_) | with_reducible refine callV_snap ?_ | ((with_reducible refine call_go livesS lives_ok ?_); refine ⟨alk, _, _, lives_at , ?_⟩) | with_reducible refine And.intro (fun h => ?_) (fun h => ?_) | with_reducible refine And.intro (by omega) ?_); (try simp only [go_sem, seval, reduceCtorEq, he, e2, lv121FlY, Tryz.ntmps121, Tryz.results121, SpnS])) | fail)
  · obtain ⟨l1, l2⟩ := flchk_len h0
    have L0 := lives_at al mp cs [(k : Int) + 1] hu (by omega) (by omega) lc (by simp)
    have hP : Prc ((k : Int) + 1) := ⟨by omega, by omega⟩
    have e1 : lvsE al mp cs [(k : Int) + 1] = 0 := by unfold lvsE; simp [h0, hP, hb]
    rw [e1] at L0
    have lives_at : livesS.rel [fm al mp cs, .d (.sl [[.int .i64 ((k : Int) + 1)]])] [] (iv 0) [] := L0
    repeat' (first | refine sA ?_ | with_reducible refine W_tf rfl (fun h => ?_) (fun h => ?_) | ((with_reducible first | refine hK _ ?_ | refine hK _ _ ?_); clear hK K) | ((first | refine sB ?_ | (with_reducible first | refine ops_cons (fun K hK => ?_) | refine W_reg lv121FlY ?_) | with_reducible refine callV_snap ?_ | ((with_reducible refine call_go livesS lives_ok ?_); refine ⟨alk, _, _, lives_at , ?_⟩) | with_reducible refine And.intro (fun h => ?_) (fun h => ?_) | with_reducible refine And.intro (by omega) ?_); (try simp only [go_sem, seval, reduceCtorEq, lv121FlY, Tryz.ntmps121, Tryz.results121, SpnS])) | fail)
  · obtain ⟨l1, l2⟩ := flchk_len h0
    have L0 := lives_at al mp cs [(k : Int) + 1] hu (by omega) (by omega) lc (by simp)
    have hP : Prc ((k : Int) + 1) := ⟨by omega, by omega⟩
    have e1 : lvsE al mp cs [(k : Int) + 1] = 11 := by unfold lvsE; simp [h0, hP, hb]
    rw [e1] at L0
    have lives_at : livesS.rel [fm al mp cs, .d (.sl [[.int .i64 ((k : Int) + 1)]])] [] (iv 11) [] := L0
    have hka : k < al.length := by omega
    have hp1 : (k : Int) + 1 - 1 = (k : Int) := by omega
    have hv : alv al ((k : Int) + 1) = al[k] := by unfold alv; rw [hp1]; simp [hka]
    have ea : encDB al[k] = [.bool false] := by rw [← hv, hb]; rfl
    have hset : ((al.map encDB).set k [.bool true]) = (al.set k true).map encDB := by rw [List.map_set]; rfl
    have hsr := flchk_srt h0
    have hlen : (al.set k true).length = al.length := List.length_set
    have shut_at := shut_at2 (al.set k true) mp cs.zipIdx cs.length cs al.length mp.length hlen rfl (by simpa using lc) (mok_zip hsr) (by rw [zip_fst]) hsr
    repeat' (first | refine sA ?_ | with_reducible refine W_tf rfl (fun h => ?_) (fun h => ?_) | ((with_reducible first | refine hK _ ?_ | refine hK _ _ ?_); clear hK K) | ((with_reducible refine idx_map2 hka ?_); simp only [go_sem, seval, reduceCtorEq, encDB_len, hset]) | ((first | refine sC ?_ | (with_reducible first | refine ops_cons (fun K hK => ?_) | refine W_reg lv121FlY ?_) | ((with_reducible refine callV_lend shutS [3,4,5] shut_ok rfl ?_); simp only [go_sem, seval, reduceCtorEq, hp1, ea, hset, decide_true, Bool.and_self, lv121FlY]; refine ⟨alk, rfl, _, _, shut_at , ?_⟩) | with_reducible refine callV_snap ?_ | ((with_reducible refine call_go livesS lives_ok ?_); refine ⟨alk, _, _, lives_at , ?_⟩) | ((with_reducible refine call_go openS open_ok ?_); refine ⟨alk, _, _, open_at al mp cs (by omega) (by omega) lc hsr, ?_⟩) | with_reducible refine And.intro (fun h => ?_) (fun h => ?_) | with_reducible refine And.intro (by omega) ?_); (try simp only [go_sem, seval, reduceCtorEq, hp1, ea, hset, decide_true, Bool.and_self, lv121FlY, shutS, Tryz.ntmps121, Tryz.results121, SpnS])) | fail)
    refine W_ret (endQ_ret (end_at [3, 4, 7] ?_))
    simp [go_sem, Tryz.results121, rSpnS, hset]
theorem pgM_bit {f t : Nat} (h : f ≤ t) (g : Nat) : (pgM f t).testBit g = decide (f ≤ g ∧ g ≤ t) := by
  unfold pgM
  rw [Nat.testBit_mul_two_pow, Nat.testBit_two_pow_sub_one]
  by_cases h1 : f ≤ g
  · by_cases h2 : g ≤ t
    · simp [h1, h2]; omega
    · simp [h1, h2]; omega
  · simp [h1]
theorem inS_inR {p : Int} {f t : Nat} (h : f ≤ t) {c : Cl} (hc : Pgs c.2.1) : inS p (pgM f t) c = inR p (f : Int) (t : Int) c := by
  obtain ⟨cp, cg, cw, cv⟩ := c
  obtain ⟨h1, h2⟩ := hc
  dsimp only at h1 h2
  obtain ⟨g, rfl⟩ := Int.eq_ofNat_of_zero_le h1
  unfold inS inR
  dsimp only
  rw [Int.toNat_natCast, pgM_bit h]
  by_cases a : f ≤ g <;> by_cases b : g ≤ t <;> simp [a, b]
theorem filter_zip {cs : List Cl} {p : Int} {f t : Nat} (h : f ≤ t) (hc : ∀ c ∈ cs, Pgs c.2.1) : ((cs.zipIdx).filter fun x : Me => !inS p (pgM f t) x.1).map (·.1) = woC cs p (f : Int) (t : Int) := by
  unfold woC
  rw [show (fun x : Me => !inS p (pgM f t) x.1) = (fun c => !inS p (pgM f t) c) ∘ Prod.fst from rfl, ← List.filter_map, show List.map Prod.fst cs.zipIdx = cs from zip_fst cs 0]
  exact List.filter_congr fun c hm => by rw [inS_inR h (hc c hm)]
theorem woC_srt {cs : List Cl} (h : Srt cs) (p f t : Int) : Srt (woC cs p f t) := h.sublist List.filter_sublist
abbrev ExtS : Spec := rExtS
set_option maxHeartbeats 4000000 in
theorem Ext_ok : Ok Tryz.prog 122 ExtS := by
  refine fn_ok ExtS Tryz.func122 rfl rfl ?_
  rintro args ins res outs (⟨al, mp, cs, p, hu, la, lm, lc, he, rfl, rfl, rfl, rfl⟩ | ⟨al, mp, cs, k, h0, hu, lc, rfl, rfl, rfl, rfl⟩)
  all_goals refine ⟨by simp [Tryz.ntmps122], fun w0 V Bo mu0 => ?_⟩
  · have L0 := lives_at al mp cs [p] hu la lm lc (by simp)
    generalize lvsE al mp cs [p] = E at *
    have lives_at : livesS.rel [fm al mp cs, .d (.sl [[.int .i64 p]])] [] (iv E) [] := L0
    repeat' (first | refine sA ?_ | with_reducible refine W_tf rfl (fun h => ?_) (fun h => ?_) | ((with_reducible first | refine hK _ ?_ | refine hK _ _ ?_); clear hK K) | ((first | refine sB ?_ | (with_reducible first | refine ops_cons (fun K hK => ?_) | refine opsd_cons (fun K hK => ?_) | refine W_reg lv122FlY ?_ | refine W_drw lv122FlY (by kernel_rfl) ?_) | ((with_reducible refine opsd_nil ?_); refine And.intro (by kernel_rfl) ?_) | with_reducible refine callV_snap ?_ | ((with_reducible refine call_go livesS lives_ok ?_); refine ⟨alk, _, _, lives_at , ?_⟩) | with_reducible refine And.intro (fun h => ?_) (fun h => ?_) | with_reducible refine And.intro (by omega) ?_); (try simp only [go_sem, seval, reduceCtorEq, he, lv122FlY, Tryz.ntmps122, Tryz.results122, ExtS])) | fail)
  · obtain ⟨g0, ⟨g1, g2⟩, g3⟩ := lvs_zero h0
    obtain ⟨l1, l2⟩ := flchk_len g0
    have L0 := lives_at al mp cs [(k : Int) + 1] hu (by omega) (by omega) lc (by simp)
    rw [h0] at L0
    have lives_at : livesS.rel [fm al mp cs, .d (.sl [[.int .i64 ((k : Int) + 1)]])] [] (iv 0) [] := L0
    have hk : k < 8 := by omega
    have hka : k < al.length := by omega
    have hkm : k < mp.length := by omega
    have hp1 : (k : Int) + 1 - 1 = (k : Int) := by omega
    have hsr := flchk_srt g0
    have hpg : ∀ c ∈ cs, Pgs c.2.1 := fun c hc => (ck1_zero (flchk_pgs g0 c hc)).2.1
    have hv : alv al ((k : Int) + 1) = al[k] := by unfold alv; rw [hp1]; simp [hka]
    have ea : encDB al[k] = [.bool true] := by rw [← hv, g3]; rfl
    have hset : ((al.map encDB).set k [.bool false]) = (al.set k false).map encDB := by rw [List.map_set]; rfl
    have hlen : (al.set k false).length = al.length := List.length_set
    have hM := mok_zip hsr
    have hfz := filter_zip (p := (k : Int) + 1) (f := 0) (t := 63) (by omega) hpg
    generalize hL : (cs.zipIdx.filter fun x : Me => !inS ((k : Int) + 1) (pgM 0 63) x.1) = L at *
    have hLM : Mok L cs.length := by rw [← hL]; exact hM.sub _
    have hclr : clr (mp[k]?.getD 0) (pgM 0 63) = 0 := by unfold clr; rw [show pgM 0 63 = 18446744073709551615 by decide]; simp
    have fgt_at := fgt_at2 (al.set k false) mp (mp.set k 0) cs.zipIdx L cs.length k (pgM 0 63) al.length mp.length hlen rfl (by simp; omega) l2 hu hk hM (fun x hx => hpg x.1 (by rw [← zip_fst cs 0]; exact List.mem_map_of_mem hx)) (pgM_lt (by omega) (by omega)) (by rw [hclr]) hL
    have hLl : L.length ≤ 1000000 := by rw [← hL]; exact Nat.le_trans (List.length_filter_le _ _) (by simpa using lc)
    have shut_at := shut_at2 (al.set k false) (mp.set k 0) L cs.length (woC cs ((k : Int) + 1) 0 63) al.length mp.length hlen (by simp) hLl hLM (by rw [hfz]; exact List.Perm.refl _) (woC_srt hsr _ _ _)
    repeat' (first | refine sA ?_ | with_reducible refine W_tf rfl (fun h => ?_) (fun h => ?_) | ((with_reducible first | refine hK _ ?_ | refine hK _ _ ?_); clear hK K) | ((with_reducible refine idx_map2 hka ?_); simp only [go_sem, seval, reduceCtorEq, encDB_len, hset]) | ((first | refine sC ?_ | (with_reducible first | refine ops_cons (fun K hK => ?_) | refine opsd_cons (fun K hK => ?_) | refine W_reg lv122FlY ?_ | refine W_drw lv122FlY (by kernel_rfl) ?_) | ((with_reducible refine opsd_nil ?_); refine And.intro (by kernel_rfl) ?_) | ((with_reducible refine callV_lend shutS [3,4,5] shut_ok rfl ?_); simp only [go_sem, seval, reduceCtorEq, hp1, ea, hset, decide_true, Bool.and_self, lv122FlY]; refine ⟨alk, rfl, _, _, shut_at , ?_⟩) | ((with_reducible refine callV_lend fgtS [3,4,5] fgt_ok rfl ?_); simp only [go_sem, seval, reduceCtorEq, hp1, ea, hset, decide_true, Bool.and_self, lv122FlY]; refine ⟨alk, rfl, _, _, fgt_at , ?_⟩) | with_reducible refine callV_snap ?_ | ((with_reducible refine call_go livesS lives_ok ?_); refine ⟨alk, _, _, lives_at , ?_⟩) | ((with_reducible refine call_go openS open_ok ?_); refine ⟨alk, _, _, open_at al mp cs (by omega) (by omega) lc hsr, ?_⟩) | ((with_reducible refine call_go pagesS pages_ok ?_); refine ⟨alk, _, _, pages_at 0 63 (by omega) (by omega), ?_⟩) | with_reducible refine And.intro (fun h => ?_) (fun h => ?_) | with_reducible refine And.intro (by omega) ?_); (try simp only [go_sem, seval, reduceCtorEq, hp1, ea, hset, decide_true, Bool.and_self, lv122FlY, shutS, fgtS, Tryz.ntmps122, Tryz.results122, ExtS])) | fail)
    refine W_ret (endQ_ret (end_at [3, 4, 7] ?_))
    simp [go_sem, Tryz.results122, rExtS, hset]
end Go.Proofs.YtpocnjliigjidaaGreat
namespace Go.Proofs.YtpocnjliigjidaaGreat
open Go.RowKit
set_option maxRecDepth 100000
set_option linter.unusedSimpArgs false
set_option linter.unusedVariables false
abbrev lv145Popc : List (Nat × List Nat) := [(0, [0]), (1, [0]), (2, [0]), (3, [0]), (4, [0]), (5, [0]), (6, [0]), (7, [2])]
def pc (x : Nat) : Nat := (List.range 64).countP fun i => x.testBit i
def bys : List Nat → Nat
  | [] => 0
  | b :: l => b + 256 * bys l
theorem and_byte {b k R M : Nat} (hb : b < 256) (hk : k < 256) : (b + 256 * R) &&& (k + 256 * M) = (b &&& k) + 256 * (R &&& M) := by
  have e : ∀ z : Nat, z = z % 2 ^ 8 + 256 * (z / 2 ^ 8) := fun z => by omega
  rw [e ((b + 256 * R) &&& (k + 256 * M)), Nat.and_mod_two_pow, Nat.and_div_two_pow]
  rw [show (b + 256 * R) % 2 ^ 8 = b by omega, show (k + 256 * M) % 2 ^ 8 = k by omega, show (b + 256 * R) / 2 ^ 8 = R by omega, show (k + 256 * M) / 2 ^ 8 = M by omega]
theorem bys_and (k : Nat) (hk : k < 256) : ∀ l : List Nat, (∀ b ∈ l, b < 256) → bys l &&& bys (l.map fun _ => k) = bys (l.map fun b => b &&& k)
  | [], _ => by simp [bys]
  | b :: l, h => by
    simp only [List.map_cons, bys]
    rw [and_byte (h b (by simp)) hk, bys_and k hk l fun c hc => h c (by simp [hc])]
theorem bys_shr (s t k : Nat) (hst : 2 ^ s * t = 256) (hk : k < 256) (hm : ∀ b : Nat, b < 256 → ∀ c : Nat, c < 2 ^ s → ((b / 2 ^ s + t * c) &&& k) = (b / 2 ^ s &&& k)) : ∀ l : List Nat, (∀ b ∈ l, b < 256) → (bys l / 2 ^ s) &&& bys (l.map fun _ => k) = bys (l.map fun b => b / 2 ^ s &&& k)
  | [], _ => by simp [bys]
  | b :: l, h => by
    have hb := h b (by simp)
    have ih := bys_shr s t k hst hk hm l fun c hc => h c (by simp [hc])
    simp only [List.map_cons, bys]
    have hp : 0 < 2 ^ s := Nat.two_pow_pos s
    have hc : bys l % 2 ^ s < 2 ^ s := Nat.mod_lt _ hp
    have e1 : (b + 256 * bys l) / 2 ^ s = (b / 2 ^ s + t * (bys l % 2 ^ s)) + 256 * (bys l / 2 ^ s) := by
      rw [← hst, Nat.mul_assoc, Nat.add_mul_div_left _ _ hp]
      have := Nat.div_add_mod (bys l) (2 ^ s)
      generalize bys l / 2 ^ s = q at *
      generalize bys l % 2 ^ s = r at *
      rw [← this, Nat.mul_add, Nat.mul_comm (2 ^ s) t, Nat.mul_assoc]
      omega
    have hlt : b / 2 ^ s + t * (bys l % 2 ^ s) < 256 := by
      have h1 : b / 2 ^ s < t := Nat.div_lt_of_lt_mul (by rw [hst]; exact hb)
      have h2 : t * (bys l % 2 ^ s) + t ≤ t * 2 ^ s := by rw [← Nat.mul_succ]; exact Nat.mul_le_mul_left _ hc
      rw [Nat.mul_comm t (2 ^ s), hst] at h2
      omega
    rw [e1, and_byte hlt hk, hm b hb _ hc, ih]
theorem bys_add (f g : Nat → Nat) : ∀ l : List Nat, bys (l.map f) + bys (l.map g) = bys (l.map fun b => f b + g b)
  | [] => rfl
  | b :: l => by
    have := bys_add f g l
    simp only [List.map_cons, bys]
    omega
theorem bys_fold (f : Nat → Nat) (hf : ∀ b, b < 256 → f b % 16 ≤ 4 ∧ f b / 16 ≤ 4) : ∀ l : List Nat, (∀ b ∈ l, b < 256) → (bys (l.map f) / 16 + bys (l.map f)) &&& bys (l.map fun _ => 15) = bys (l.map fun b => (f b / 16 + f b) &&& 15)
  | [], _ => by simp [bys]
  | b :: l, h => by
    have hb := hf b (h b (by simp))
    have ih := bys_fold f hf l fun c hc => h c (by simp [hc])
    have hR : bys (l.map f) % 16 ≤ 4 := by
      cases l with
      | nil => simp [bys]
      | cons c r =>
        have := hf c (h c (by simp))
        simp only [List.map_cons, bys]
        omega
    simp only [List.map_cons, bys]
    generalize bys (l.map f) = R at *
    generalize f b = y at *
    have e1 : (y + 256 * R) / 16 + (y + 256 * R) = (y / 16 + y + 16 * (R % 16)) + 256 * (R / 16 + R) := by omega
    rw [e1, and_byte (by omega) (by decide), ih]
    congr 1
    have e2 : ∀ z, z &&& 15 = z % 16 := fun z => Nat.and_two_pow_sub_one_eq_mod z 4
    rw [e2, e2]
    omega
def c1 (b : Nat) : Nat := (b / 2 ^ 1 &&& 85) + (b &&& 85)
def c2 (b : Nat) : Nat := (c1 b / 2 ^ 2 &&& 51) + (c1 b &&& 51)
def c3 (b : Nat) : Nat := (c2 b / 16 + c2 b) &&& 15
def pc8 (b : Nat) : Nat := (List.range 8).countP fun i => b.testBit i
theorem fin256 {p : Nat → Prop} (h : ∀ b : Fin 256, p b.1) : ∀ b : Nat, b < 256 → p b := fun b hb => h ⟨b, hb⟩
theorem c1_lt : ∀ b : Nat, b < 256 → c1 b < 256 := fin256 (by decide +kernel)
theorem c2_ok : ∀ b : Nat, b < 256 → c2 b % 16 ≤ 4 ∧ c2 b / 16 ≤ 4 := fin256 (by decide +kernel)
theorem c3_pc : ∀ b : Nat, b < 256 → c3 b = pc8 b := fin256 (by decide +kernel)
theorem pc8_le (b : Nat) : pc8 b ≤ 8 := by
  have := List.countP_le_length (p := fun i => b.testBit i) (l := List.range 8)
  rwa [List.length_range] at this
theorem m1_ok : ∀ b : Nat, b < 256 → ∀ c : Nat, c < 2 ^ 1 → ((b / 2 ^ 1 + 128 * c) &&& 85) = (b / 2 ^ 1 &&& 85) := fin256 (p := fun b => ∀ c : Nat, c < 2 ^ 1 → ((b / 2 ^ 1 + 128 * c) &&& 85) = (b / 2 ^ 1 &&& 85)) (by decide +kernel)
theorem m2_ok : ∀ b : Nat, b < 256 → ∀ c : Nat, c < 2 ^ 2 → ((b / 2 ^ 2 + 64 * c) &&& 51) = (b / 2 ^ 2 &&& 51) := fin256 (p := fun b => ∀ c : Nat, c < 2 ^ 2 → ((b / 2 ^ 2 + 64 * c) &&& 51) = (b / 2 ^ 2 &&& 51)) (by decide +kernel)
theorem bys_pc : ∀ (l : List Nat) (hl : ∀ b ∈ l, b < 256), (List.range (8 * l.length)).countP (fun i => (bys l).testBit i) = (l.map pc8).sum
  | [], _ => by simp
  | b :: l, h => by
    have hb := h b (by simp)
    have ih := bys_pc l fun c hc => h c (by simp [hc])
    rw [List.length_cons, show 8 * (l.length + 1) = 8 + 8 * l.length by omega, List.range_add, List.countP_append, List.countP_map, List.map_cons, List.sum_cons, ← ih]
    congr 1
    · unfold pc8
      refine List.countP_congr fun i hi => ?_
      have hi8 : i < 8 := by simpa using hi
      have : (bys (b :: l)).testBit i = b.testBit i := by
        rw [show bys (b :: l) = b + 256 * bys l from rfl]
        have e := Nat.testBit_mod_two_pow (b + 256 * bys l) 8 i
        rw [show (b + 256 * bys l) % 2 ^ 8 = b by omega] at e
        rw [e]; simp [hi8]
      rw [this]
    · refine List.countP_congr fun i hi => ?_
      have : (bys (b :: l)).testBit (8 + i) = (bys l).testBit i := by
        rw [show bys (b :: l) = b + 256 * bys l from rfl, Nat.add_comm 8 i, ← Nat.testBit_div_two_pow]
        rw [show (b + 256 * bys l) / 2 ^ 8 = bys l by omega]
      simp only [Function.comp, this]
def by8 (x : Nat) : List Nat := [x % 256, x / 256 % 256, x / 65536 % 256, x / 16777216 % 256, x / 4294967296 % 256, x / 1099511627776 % 256, x / 281474976710656 % 256, x / 72057594037927936 % 256]
theorem by8_eq {x : Nat} (h : x < 18446744073709551616) : bys (by8 x) = x := by
  simp only [by8, bys]
  omega
theorem by8_lt (x : Nat) : ∀ b ∈ by8 x, b < 256 := by
  intro b hb
  simp only [by8, List.mem_cons, List.not_mem_nil, or_false] at hb
  rcases hb with rfl | rfl | rfl | rfl | rfl | rfl | rfl | rfl <;> exact Nat.mod_lt _ (by decide)
theorem pc_by8 {x : Nat} (h : x < 18446744073709551616) : pc x = ((by8 x).map pc8).sum := by
  have := bys_pc (by8 x) (by8_lt x)
  rw [by8_eq h] at this
  exact this
theorem pc_fold (q0 q1 q2 q3 q4 q5 q6 q7 : Nat) (p0 : q0 ≤ 8) (p1 : q1 ≤ 8) (p2 : q2 ≤ 8) (p3 : q3 ≤ 8) (p4 : q4 ≤ 8) (p5 : q5 ≤ 8) (p6 : q6 ≤ 8) (p7 : q7 ≤ 8) (y : Nat) (hy : y = bys [q0, q1, q2, q3, q4, q5, q6, q7]) :
    y + y / 2 ^ 8 = bys [q0 + q1, q1 + q2, q2 + q3, q3 + q4, q4 + q5, q5 + q6, q6 + q7, q7] := by
  have e : y / 2 ^ 8 = bys [q1, q2, q3, q4, q5, q6, q7] := by
    rw [hy, show bys [q0, q1, q2, q3, q4, q5, q6, q7] = q0 + 256 * bys [q1, q2, q3, q4, q5, q6, q7] from rfl]; omega
  rw [e, hy]
  simp only [bys]
  omega
theorem pc_fold2 (r0 r1 r2 r3 r4 r5 r6 r7 : Nat) (p0 : r0 ≤ 16) (p1 : r1 ≤ 16) (z : Nat) (hz : z = bys [r0, r1, r2, r3, r4, r5, r6, r7]) :
    z + z / 2 ^ 16 = bys [r0 + r2, r1 + r3, r2 + r4, r3 + r5, r4 + r6, r5 + r7, r6, r7] := by
  have e : z / 2 ^ 16 = bys [r2, r3, r4, r5, r6, r7] := by
    rw [hz, show bys [r0, r1, r2, r3, r4, r5, r6, r7] = r0 + 256 * (r1 + 256 * bys [r2, r3, r4, r5, r6, r7]) from rfl]; omega
  rw [e, hz]
  simp only [bys]
  omega
theorem pc_fold3 (r0 r1 r2 r3 r4 r5 r6 r7 : Nat) (p0 : r0 ≤ 32) (p1 : r1 ≤ 32) (p2 : r2 ≤ 32) (p3 : r3 ≤ 32) (p4 : r4 ≤ 32) (z : Nat) (hz : z = bys [r0, r1, r2, r3, r4, r5, r6, r7]) : (z + z / 2 ^ 32) % 128 = r0 + r4 := by
  have e : z / 2 ^ 32 = bys [r4, r5, r6, r7] := by
    rw [hz, show bys [r0, r1, r2, r3, r4, r5, r6, r7] = r0 + 256 * (r1 + 256 * (r2 + 256 * (r3 + 256 * bys [r4, r5, r6, r7]))) from rfl]; omega
  rw [e, hz]
  simp only [bys]
  omega
set_option maxHeartbeats 1000000 in
theorem pc_steps {x : Nat} (h : x < 18446744073709551616) : ∃ y : Nat, (x / 2 ^ 1 &&& 6148914691236517205) + (x &&& 6148914691236517205) = bys ((by8 x).map c1) ∧
    (bys ((by8 x).map c1) / 2 ^ 2 &&& 3689348814741910323) + (bys ((by8 x).map c1) &&& 3689348814741910323) = bys ((by8 x).map c2) ∧
    (bys ((by8 x).map c2) / 16 + bys ((by8 x).map c2)) &&& 1085102592571150095 = y ∧ y = bys ((by8 x).map pc8) ∧
    ((y + y / 2 ^ 8) + (y + y / 2 ^ 8) / 2 ^ 16 + ((y + y / 2 ^ 8) + (y + y / 2 ^ 8) / 2 ^ 16) / 2 ^ 32) % 128 = pc x := by
  refine ⟨bys ((by8 x).map pc8), ?_, ?_, ?_, rfl, ?_⟩
  · have a1 := bys_shr 1 128 85 (by decide) (by decide) m1_ok (by8 x) (by8_lt x)
    have a2 := bys_and 85 (by decide) (by8 x) (by8_lt x)
    rw [by8_eq h] at a1 a2
    rw [show (6148914691236517205 : Nat) = bys ((by8 x).map fun _ => 85) by simp [by8, bys], a1, a2, bys_add]
    rfl
  · have hl : ∀ b ∈ (by8 x).map c1, b < 256 := by
      intro b hb
      obtain ⟨d, hd, rfl⟩ := List.mem_map.1 hb
      exact c1_lt d (by8_lt x d hd)
    have a1 := bys_shr 2 64 51 (by decide) (by decide) m2_ok ((by8 x).map c1) hl
    have a2 := bys_and 51 (by decide) ((by8 x).map c1) hl
    rw [List.map_map, List.map_map] at a1 a2
    rw [show (3689348814741910323 : Nat) = bys ((by8 x).map ((fun _ => 51) ∘ c1)) by simp [by8, bys], a1, a2, bys_add]
    rfl
  · have a1 := bys_fold c2 c2_ok (by8 x) (by8_lt x)
    rw [show (1085102592571150095 : Nat) = bys ((by8 x).map fun _ => 15) by simp [by8, bys], a1]
    congr 1
    refine List.map_congr_left fun b hb => ?_
    exact c3_pc b (by8_lt x b hb)
  · rw [pc_by8 h]
    simp only [by8, List.map_cons, List.map_nil, List.sum_cons, List.sum_nil]
    have p0 := pc8_le (x % 256)
    have p1 := pc8_le (x / 256 % 256)
    have p2 := pc8_le (x / 65536 % 256)
    have p3 := pc8_le (x / 16777216 % 256)
    have p4 := pc8_le (x / 4294967296 % 256)
    have p5 := pc8_le (x / 1099511627776 % 256)
    have p6 := pc8_le (x / 281474976710656 % 256)
    have p7 := pc8_le (x / 72057594037927936 % 256)
    generalize pc8 (x % 256) = q0 at *
    generalize pc8 (x / 256 % 256) = q1 at *
    generalize pc8 (x / 65536 % 256) = q2 at *
    generalize pc8 (x / 16777216 % 256) = q3 at *
    generalize pc8 (x / 4294967296 % 256) = q4 at *
    generalize pc8 (x / 1099511627776 % 256) = q5 at *
    generalize pc8 (x / 281474976710656 % 256) = q6 at *
    generalize pc8 (x / 72057594037927936 % 256) = q7 at *
    rw [pc_fold q0 q1 q2 q3 q4 q5 q6 q7 p0 p1 p2 p3 p4 p5 p6 p7 _ rfl, pc_fold2 _ _ _ _ _ _ _ _ (by omega) (by omega) _ rfl, pc_fold3 _ _ _ _ _ _ _ _ (by omega) (by omega) (by omega) (by omega) (by omega) _ rfl]
    omega
def ocS : Spec := { rel := fun args ins res outs => ∃ x : Nat, x < 18446744073709551616 ∧ args = [wv (x : Int)] ∧ ins = [] ∧ res = iv (pc x : Int) ∧ outs = [] }
theorem oc_at (x : Nat) (h : x < 18446744073709551616) : ocS.rel [wv (x : Int)] [] (iv (pc x : Int)) [] := ⟨x, h, rfl, rfl, rfl, rfl⟩
theorem and_cast {a m : Nat} (ha : a < 18446744073709551616) (hm : m < 18446744073709551616) : bits .and .u64 (a : Int) (m : Int) = ((a &&& m : Nat) : Int) := u64_and_nat a m ha hm
set_option maxHeartbeats 1000000 in
theorem oc_ok : Ok Tryz.prog 145 ocS := by
  refine fn_ok ocS Tryz.func145 rfl rfl ?_
  rintro args ins res outs ⟨x, hx, rfl, rfl, rfl, rfl⟩
  refine ⟨by simp [Tryz.ntmps145], fun w0 V Bo mu0 => ?_⟩
  obtain ⟨y, h1, h2, h3, hy, h4⟩ := pc_steps hx
  have hb8 : ∀ f : Nat → Nat, (∀ b, b < 256 → f b ≤ 255) → bys ((by8 x).map f) < 18446744073709551616 := by
    intro f hf
    have hl := by8_lt x
    simp only [by8, List.map_cons, List.map_nil, bys]
    have q := fun b (hb : b ∈ by8 x) => hf b (hl b hb)
    simp only [by8, List.mem_cons, List.not_mem_nil, or_false, forall_eq_or_imp, forall_eq] at q
    omega
  have b1 := hb8 c1 (fun b hb => by have := c1_lt b hb; omega)
  have b2 := hb8 c2 (fun b hb => by have := c2_ok b hb; omega)
  have b2' : bys ((by8 x).map c2) ≤ 4919131752989213764 := by
    have hl := by8_lt x
    simp only [by8, List.map_cons, List.map_nil, bys]
    have q := fun b (hb : b ∈ by8 x) => c2_ok b (hl b hb)
    simp only [by8, List.mem_cons, List.not_mem_nil, or_false, forall_eq_or_imp, forall_eq] at q
    omega
  have b3 : y ≤ 578721382704613384 := by
    rw [hy]
    simp only [by8, List.map_cons, List.map_nil, bys]
    have p0 := pc8_le (x % 256)
    have p1 := pc8_le (x / 256 % 256)
    have p2 := pc8_le (x / 65536 % 256)
    have p3 := pc8_le (x / 16777216 % 256)
    have p4 := pc8_le (x / 4294967296 % 256)
    have p5 := pc8_le (x / 1099511627776 % 256)
    have p6 := pc8_le (x / 281474976710656 % 256)
    have p7 := pc8_le (x / 72057594037927936 % 256)
    omega
  clear hb8 hy
  generalize bys ((by8 x).map c1) = A at *
  generalize bys ((by8 x).map c2) = B at *
  rw [show (2 : Nat) ^ 1 = 2 from rfl] at h1
  rw [show (2 : Nat) ^ 2 = 4 from rfl] at h2
  rw [show (2 : Nat) ^ 8 = 256 from rfl, show (2 : Nat) ^ 16 = 65536 from rfl, show (2 : Nat) ^ 32 = 4294967296 from rfl] at h4
  have s1 : bits .and .u64 ((x : Int) / 2) 6148914691236517205 = ((x / 2 &&& 6148914691236517205 : Nat) : Int) := by
    rw [show (x : Int) / 2 = ((x / 2 : Nat) : Int) from rfl]; exact and_cast (by omega) (by decide)
  have s2 : bits .and .u64 (x : Int) 6148914691236517205 = ((x &&& 6148914691236517205 : Nat) : Int) := and_cast hx (by decide)
  generalize x / 2 &&& 6148914691236517205 = a1 at *
  generalize x &&& 6148914691236517205 = a2 at *
  have s3 : (a1 : Int) + (a2 : Int) = (A : Int) := by omega
  have s4 : bits .and .u64 ((A : Int) / 4) 3689348814741910323 = ((A / 4 &&& 3689348814741910323 : Nat) : Int) := by
    rw [show (A : Int) / 4 = ((A / 4 : Nat) : Int) from rfl]; exact and_cast (by omega) (by decide)
  have s5 : bits .and .u64 (A : Int) 3689348814741910323 = ((A &&& 3689348814741910323 : Nat) : Int) := and_cast b1 (by decide)
  generalize A / 4 &&& 3689348814741910323 = a3 at *
  generalize A &&& 3689348814741910323 = a4 at *
  have s6 : (a3 : Int) + (a4 : Int) = (B : Int) := by omega
  have s7 : bits .and .u64 ((B : Int) / 16 + (B : Int)) 1085102592571150095 = (y : Int) := by
    rw [show (B : Int) / 16 + (B : Int) = ((B / 16 + B : Nat) : Int) from rfl, ← h3]; exact and_cast (by omega) (by decide)
  have s8 : (y : Int) + (y : Int) / 256 = ((y + y / 256 : Nat) : Int) := rfl
  have hz : y + y / 256 ≤ 600000000000000000 := by omega
  generalize y + y / 256 = z at *
  have s9 : (z : Int) + (z : Int) / 65536 = ((z + z / 65536 : Nat) : Int) := rfl
  have hz2 : z + z / 65536 ≤ 700000000000000000 := by omega
  generalize z + z / 65536 = u at *
  have s10 : (u : Int) + (u : Int) / 4294967296 = ((u + u / 4294967296 : Nat) : Int) := rfl
  have hz3 : u + u / 4294967296 ≤ 800000000000000000 := by omega
  generalize u + u / 4294967296 = t at *
  have s11 : bits .and .i64 (t : Int) 127 = (pc x : Int) := by rw [i64_and127, ← h4]; rfl
  repeat' (first | refine sA ?_ | ((with_reducible first | refine hK _ ?_ | refine hK _ _ ?_); clear hK K) | ((first | refine sB ?_ | (with_reducible first | refine ops_cons (fun K hK => ?_) | refine W_reg lv145Popc ?_) | with_reducible refine And.intro (fun h => ?_) (fun h => ?_) | with_reducible refine And.intro (by omega) ?_); (try simp only [go_sem, seval, reduceCtorEq, s1, s2, s3, s4, s5, s6, s7, s8, s9, s10, s11, lv145Popc, Tryz.ntmps145, Tryz.results145, ocS])) | fail)
end Go.Proofs.YtpocnjliigjidaaGreat
