import Derived.Test.YtpocnjliigjidaaGreatEngI
/- Engine, part J: append. -/
namespace Go.Proofs.YtpocnjliigjidaaGreat
set_option linter.unusedSimpArgs false
set_option linter.unusedVariables false
open Go.RowKit
theorem append_sem {P : Program} (w : World) (t ty e : TypeId) (i : TypeInfo) (z : Value) (ht : P.underlying t = some (.slice e)) (hi : P.info? e = some i) (hz : i.zero = some z) (hzs : z.cells.size = i.size)
    (v : Value) (n : Nat) (olds : List Value)
    (hv : (v = .slice none 0 0 ∧ n = 0 ∧ olds = []) ∨ ∃ g cap cur, v = .slice (some ⟨g, 0, none⟩) n cap ∧ w.heap[g]? = some (.cells cur e (0, 0)) ∧ n ≤ cap ∧ cap ≤ maxLen ∧ cur.size = cap * i.size ∧ cur.toList.take (n * i.size) = olds)
    (x : Value) (m : Nat) (news : List Value)
    (hx : (∃ A c, x = .slice A 0 c ∧ m = 0 ∧ news = []) ∨ ∃ a c, x = .slice (some a) m c ∧ news.length = m * i.size ∧ (∀ j u, news[j]? = some u → w.cell? (a.add j) = some u) ∧ (∀ u ∈ news, u.oneCell' = true))
    (h63 : n + m ≤ maxLen) (hbytes : (n + m) * i.bytes ≤ 140737488355328) :
    ∃ v' w', (Builtin.append_ #[t, t] ty #[v, x]).run P w = .ok v' w' ∧
      ((v' = .slice none 0 0 ∧ w' = w ∧ n + m = 0 ∧ v = .slice none 0 0) ∨
       (∃ g cap cur cur', v = .slice (some ⟨g, 0, none⟩) n cap ∧ v' = .slice (some ⟨g, 0, none⟩) (n + m) cap ∧ n + m ≤ cap ∧ cap ≤ maxLen ∧ w.heap[g]? = some (.cells cur e (0, 0)) ∧ w' = w.setRow g cur' ∧ cur'.size = cur.size ∧ cur.size = cap * i.size ∧
          cur'.toList.take ((n + m) * i.size) = olds ++ news) ∨
       (∃ c' arr, v' = .slice (some ⟨w.heap.size, 0, none⟩) (n + m) c' ∧ n + m ≤ c' ∧ c' ≤ maxLen ∧ w' = w.drew.alloc (.cells arr e) ∧ arr.size = c' * i.size ∧ arr.toList.take ((n + m) * i.size) = olds ++ news)) := by
  have hsmall : n + m ≤ 9223372036854775807 := by simp only [maxLen] at h63; omega
  have hnl : news.length = m * i.size := by
    rcases hx with ⟨A, c, _, rfl, rfl⟩ | ⟨a, c, _, h, _⟩
    · simp
    · exact h
  -- what a new row is
  have grown : ∀ old, old < n + m → olds.length = n * i.size → ∃ c' arr, grownCap w (n + m) old e = c' ∧ n + m ≤ c' ∧ c' ≤ maxLen ∧
      olds.toArray ++ news.toArray ++ Builtin.zeroCells z.cells (grownCap w (n + m) old e - (n + m)) = arr ∧ arr.size = c' * i.size ∧ arr.toList.take ((n + m) * i.size) = olds ++ news := by
    intro old _ hol
    have hge := grownCap_ge w (n + m) old e
    refine ⟨_, _, rfl, hge, grownCap_le_maxLen w (n + m) old e h63, rfl, ?_, ?_⟩
    · simp only [Array.size_append, List.size_toArray, size_zeroCells, hzs, hol, hnl, ← Nat.add_mul]
      congr 1
      omega
    · simp only [Array.toList_append, List.append_assoc]
      have : (n + m) * i.size = (olds ++ news).length := by simp [hol, hnl, Nat.add_mul]
      rw [← List.append_assoc, this]
      exact List.take_left
  rcases hv with ⟨rfl, rfl, rfl⟩ | ⟨g, cap, cur, rfl, hg, hnc, hcm, hcs, htake⟩
  · by_cases hm : m = 0
    · subst hm
      have hn : news = [] := List.eq_nil_of_length_eq_zero (by simpa using hnl)
      subst hn
      refine ⟨.slice none 0 0, w, ?_, .inl ⟨rfl, rfl, rfl, rfl⟩⟩
      have hx' : ∃ A c, x = .slice A 0 c := by
        rcases hx with ⟨A, c, rfl, _⟩ | ⟨a, c, rfl, _⟩
        · exact ⟨A, c, rfl⟩
        · exact ⟨some a, c, rfl⟩
      obtain ⟨A, c, rfl⟩ := hx'
      cases A <;> simp [Builtin.append_, run_underlying ht, sizeOf, typeInfo, hi, Builtin.lenOf, Builtin.firstCells, loadCells, loadCellsFrom]
    · rcases hx with ⟨A, c, rfl, h, _⟩ | ⟨a, c, rfl, hl, hnews, h1⟩
      · exact absurd h hm
      · have hr := run_append_nil (P := P) w t ty e i z ht hi hz a m c news hl hnews (by omega) (by omega) (by have hb := hbytes; simp only [Nat.zero_add] at hb; omega)
        obtain ⟨c', arr, e1, e2, e3, e4, e5, e6⟩ := grown 0 (by omega) (by simp)
        simp only [Nat.zero_add] at *
        refine ⟨_, _, hr, .inr (.inr ⟨c', arr, by rw [e1], e2, e3, by rw [← e4]; simp, e5, e6⟩)⟩
  · have hol : olds.length = n * i.size := by
      rw [← htake, List.length_take, Array.length_toList, hcs]
      exact Nat.min_eq_left (Nat.mul_le_mul_right _ hnc)
    by_cases hroom : n + m ≤ cap
    · have hfit : n * i.size + news.length ≤ cur.size := by rw [hnl, hcs, ← Nat.add_mul]; exact Nat.mul_le_mul_right _ hroom
      rcases hx with ⟨A, c, rfl, rfl, rfl⟩ | ⟨a, c, rfl, hl, hnews, h1⟩
      · refine ⟨.slice (some ⟨g, 0, none⟩) n cap, w, ?_, .inr (.inl ⟨g, cap, cur, cur, rfl, rfl, hnc, hcm, hg, (setRow_self w g cur e (0, 0) hg).symm, rfl, hcs, by simpa using htake⟩)⟩
        cases A <;> simp [Builtin.append_, run_underlying ht, sizeOf, typeInfo, hi, Builtin.lenOf, Builtin.firstCells, loadCells, loadCellsFrom, hnc, storeCells]
      · have hr := run_append_room (P := P) w t ty e i ht hi g n cap cur hg a m c news hl hnews h1 hroom hfit
        refine ⟨_, _, hr, .inr (.inl ⟨g, cap, cur, _, rfl, rfl, hroom, hcm, hg, rfl, ?_, hcs, ?_⟩)⟩
        · simp only [List.size_toArray, List.length_append, List.length_take, List.length_drop, Array.length_toList]
          omega
        · have : (n + m) * i.size = (olds ++ news).length := by simp [hol, hnl, Nat.add_mul]
          rw [htake, this]
          exact List.take_left
    · rcases hx with ⟨A, c, rfl, rfl, rfl⟩ | ⟨a, c, rfl, hl, hnews, h1⟩
      · omega
      · have holds : ∀ j u, olds[j]? = some u → w.cell? ((⟨g, 0, none⟩ : Addr).add j) = some u := by
          intro j u hj
          rw [← htake, List.getElem?_take] at hj
          split at hj
          · rw [Addr_add]
            have hlt : j < cur.size := by have := (List.getElem?_eq_some_iff.1 hj).1; simpa using this
            simp [World.cell?, hg]
            simpa using hj
          · cases hj
        have hr := run_append_grow (P := P) w t ty e i z ht hi hz ⟨g, 0, none⟩ n cap olds hol holds a m c news hl hnews (by omega) (by omega) (growslice_fits (by omega) hbytes)
        obtain ⟨c', arr, e1, e2, e3, e4, e5, e6⟩ := grown cap (by omega) hol
        exact ⟨_, _, hr, .inr (.inr ⟨c', arr, by rw [e1], e2, e3, by rw [← e4], e5, e6⟩)⟩
def srcV (hs : Nat → Option Ob) (sz : Nat) (y : AV) (K : List (List D) → List Nat → Prop) : Prop :=
  match y with
  | .d (.sl rows) => (∀ r ∈ rows, r.length = sz) ∧ K rows []
  | .nil => K [] []
  | .row i sz' o len => match hs i with
    | some (.rows _ sz'' rs) => sz' = sz ∧ sz'' = sz ∧ o + len ≤ rs.length ∧ K ((rs.drop o).take len) [i]
    | _ => False
  | .sub i sz' o len => match hs i with
    | some (.rows _ sz'' rs) => sz' = sz ∧ sz'' = sz ∧ o + len ≤ rs.length ∧ K ((rs.drop o).take len) [i]
    | _ => False
  | _ => False
def Reads (w : World) (S : Nat → Prop) (sz : Nat) (rows : List (List D)) (v : Value) : Prop :=
  ∃ news : List Value, ((∃ A c, v = .slice A 0 c ∧ rows.length = 0 ∧ news = []) ∨ ∃ a c, v = .slice (some a) rows.length c ∧ news.length = rows.length * sz ∧ (∀ j u, news[j]? = some u → w.cell? (a.add j) = some u) ∧ (∀ u ∈ news, u.oneCell' = true)) ∧
    news.length = rows.length * sz ∧ ∀ (k j : Nat) (r : List D) (x : D) (u : Value), rows[k]? = some r → r[j]? = some x → news[k * sz + j]? = some u → RepD w S x u
theorem RepD.reads {w : World} {S : Nat → Prop} {rows : List (List D)} {v : Value} {sz : Nat} (h : RepD w S (.sl rows) v) (hsz : ∀ r ∈ rows, r.length = sz) : Reads w S sz rows v := by
  cases h with
  | nil => exact ⟨[], .inl ⟨_, _, rfl, rfl, rfl⟩, by simp, by simp⟩
  | sl f hS hc hs2 hcell hrep =>
    rename_i b off c sz'
    cases rows with
    | nil => exact ⟨[], .inl ⟨_, _, rfl, rfl, rfl⟩, by simp, by simp⟩
    | cons r0 rows =>
      have e : sz' = sz := by rw [← hs2 0 r0 rfl]; exact hsz r0 (by simp)
      subst e
      generalize hR : r0 :: rows = R at *
      have hdm : ∀ q, q < R.length * sz' → 0 < sz' := by intro q hq; rcases Nat.eq_zero_or_pos sz' with h | h <;> simp_all
      have inr : ∀ q, q < R.length * sz' → ∃ r x, R[q / sz']? = some r ∧ r[q % sz']? = some x := by
        intro q hq
        have hp := hdm q hq
        have h1 : q / sz' < R.length := (Nat.div_lt_iff_lt_mul hp).2 hq
        have h2 := hs2 _ _ (List.getElem?_eq_getElem h1)
        have h3 : q % sz' < R[q / sz'].length := by rw [h2]; exact Nat.mod_lt _ hp
        exact ⟨_, _, List.getElem?_eq_getElem h1, List.getElem?_eq_getElem h3⟩
      let news := (List.range (R.length * sz')).map fun q => f (q / sz') (q % sz')
      have hget : ∀ (j : Nat) (u : Value), news[j]? = some u → j < R.length * sz' ∧ u = f (j / sz') (j % sz') := by
        intro j u hj
        simp only [news, List.getElem?_map] at hj
        have hlt : j < R.length * sz' := by
          rcases Nat.lt_or_ge j (R.length * sz') with h | h
          · exact h
          · rw [List.getElem?_eq_none (by simpa using h)] at hj; simp at hj
        rw [List.getElem?_range hlt] at hj
        simp at hj
        exact ⟨hlt, hj.symm⟩
      refine ⟨news, .inr ⟨⟨b, off, none⟩, c, rfl, by simp [news], fun j u hj => ?_, fun u hu => ?_⟩, by simp [news], fun k j r x u hk hj hu => ?_⟩
      · obtain ⟨hlt, rfl⟩ := hget j u hj
        obtain ⟨r, x, h1, h2⟩ := inr j hlt
        have := hcell _ _ r x h1 h2
        rw [Addr_add]
        have e : off + j / sz' * sz' + j % sz' = off + j := by have := Nat.div_add_mod j sz'; rw [Nat.mul_comm] at this; omega
        rwa [e] at this
      · obtain ⟨j, hj⟩ := List.mem_iff_getElem?.1 hu
        obtain ⟨hlt, rfl⟩ := hget j u hj
        obtain ⟨r, x, h1, h2⟩ := inr j hlt
        exact (hrep _ _ r x h1 h2).one
      · obtain ⟨hlt, rfl⟩ := hget _ u hu
        have hjl : j < sz' := by rw [← hs2 _ r hk]; exact (List.getElem?_eq_some_iff.1 hj).1
        have e1 : (k * sz' + j) / sz' = k := by rw [Nat.mul_comm, Nat.mul_add_div (by omega), Nat.div_eq_of_lt hjl, Nat.add_zero]
        have e2 : (k * sz' + j) % sz' = j := by rw [Nat.mul_comm, Nat.mul_add_mod, Nat.mod_eq_of_lt hjl]
        rw [e1, e2]
        exact hrep k j r x hk hj
theorem own_reads {cx : Cx} {H : Nat → Option Ob} {T : Nat → Option AV} {μ : Mu} {a : Act} {w : World} (hr : RR cx H T μ a w) {i b sz o len : Nat} {t : TypeId} {rs : List (List D)} (hi : H i = some (.rows t sz rs)) (hb : μ i = some (some b)) (hl : o + len ≤ rs.length) (c : Nat) :
    Reads w (cx.Sta H μ w) sz ((rs.drop o).take len) (.slice (some ⟨b, o * sz, none⟩) len c) := by
  cases hr.ob i _ hi with
  | rowsNil b1 _ => rw [hb] at b1; cases b1
  | rows b1 b2 b3 b4 b5 b6 =>
    rename_i b' arr
    rw [hb] at b1; injection b1 with b1; injection b1 with b1; subst b1
    have hlen : ((rs.drop o).take len).length = len := by simp; omega
    have hmul : (o + len) * sz ≤ rs.length * sz := Nat.mul_le_mul_right _ hl
    rw [Nat.add_mul] at hmul
    have get : ∀ (p : Nat) (r : List D), ((rs.drop o).take len)[p]? = some r → rs[o + p]? = some r := by
      intro p r hp
      rw [List.getElem?_take] at hp
      split at hp
      · rwa [List.getElem?_drop] at hp
      · cases hp
    have nget : ∀ (j : Nat) (u : Value), ((arr.toList.drop (o * sz)).take (len * sz))[j]? = some u → j < len * sz ∧ arr[o * sz + j]? = some u := by
      intro j u hj
      rw [List.getElem?_take] at hj
      split at hj
      · rw [List.getElem?_drop] at hj; exact ⟨‹_›, by simpa using hj⟩
      · cases hj
    -- each cell that is read stands for something
    have rep : ∀ (j : Nat) (u : Value), ((arr.toList.drop (o * sz)).take (len * sz))[j]? = some u → ∃ x, RepD w (cx.Sta H μ w) x u := by
      intro j u hj
      obtain ⟨h1, h2⟩ := nget j u hj
      have hp : j / sz < len := (Nat.div_lt_iff_lt_mul b3).2 h1
      have hp2 : o + j / sz < rs.length := by omega
      have h3 := b5 _ _ (List.getElem?_eq_getElem hp2)
      have h4 : j % sz < rs[o + j / sz].length := by rw [h3]; exact Nat.mod_lt _ b3
      refine ⟨_, b6 (o + j / sz) (j % sz) _ _ u (List.getElem?_eq_getElem hp2) (List.getElem?_eq_getElem h4) ?_⟩
      have e : (o + j / sz) * sz + j % sz = o * sz + j := by
        have := Nat.div_add_mod j sz
        rw [Nat.mul_comm] at this
        rw [Nat.add_mul]; omega
      rw [e]; exact h2
    refine ⟨(arr.toList.drop (o * sz)).take (len * sz), .inr ⟨⟨b, o * sz, none⟩, c, by rw [hlen], by rw [hlen]; simp; omega, fun j u hj => ?_, fun u hu => ?_⟩, by rw [hlen]; simp; omega, fun k j r x u hk hj hu => ?_⟩
    · obtain ⟨h1, h2⟩ := nget j u hj
      rw [Addr_add]
      simp [World.cell?, b2, h2]
    · obtain ⟨j, hj⟩ := List.mem_iff_getElem?.1 hu
      obtain ⟨x, hx⟩ := rep j u hj
      exact hx.one
    · obtain ⟨h1, h2⟩ := nget _ u hu
      refine b6 (o + k) j r x u (get k r hk) hj ?_
      rw [Nat.add_mul, Nat.add_assoc]; exact h2
theorem srcV_reads {hs : Nat → Option Ob} {sz : Nat} {y : AV} {K : List (List D) → List Nat → Prop} (h : srcV hs sz y K) : ∃ rows rd, K rows rd ∧
    ∀ (cx : Cx) (H : Nat → Option Ob) (T : Nat → Option AV) (μ : Mu) (a : Act) (w : World) (v : Value), RR cx H T μ a w → (∀ i, i ∈ rd → H i = hs i) → Rep w (cx.Sta H μ w) μ y v →
      Reads w (cx.Sta H μ w) sz rows v ∧ (∀ r ∈ rows, r.length = sz) := by
  have rowlen : ∀ (cx : Cx) (H : Nat → Option Ob) (T : Nat → Option AV) (μ : Mu) (a : Act) (w : World) (i o len : Nat) (t : TypeId) (rs : List (List D)), RR cx H T μ a w → H i = some (.rows t sz rs) → ∀ r ∈ (rs.drop o).take len, r.length = sz := by
    intro cx H T μ a w i o len t rs hr hi r hm
    have hm2 : r ∈ rs := List.mem_of_mem_drop (List.mem_of_mem_take hm)
    cases hr.ob i _ hi with
    | rowsNil _ _ => simp at hm2
    | rows _ _ _ _ b5 _ =>
      obtain ⟨j, hj⟩ := List.mem_iff_getElem?.1 hm2
      exact b5 j r hj
  cases y with
  | d x =>
    cases x with
    | sl rows =>
      obtain ⟨h1, hK⟩ := h
      refine ⟨_, _, hK, fun cx H T μ a w v hr hH hy => ?_⟩
      cases hy with | d hy => exact ⟨hy.reads h1, h1⟩
    | _ => exact h.elim
  | nil =>
    refine ⟨_, _, h, fun cx H T μ a w v hr hH hy => ?_⟩
    cases hy with | nil => exact ⟨⟨[], .inl ⟨_, _, rfl, rfl, rfl⟩, by simp, by simp⟩, by simp⟩
  | row i sz' o len =>
    simp only [srcV] at h
    split at h
    · rename_i t sz'' rs hob
      obtain ⟨rfl, rfl, hl, hK⟩ := h
      refine ⟨_, _, hK, fun cx H T μ a w v hr hH hy => ?_⟩
      have hHi := (hH i (by simp)).trans hob
      refine ⟨?_, rowlen cx H T μ a w i o len t rs hr hHi⟩
      cases hy with
      | rowNil hb => exact ⟨[], .inl ⟨_, _, rfl, by simp, rfl⟩, by simp, by simp⟩
      | row hb h2 h3 h4 h5 => exact own_reads hr hHi hb hl _
    · exact h.elim
  | sub i sz' o len =>
    simp only [srcV] at h
    split at h
    · rename_i t sz'' rs hob
      obtain ⟨rfl, rfl, hl, hK⟩ := h
      refine ⟨_, _, hK, fun cx H T μ a w v hr hH hy => ?_⟩
      have hHi := (hH i (by simp)).trans hob
      refine ⟨?_, rowlen cx H T μ a w i o len t rs hr hHi⟩
      cases hy with
      | subNil => exact ⟨[], .inl ⟨_, _, rfl, by simp, rfl⟩, by simp, by simp⟩
      | sub hb h3 h4 => exact own_reads hr hHi hb hl _
    · exact h.elim
  | _ => exact h.elim
def apV (P : Program) (hs : Nat → Option Ob) (t : TypeId) (x y : AV) (K : Ob → Nat → Nat → List (Nat × Option Ob) → List Nat → Prop) : Prop :=
  (TL P t).ok = true ∧ ∃ e, (TL P t).selem = some e ∧ 0 < (TL P e).size ∧ (TL P e).bytes ≤ 100000 ∧ (∃ z, (TL P e).zero = some z ∧ z.length = (TL P e).size) ∧
    srcV hs (TL P e).size y fun src rd =>
      match x with
      | .nil => src.length ≤ 1000000000 ∧ K (.rows e (TL P e).size src) (TL P e).size src.length [] rd
      | .row i sz 0 len => (match hs i with
        | some (.rows t' sz' rs) => t' = e ∧ sz = (TL P e).size ∧ sz' = sz ∧ len ≤ rs.length ∧ len + src.length ≤ 1000000000 ∧ K (.rows e (TL P e).size (rs.take len ++ src)) (TL P e).size (len + src.length) [(i, none)] (i :: rd)
        | _ => False)
      | _ => False
theorem RR.regrow {cx : Cx} {H : Nat → Option Ob} {T : Nat → Option AV} {μ : Mu} {a : Act} {w : World} (h : RR cx H T μ a w) {n0 : Nat} (hn : μ n0 = none) (ob : Ob) (x : AV) (rd : List Nat) (kill : List (Nat × Option Ob)) {w' : World} {nb : Option Nat} {Wr : Nat → Prop}
    (hkill : kill = [] ∨ ∃ i, kill = [(i, none)] ∧ H i ≠ none)
    (hev : Ev w w' Wr) (hWr : ∀ b, Wr b → ∃ i, kill = [(i, none)] ∧ μ i = some (some b))
    (hnb : ∀ b, nb = some b → (w.heap.size ≤ b ∧ b < w'.heap.size) ∨ (∃ i, kill = [(i, none)] ∧ μ i = some (some b)))
    (hob : ∀ S', (∀ b, cx.Sta H μ w b → S' b) → ObRep w' S' (setMu μ n0 nb) n0 ob) :
    RR cx (appH n0 ⟨x, [ob], kill, rd⟩ H) T (setMu μ n0 nb) a w' := by
  have hk : ∀ j, (Eff.wlook ⟨x, [ob], kill, rd⟩ j = none ∧ ¬ kill = [(j, none)]) ∨ (Eff.wlook ⟨x, [ob], kill, rd⟩ j = some none ∧ kill = [(j, none)] ∧ H j ≠ none) := by
    intro j
    rcases hkill with rfl | ⟨i, rfl, hi⟩
    · left; simp [Eff.wlook]
    · by_cases hij : i = j
      · subst hij; right; simp [Eff.wlook, hi]
      · left; simp [Eff.wlook, hij]
  have hH : ∀ j, appH n0 ⟨x, [ob], kill, rd⟩ H j = if j = n0 then some ob else match Eff.wlook ⟨x, [ob], kill, rd⟩ j with | some y => y | none => H j := by
    intro j
    by_cases hj : j = n0
    · subst hj; simp [appH]
    · have : ¬ (n0 ≤ j ∧ j < n0 + 1) := by omega
      unfold appH
      rw [if_neg (by simpa using this), if_neg hj]
      rfl
  have hμ : ∀ i x, μ i = some x → setMu μ n0 nb i = some x := by
    intro i x hx
    have : i ≠ n0 := by rintro rfl; rw [hn] at hx; cases hx
    simp [setMu, this, hx]
  have hne : ∀ i, μ i ≠ none → i ≠ n0 := by rintro i hi rfl; exact hi hn
  have hnew : ∀ i b', μ i = none → setMu μ n0 nb i = some (some b') → i = n0 ∧ nb = some b' := by
    intro i b' h1 h2
    by_cases hi : i = n0
    · simp [setMu, hi] at h2; exact ⟨hi, h2⟩
    · simp [setMu, hi, h1] at h2
  have hkn : ∀ i, kill = [(i, none)] → μ i ≠ none := by
    intro i hi hm
    rcases hkill with h0 | ⟨q, h0, hq⟩
    · rw [h0] at hi; cases hi
    · rw [h0] at hi; injection hi with hi; injection hi with hi; subst hi
      obtain ⟨o', ho'⟩ := Option.ne_none_iff_exists'.1 hq
      have := h.ob q o' ho'
      cases this <;> simp_all
  have hgone : ∀ i, kill = [(i, none)] → H i ≠ none := by
    intro i hi
    rcases hkill with h0 | ⟨q, h0, hq⟩
    · rw [h0] at hi; cases hi
    · rw [h0] at hi; injection hi with hi; injection hi with hi; subst hi; exact hq
  have hdead : ∀ i, kill = [(i, none)] → appH n0 ⟨x, [ob], kill, rd⟩ H i = none := by
    intro i hi
    rw [hH, if_neg (hne i (hkn i hi))]
    rcases hk i with ⟨_, h2⟩ | ⟨h1, _, _⟩
    · exact absurd hi h2
    · rw [h1]
  have hS : ∀ b', cx.Sta H μ w b' → cx.Sta (appH n0 ⟨x, [ob], kill, rd⟩ H) (setMu μ n0 nb) w' b' := by
    intro b' hb'
    have hnot : ∀ i, H i ≠ none → μ i ≠ some (some b') := fun i hi he => h.notSta hi he hb'
    have hlt := h.staLt hb'
    rcases hb' with hv | ⟨h1, h2, h3, h4⟩
    · exact .inl hv
    · refine .inr ⟨h1, Nat.lt_of_lt_of_le h2 hev.size, h3, fun i hi he => ?_⟩
      by_cases hin : i = n0
      · subst hin
        have := (hnew i b' hn he).2
        rcases hnb b' this with h5 | ⟨q, h5, h6⟩
        · omega
        · exact hnot q (hgone q h5) h6
      · rw [hH, if_neg hin] at hi
        simp [setMu, hin] at he
        rcases hk i with ⟨h5, _⟩ | ⟨h5, _, _⟩
        · rw [h5] at hi; exact h4 i hi he
        · rw [h5] at hi; exact hi rfl
  refine (h.step (H' := appH n0 ⟨x, [ob], kill, rd⟩ H) (μ' := setMu μ n0 nb) (fun i => kill = [(i, none)]) hev (fun b hb => ?_) hμ (fun i hi hk' => ?_) (fun i _ hi _ => hgone i hi) (fun i b h1 h2 => ?_) (fun i j b h1 h2 h3 h4 => (hnew i b h1 h3).1.trans (hnew j b h2 h4).1.symm) (fun i o hor ho => ?_)).2
  · obtain ⟨i, h1, h2⟩ := hWr b hb
    exact ⟨i, h1, hgone i h1, h2⟩
  · rw [hH, if_neg (hne i hi)]
    rcases hk i with ⟨h1, _⟩ | ⟨_, h2, _⟩
    · rw [h1]
    · exact absurd h2 hk'
  · obtain ⟨_, hb⟩ := hnew i b h1 h2
    rcases hnb b hb with h3 | ⟨q, h3, h4⟩
    · exact .inl h3
    · exact .inr ⟨q, hgone q h3, hdead q h3, h4⟩
  · rcases hor with hf | hm
    · rw [hdead i hf] at ho; cases ho
    · by_cases hin : i = n0
      · subst hin
        rw [hH, if_pos rfl] at ho
        injection ho with ho; subst ho
        exact hob _ hS
      · rw [hH, if_neg hin] at ho
        rcases hk i with ⟨h1, _⟩ | ⟨h1, _, _⟩
        · rw [h1] at ho
          exact absurd (h.ob i o ho) (fun hr => by cases hr <;> simp_all)
        · rw [h1] at ho; cases ho
theorem rows_of_take {w : World} {S : Nat → Prop} {sz n m : Nat} {arr : Array Value} {olds news : List Value} {rs src : List (List D)} (hsz : 0 < sz) (ht : arr.toList.take ((n + m) * sz) = olds ++ news) (hlen : (n + m) * sz ≤ arr.size) (hn : rs.length = n) (hm : src.length = m)
    (hol : olds.length = n * sz) (hnl : news.length = m * sz) (hr1 : ∀ r ∈ rs, r.length = sz) (hr2 : ∀ r ∈ src, r.length = sz)
    (h1 : ∀ (k j : Nat) (r : List D) (x : D) (u : Value), rs[k]? = some r → r[j]? = some x → olds[k * sz + j]? = some u → RepD w S x u)
    (h2 : ∀ (k j : Nat) (r : List D) (x : D) (u : Value), src[k]? = some r → r[j]? = some x → news[k * sz + j]? = some u → RepD w S x u) :
    ∀ (k j : Nat) (r : List D) (x : D) (u : Value), (rs ++ src)[k]? = some r → r[j]? = some x → arr[k * sz + j]? = some u → RepD w S x u := by
  intro k j r x u hk hj hu
  have hkl : k < n + m := by have := (List.getElem?_eq_some_iff.1 hk).1; simp at this; omega
  have hr : r.length = sz := by
    have hmem := List.mem_of_getElem? hk
    rcases List.mem_append.1 hmem with h | h
    · exact hr1 r h
    · exact hr2 r h
  have hjl : j < sz := by rw [← hr]; exact (List.getElem?_eq_some_iff.1 hj).1
  have hlt : k * sz + j < (n + m) * sz := by
    have : (k + 1) * sz ≤ (n + m) * sz := Nat.mul_le_mul_right _ hkl
    rw [Nat.add_mul, Nat.one_mul] at this; omega
  have hu' : (olds ++ news)[k * sz + j]? = some u := by
    rw [← ht, List.getElem?_take, if_pos hlt]; simpa using hu
  by_cases hkn : k < n
  · have : (k + 1) * sz ≤ n * sz := Nat.mul_le_mul_right _ hkn
    rw [Nat.add_mul, Nat.one_mul] at this
    rw [List.getElem?_append_left (by omega)] at hu' hk
    exact h1 k j r x u hk hj hu'
  · have : n * sz ≤ k * sz := Nat.mul_le_mul_right _ (by omega)
    rw [List.getElem?_append_right (by omega)] at hu' hk
    refine h2 (k - n) j r x u (by rw [← hn]; exact hk) hj ?_
    have e : (k - n) * sz + j = k * sz + j - olds.length := by rw [hol, Nat.sub_mul]; omega
    rw [e]; exact hu'
theorem loc_append {cx : Cx} {n0 : Nat} {ts : Nat → Option AV} {hs : Nat → Option Ob} {o : Oper} {t : TypeId} {y z : Operand} {x s : AV} {K : Eff → Prop} (hd : dstOk cx.n o.dst)
    (ho : o.op = .call { callee := .builtin .append, args := #[y, z], argTypes := #[t, t] }) (hy : getT ts y = some x) (hz : getT ts z = some s)
    (h : apV cx.P hs t x s fun ob sz n kill rd => K ⟨.row n0 sz 0 n, [ob], kill, rd⟩) : ∃ e, LocOp cx n0 ts hs o e ∧ K e := by
  obtain ⟨hok, e, hse, hsz, hby, ⟨zc, hzc, hzcl⟩, h⟩ := h
  have hu := TL_selem hok hse
  obtain ⟨i, zv, h1, h2, h3, hsi, hoke, h4, h5⟩ := TL_zero hzc
  obtain ⟨i', _, h1', _, _, _, hbi⟩ := TL_ok hoke
  rw [h1] at h1'; injection h1' with h1'; subst h1'
  have hzs : zv.cells.size = i.size := by omega
  obtain ⟨src, rd, h, hsrc⟩ := srcV_reads h
  have hmy : y ∈ o.op.operands := by simp [Op.operands, ho, Call.operands]
  have hmz : z ∈ o.op.operands := by simp [Op.operands, ho, Call.operands]
  -- the run, once the base is known
  have go : ∀ (n : Nat) (rs : List (List D)) (kill : List (Nat × Option Ob)) (rd0 : List Nat), rs.length = n → n + src.length ≤ 1000000000 → (∀ q, q ∈ rd → q ∈ rd0) →
      (∀ (H : Nat → Option Ob) (T : Nat → Option AV) (μ : Mu) (a : Act) (w : World), RR cx H T μ a w → (∀ q, q ∈ rd0 ∨ q ∈ kill.map (·.1) → H q = hs q) → Rep w (cx.Sta H μ w) μ x (a.eval y) →
        (kill = [] ∨ ∃ q, kill = [(q, none)] ∧ H q ≠ none) ∧ ∃ olds : List Value, olds.length = n * i.size ∧ (∀ r ∈ rs, r.length = i.size) ∧
        (∀ (k j : Nat) (r : List D) (x : D) (u : Value), rs[k]? = some r → r[j]? = some x → olds[k * i.size + j]? = some u → RepD w (cx.Sta H μ w) x u) ∧
        ((a.eval y = .slice none 0 0 ∧ n = 0 ∧ olds = []) ∨ ∃ g cap cur, a.eval y = .slice (some ⟨g, 0, none⟩) n cap ∧ w.heap[g]? = some (.cells cur e (0, 0)) ∧ n ≤ cap ∧ cap ≤ maxLen ∧ cur.size = cap * i.size ∧ cur.toList.take (n * i.size) = olds ∧ ∃ q, kill = [(q, none)] ∧ μ q = some (some g))) →
      LocOp cx n0 ts hs o ⟨.row n0 (TL cx.P e).size 0 (n + src.length), [.rows e (TL cx.P e).size (rs ++ src)], kill, rd0⟩ := by
    intro n rs kill rd0 hrn hmax hrd hbase H T μ a w K Q hr hT hH hn hk
    have hxv := hr.eval (fun t ht => hT t (ht ▸ hmy)) hy
    have hsv := hr.eval (fun t ht => hT t (ht ▸ hmz)) hz
    obtain ⟨⟨news, hnews, hnl, hnrep⟩, hsl⟩ := hsrc cx H T μ a w (a.eval z) hr (fun q hq => hH q (.inl (hrd q hq))) hsv
    obtain ⟨hkill, olds, hol, hrl, hrep, hv⟩ := hbase H T μ a w hr hH hxv
    rw [hsi] at hnews hnl hsl
    simp only [hsi] at hnrep
    have hbytes : (n + src.length) * i.bytes ≤ 140737488355328 := by
      have : (n + src.length) * i.bytes ≤ 1000000000 * 100000 := Nat.mul_le_mul hmax (by omega)
      omega
    obtain ⟨v', w', hrun, hcase⟩ := append_sem (P := cx.P) w t o.type e i zv hu h1 h2 hzs (a.eval y) n olds (by
        rcases hv with hv | ⟨g, cap, cur, q1, q2, q3, q4, q5, q6, _⟩
        · exact .inl hv
        · exact .inr ⟨g, cap, cur, q1, q2, q3, q4, q5, q6⟩) (a.eval z) src.length news hnews (by simp [maxLen]; omega) hbytes
    have hex : (execOp a.eval o).run cx.P w = .ok (.value v') w' := by
      simp only [execOp, ho, resolve, invoke, builtin, Sem.run_bind, Sem.run_pure, Result.andThen_ok, List.map_toArray, List.map_cons, List.map_nil, hrun]
    unfold Oper.wp
    rw [hex]
    have hn0 : μ n0 = none := hn 0 (by simp)
    have hμ : ∀ nb i x, μ i = some x → setMu μ n0 nb i = some x := by
      intro nb i x hx
      have : i ≠ n0 := by rintro rfl; rw [hn0] at hx; cases hx
      simp [setMu, this, hx]
    have hlast : ∀ nb, ∀ q, setMu μ n0 nb q ≠ none → μ q ≠ none ∨ (n0 ≤ q ∧ q < n0 + 1) := by
      intro nb q hq
      by_cases hqn : q = n0
      · subst hqn; exact .inr (by omega)
      · simp [setMu, hqn] at hq; exact .inl hq
    have hall : ∀ (q : Nat) (r : List D), (rs ++ src)[q]? = some r → r.length = i.size := by
      intro q r hq
      rcases List.mem_append.1 (List.mem_of_getElem? hq) with h | h
      · exact hrl r h
      · exact hsl r h
    have hip : 0 < i.size := by omega
    rw [hsi] at hk
    rcases hcase with ⟨rfl, rfl, e1, e2⟩ | ⟨g, cap, cur, cur', e1, rfl, e3, e4, e5, rfl, e7, e8, e9⟩ | ⟨c', arr, rfl, e2, e3, rfl, e5, e6⟩
    · have e3 : rs ++ src = [] := by
        have : rs.length = 0 := by omega
        have h' : src.length = 0 := by omega
        rw [List.eq_nil_of_length_eq_zero this, List.eq_nil_of_length_eq_zero h']; rfl
      rw [e3, e1] at hk
      have key := hr.regrow hn0 (.rows e i.size []) (.row n0 i.size 0 0) rd0 kill (nb := none) hkill (Ev.refl w' (fun _ => False)) (fun _ h => h.elim) (fun _ h => by cases h) (fun S' _ => .rowsNil (by simp [setMu]) hip)
      exact hk _ _ _ (key.putD hd (.rowNil (by simp [setMu]))) (hμ none) (hlast none)
    · have hq : ∃ q, kill = [(q, none)] ∧ μ q = some (some g) := by
        rcases hv with ⟨hv, _⟩ | ⟨g', cap', cur0, q1, _, _, _, _, _, q7⟩
        · rw [hv] at e1; cases e1
        · rw [q1] at e1
          simp only [Value.slice.injEq, Option.some.injEq, Addr.mk.injEq, and_true, true_and] at e1
          obtain ⟨rfl, rfl⟩ := e1
          exact q7
      obtain ⟨q, hq1, hq2⟩ := hq
      have hev := Ev.setRow e5 e7
      have hlen : (n + src.length) * i.size ≤ cur'.size := by rw [e7, e8]; exact Nat.mul_le_mul_right _ e3
      have hqlive : H q ≠ none := by
        rcases hkill with h0 | ⟨q', h0, h1⟩
        · rw [hq1] at h0; cases h0
        · rw [hq1] at h0; injection h0 with h0; injection h0 with h0; subst h0; exact h1
      have hns : ∀ c, c = g → ¬ cx.Sta H μ w c := fun c hc => hc ▸ hr.notSta hqlive hq2
      have hcells := rows_of_take (S := cx.Sta H μ w) (w := w) hip e9 hlen hrn rfl hol hnl hrl hsl hrep hnrep
      have key := hr.regrow hn0 (.rows e i.size (rs ++ src)) (.row n0 i.size 0 (n + src.length)) rd0 kill (nb := some g) hkill hev (fun b hb => ⟨q, hq1, hb ▸ hq2⟩) (fun b hb => .inr ⟨q, hq1, by injection hb with hb; exact hb ▸ hq2⟩)
        (fun S' hS => .rows (by simp [setMu]) (setRow_heap w g cur cur' e _ e5) hip (by simp [hrn]; exact hlen) hall (fun k j r x u hk' hj hu => (hcells k j r x u hk' hj hu).evolve hev hns hS))
      refine hk _ _ _ (key.putD hd ?_) (hμ (some g)) (hlast (some g))
      have := Rep.row (w := w.setRow g cur') (S := cx.Sta (appH n0 ⟨.row n0 i.size 0 (n + src.length), [.rows e i.size (rs ++ src)], kill, rd0⟩ H) (setMu μ n0 (some g)) (w.setRow g cur')) (μ := setMu μ n0 (some g)) (i := n0) (sz := i.size) (o := 0) (len := n + src.length) (b := g) (c := cap)
        (by simp [setMu]) (setRow_heap w g cur cur' e _ e5) e3 e4 (by rw [e7, e8]; simp)
      simpa using this
    · have hev : Ev w (w.drew.alloc (.cells arr e)) (fun _ => False) := by
        have hq := Ev.alloc w.drew (.cells arr e)
        exact ⟨hq.os, hq.tape, hq.output, hq.size, hq.block, hq.shape⟩
      have hnewb : (w.drew.alloc (.cells arr e)).heap[w.heap.size]? = some (.cells arr e (0, 0)) := alloc_new w.drew _
      have hlen : (n + src.length) * i.size ≤ arr.size := by rw [e5]; exact Nat.mul_le_mul_right _ e2
      have hcells := rows_of_take (S := cx.Sta H μ w) (w := w) hip e6 hlen hrn rfl hol hnl hrl hsl hrep hnrep
      have key := hr.regrow hn0 (.rows e i.size (rs ++ src)) (.row n0 i.size 0 (n + src.length)) rd0 kill (nb := some w.heap.size) hkill hev (fun _ h => h.elim) (fun b hb => .inl (by injection hb with hb; subst hb; exact ⟨Nat.le_refl _, heap_lt hnewb⟩))
        (fun S' hS => .rows (by simp [setMu]) hnewb hip (by simp [hrn]; exact hlen) hall (fun k j r x u hk' hj hu => (hcells k j r x u hk' hj hu).evolve hev (fun _ h => h.elim) hS))
      refine hk _ _ _ (key.putD hd ?_) (hμ (some w.heap.size)) (hlast (some w.heap.size))
      have := Rep.row (w := w.drew.alloc (.cells arr e)) (S := cx.Sta (appH n0 ⟨.row n0 i.size 0 (n + src.length), [.rows e i.size (rs ++ src)], kill, rd0⟩ H) (setMu μ n0 (some w.heap.size)) (w.drew.alloc (.cells arr e))) (μ := setMu μ n0 (some w.heap.size)) (i := n0) (sz := i.size) (o := 0) (len := n + src.length) (b := w.heap.size) (c := c')
        (by simp [setMu]) hnewb e2 e3 (by rw [e5]; simp)
      simpa using this
  cases x with
  | nil =>
    obtain ⟨hm, hK⟩ := h
    have := go 0 [] [] rd rfl (by simpa using hm) (fun _ h => h) (fun H T μ a w hr hH hx => ⟨.inl rfl, [], by simp, by simp, by simp, .inl ⟨by generalize a.eval y = vv at hx; cases hx; rfl, rfl, rfl⟩⟩)
    simp only [Nat.zero_add, List.nil_append] at this
    exact ⟨_, this, hK⟩
  | row q sz o' len =>
    cases o' with
    | succ _ => exact h.elim
    | zero =>
      simp only at h
      split at h
      · rename_i t' sz' rs hob
        obtain ⟨rfl, e1, rfl, hlr, hm, hK⟩ := h
        have := go len (rs.take len) [(q, none)] (q :: rd) (by simp; omega) hm (fun _ h => by simp [h]) (fun H T μ a w hr hH hx => by
          have hHq : H q = some (.rows t' sz' rs) := (hH q (by simp)).trans hob
          refine ⟨.inr ⟨q, rfl, by simp [hHq]⟩, ?_⟩
          have e2 : sz' = i.size := by omega
          generalize hvy : a.eval y = vv at hx
          cases hx with
          | rowNil hb => exact ⟨[], by simp, by simp, by simp, .inl ⟨rfl, rfl, rfl⟩⟩
          | row hb b2 b3 b4 b5 =>
            cases hr.ob q _ hHq with
            | rowsNil c1 _ => rw [hb] at c1; cases c1
            | rows c1 c2 c3 c4 c5 c6 =>
              rename_i b c arr tt b' arr'
              rw [hb] at c1; injection c1 with c1; injection c1 with c1; subst c1
              rw [b2] at c2; injection c2 with c2; injection c2 with e3 e4; subst e3 e4
              subst e2
              have hlc : len * i.size ≤ arr.size := by rw [b5, Nat.zero_add]; exact Nat.mul_le_mul_right _ b3
              refine ⟨arr.toList.take (len * i.size), by simp; omega, fun r hr' => ?_, fun k j r x u hk' hj hu => ?_, .inr ⟨b, c, arr, by simp, b2, b3, b4, by rw [b5, Nat.zero_add], rfl, q, rfl, hb⟩⟩
              · obtain ⟨j, hj⟩ := List.mem_iff_getElem?.1 (List.mem_of_mem_take hr')
                exact c5 j r hj
              · rw [List.getElem?_take] at hk' hu
                split at hk'
                · split at hu
                  · exact c6 k j r x u hk' hj (by simpa using hu)
                  · cases hu
                · cases hk')
        exact ⟨_, this, hK⟩
      · exact h.elim
  | _ => exact h.elim
end Go.Proofs.YtpocnjliigjidaaGreat
namespace Go.Proofs.YtpocnjliigjidaaGreat
set_option linter.unusedSimpArgs false
set_option linter.unusedVariables false
open Go.RowKit
theorem div_bd {q m j sz : Nat} (hj : j < sz) (h : q * sz + j < m * sz) : q < m := by
  rcases Nat.lt_or_ge q m with h' | h'
  · exact h'
  · have := Nat.mul_le_mul_right sz h'; omega
theorem rows_over {w : World} {S : Nat → Prop} {sz : Nat} {rs src : List (List D)} {arr : Array Value} {k : Nat} {news : List Value} (hle : rs.length * sz ≤ arr.size) (hk : k + src.length ≤ rs.length) (hnl : news.length = src.length * sz)
    (hrl : ∀ (i : Nat) (r : List D), rs[i]? = some r → r.length = sz) (hsl : ∀ r ∈ src, r.length = sz)
    (hcells : ∀ (k j : Nat) (r : List D) (x : D) (v : Value), rs[k]? = some r → r[j]? = some x → arr[k * sz + j]? = some v → RepD w S x v)
    (hn : ∀ (p j : Nat) (r : List D) (x : D) (u : Value), src[p]? = some r → r[j]? = some x → news[p * sz + j]? = some u → RepD w S x u) :
    ∀ (q j : Nat) (r : List D) (x : D) (v : Value), (splice rs k src)[q]? = some r → r[j]? = some x → (splice arr.toList (k * sz) news).toArray[q * sz + j]? = some v → RepD w S x v := by
  intro q j r x v hq hj hv
  rw [splice_get _ _ _ _ hk] at hq
  have hfit : k * sz + news.length ≤ arr.toList.length := by
    rw [hnl, ← Nat.add_mul]; simp; exact Nat.le_trans (Nat.mul_le_mul_right _ hk) hle
  have hv' : (splice arr.toList (k * sz) news)[q * sz + j]? = some v := by simpa using hv
  rw [splice_get _ _ _ _ hfit] at hv'
  split at hq
  · rename_i hc
    have hjs : j < sz := by rw [← hsl r (List.mem_of_getElem? hq)]; exact (List.getElem?_eq_some_iff.1 hj).1
    have h1 : k * sz ≤ q * sz + j := Nat.le_trans (Nat.mul_le_mul_right _ hc.1) (by omega)
    have h2 : q * sz + j < k * sz + news.length := by
      rw [hnl, ← Nat.add_mul]
      have := Nat.mul_le_mul_right sz (show q + 1 ≤ k + src.length by omega)
      rw [Nat.add_mul] at this; omega
    rw [if_pos ⟨h1, h2⟩] at hv'
    refine hn (q - k) j r x v hq hj ?_
    have e : q * sz + j - k * sz = (q - k) * sz + j := by rw [Nat.sub_mul]; have := Nat.mul_le_mul_right sz hc.1; omega
    rw [← e]; exact hv'
  · rename_i hc
    have hjs : j < sz := by rw [← hrl q r hq]; exact (List.getElem?_eq_some_iff.1 hj).1
    have : ¬ (k * sz ≤ q * sz + j ∧ q * sz + j < k * sz + news.length) := by
      rintro ⟨h1, h2⟩
      apply hc
      rw [hnl, ← Nat.add_mul] at h2
      refine ⟨?_, div_bd hjs h2⟩
      rcases Nat.lt_or_ge q k with h' | h'
      · exfalso
        have := Nat.mul_le_mul_right sz (show q + 1 ≤ k from h')
        rw [Nat.add_mul] at this; omega
      · exact h'
    rw [if_neg this] at hv'
    exact hcells q j r x v hq hj (by simpa using hv')
theorem splice_nil {α : Type} (l : List α) (k : Nat) : splice l k [] = l := by simp [splice]
theorem loc_rowsWr {cx : Cx} {n0 : Nat} {ts : Nat → Option AV} {hs : Nat → Option Ob} {o : Oper} {q k : Nat} {t' : TypeId} {sz : Nat} {rs src : List (List D)} {x : AV} {rd : List Nat} (hd : dstOk cx.n o.dst) (hq : hs q = some (.rows t' sz rs)) (hk : k + src.length ≤ rs.length) (hrd : q ∈ rd)
    (h : ∀ (H : Nat → Option Ob) (T : Nat → Option AV) (μ : Mu) (a : Act) (w : World), RR cx H T μ a w → (∀ y z, y ∈ o.op.operands → getT ts y = some z → Rep w (cx.Sta H μ w) μ z (a.eval y)) → (∀ i, i ∈ rd → H i = hs i) →
      ∃ v, Rep w (cx.Sta H μ w) μ x v ∧ ((src = [] ∧ (execOp a.eval o).run cx.P w = .ok (.value v) w) ∨
        ∃ b arr news, μ q = some (some b) ∧ w.heap[b]? = some (.cells arr t' (0, 0)) ∧ (execOp a.eval o).run cx.P w = .ok (.value v) (w.setRow b (splice arr.toList (k * sz) news).toArray) ∧ news.length = src.length * sz ∧ (∀ r ∈ src, r.length = sz) ∧
          (∀ (p j : Nat) (r : List D) (x : D) (u : Value), src[p]? = some r → r[j]? = some x → news[p * sz + j]? = some u → RepD w (cx.Sta H μ w) x u))) :
    LocOp cx n0 ts hs o ⟨x, [], [(q, some (.rows t' sz (splice rs k src)))], rd⟩ := by
  intro H T μ a w K Q hr hT hH hn hK
  have hHq : H q = some (.rows t' sz rs) := (hH q (.inl hrd)).trans hq
  obtain ⟨v, hv, hcase⟩ := h H T μ a w hr (fun y z hy hz => hr.eval (fun t ht => hT t (ht ▸ hy)) hz) (fun i hi => hH i (.inl hi))
  unfold Oper.wp
  rcases hcase with ⟨rfl, hrun⟩ | ⟨b, arr, news, hb, hheap, hrun, hnl, hsl, hnr⟩
  · rw [hrun]
    rw [splice_nil] at hK
    have e : appH n0 ⟨x, [], [(q, some (.rows t' sz rs))], rd⟩ H = H := by
      funext i
      have : ¬ (n0 ≤ i ∧ i < n0 + 0) := by omega
      by_cases hi : i = q
      · subst hi; simp [appH, Eff.wlook, hHq] <;> omega
      · simp [appH, Eff.wlook, Ne.symm hi] <;> omega
    exact hK _ _ μ (by rw [e]; exact hr.putD hd hv) (fun _ _ h => h) (fun i hi => .inl hi)
  · rw [hrun]
    cases hr.ob q _ hHq with
    | rowsNil c1 _ => rw [hb] at c1; cases c1
    | rows c1 c2 c3 c4 c5 c6 =>
      rename_i b' arr'
      rw [hb] at c1; injection c1 with c1; injection c1 with c1; subst c1
      rw [hheap] at c2; injection c2 with c2; injection c2 with c2; subst c2
      have hfit : k * sz + news.length ≤ arr.toList.length := by
        rw [hnl, ← Nat.add_mul]; simp; exact Nat.le_trans (Nat.mul_le_mul_right _ hk) c4
      have hsz : (splice arr.toList (k * sz) news).toArray.size = arr.size := by simp [splice_length _ _ _ hfit]
      have hev := Ev.setRow hheap hsz
      have hns : ∀ c, c = b → ¬ cx.Sta H μ w c := fun c hc => hc ▸ hr.notSta (by simp [hHq]) hb
      have hlen : (splice rs k src).length = rs.length := splice_length _ _ _ hk
      have hov := rows_over (S := cx.Sta H μ w) (w := w) c4 hk hnl c5 hsl c6 hnr
      have key := hr.write (by simp [hHq]) hb n0 (.rows t' sz (splice rs k src)) x rd hev (.rows hb (setRow_heap w b arr _ t' _ hheap) c3 (by rw [hsz, hlen]; exact c4)
        (fun i r hi => by
          rw [splice_get _ _ _ _ hk] at hi
          split at hi
          · exact hsl r (List.mem_of_getElem? hi)
          · exact c5 i r hi)
        (fun p j r y u hp hj hu => (hov p j r y u hp hj hu).evolve hev hns (fun _ h => h)))
      refine hK _ _ μ (key.putD hd ?_) (fun _ _ h => h) (fun i hi => .inl hi)
      refine hv.evolve hev hns (fun c hc => ?_) (fun _ _ h => h)
      rcases hc with hc | ⟨u1, u2, u3, u4⟩
      · exact .inl hc
      · refine .inr ⟨u1, Nat.lt_of_lt_of_le u2 hev.size, u3, fun i hi he => ?_⟩
        by_cases hiq : i = q
        · subst hiq; exact u4 i (by rw [hHq]; simp) he
        · refine u4 i ?_ he
          have : ¬ (n0 ≤ i ∧ i < n0 + 0) := by omega
          simpa [appH, Eff.wlook, Ne.symm hiq, this] using hi
def apI (P : Program) (hs : Nat → Option Ob) (t : TypeId) (x y : AV) (K : AV → List (Nat × Option Ob) → List Nat → Prop) : Prop :=
  (TL P t).ok = true ∧ ∃ e, (TL P t).selem = some e ∧ (TL P e).ok = true ∧ 0 < (TL P e).size ∧
    srcV hs (TL P e).size y fun src rd =>
      match x with
      | .row i sz 0 len => (match hs i with
        | some (.rows t' sz' rs) => t' = e ∧ sz = (TL P e).size ∧ sz' = sz ∧ len + src.length ≤ rs.length ∧ K (.row i sz 0 (len + src.length)) [(i, some (.rows t' sz' (splice rs len src)))] (i :: rd)
        | _ => False)
      | _ => False
theorem loc_appendI {cx : Cx} {n0 : Nat} {ts : Nat → Option AV} {hs : Nat → Option Ob} {o : Oper} {t : TypeId} {y z : Operand} {x s : AV} {K : Eff → Prop} (hd : dstOk cx.n o.dst)
    (ho : o.op = .call { callee := .builtin .append, args := #[y, z], argTypes := #[t, t] }) (hy : getT ts y = some x) (hz : getT ts z = some s)
    (h : apI cx.P hs t x s fun v wr rd => K ⟨v, [], wr, rd⟩) : ∃ e, LocOp cx n0 ts hs o e ∧ K e := by
  obtain ⟨hok, e, hse, hoke, hsz, h⟩ := h
  have hu := TL_selem hok hse
  obtain ⟨i, _, h1, _, hsi, _⟩ := TL_ok hoke
  obtain ⟨src, rd, h, hsrc⟩ := srcV_reads h
  have hmy : y ∈ o.op.operands := by simp [Op.operands, ho, Call.operands]
  have hmz : z ∈ o.op.operands := by simp [Op.operands, ho, Call.operands]
  cases x with
  | row q sz o' len =>
    cases o' with
    | succ _ => exact h.elim
    | zero =>
      simp only at h
      split at h
      · rename_i t' sz' rs hob
        obtain ⟨rfl, e1, rfl, hlr, hK⟩ := h
        refine ⟨_, loc_rowsWr hd hob hlr (by simp) fun H T μ a w hr he hH => ?_, hK⟩
        have hHq : H q = some (.rows t' sz' rs) := (hH q (by simp)).trans hob
        obtain ⟨⟨news, hnews, hnl, hnrep⟩, hsl⟩ := hsrc cx H T μ a w (a.eval z) hr (fun p hp => hH p (by simp [hp])) (he z _ hmz hz)
        have hx := he y _ hmy hy
        have hi : sz' = i.size := by omega
        have hex : ∀ v' w', (Builtin.append_ #[t, t] o.type #[a.eval y, a.eval z]).run cx.P w = .ok v' w' → (execOp a.eval o).run cx.P w = .ok (.value v') w' := by
          intro v' w' hrun
          simp only [execOp, ho, resolve, invoke, builtin, Sem.run_bind, Sem.run_pure, Result.andThen_ok, List.map_toArray, List.map_cons, List.map_nil, hrun]
        generalize hvy : a.eval y = vy at hx
        cases hx with
        | rowNil hb =>
          have hr0 : rs.length = 0 := by
            cases hr.ob q _ hHq with
            | rowsNil _ _ => rfl
            | rows c1 => rw [hb] at c1; cases c1
          have hs0 : src = [] := List.eq_nil_of_length_eq_zero (by omega)
          subst hs0
          have hz0 : ∃ A c, a.eval z = .slice A 0 c := by
            rcases hnews with ⟨A, c, e2, _⟩ | ⟨a', c, e2, _⟩
            · exact ⟨A, c, e2⟩
            · exact ⟨some a', c, e2⟩
          obtain ⟨A, c, hz0⟩ := hz0
          refine ⟨.slice none 0 0, .rowNil hb, .inl ⟨rfl, hex _ _ ?_⟩⟩
          rw [hvy, hz0]
          cases A <;> simp [Builtin.append_, run_underlying hu, sizeOf, typeInfo, h1, Builtin.lenOf, Builtin.firstCells, loadCells, loadCellsFrom]
        | row hb b2 b3 b4 b5 =>
          rename_i b c arr tt
          cases hr.ob q _ hHq with
          | rowsNil c1 _ => rw [hb] at c1; cases c1
          | rows c1 c2 c3 c4 c5 c6 =>
            rename_i b' arr'
            rw [hb] at c1; injection c1 with c1; injection c1 with c1; subst c1
            rw [b2] at c2; injection c2 with c2; injection c2 with e3 e4; subst e3 e4
            have hrc : rs.length ≤ c := by
              rw [b5, Nat.zero_add] at c4
              exact Nat.le_of_mul_le_mul_right c4 c3
            have hv : Rep w (cx.Sta H μ w) μ (.row q sz' 0 (len + src.length)) (.slice (some ⟨b, 0 * sz', none⟩) (len + src.length) c) := .row hb b2 (by omega) b4 b5
            simp only [Nat.zero_mul] at hv hvy
            refine ⟨_, hv, ?_⟩
            rcases hnews with ⟨A, c0, e2, e5, e6⟩ | ⟨a', c0, e2, e5, e6, e7⟩
            · have hs0 : src = [] := List.eq_nil_of_length_eq_zero e5
              subst hs0
              refine .inl ⟨rfl, hex _ _ ?_⟩
              rw [hvy, e2]
              cases A <;> simp [Builtin.append_, run_underlying hu, sizeOf, typeInfo, h1, Builtin.lenOf, Builtin.firstCells, loadCells, loadCellsFrom, b3, storeCells]
            · refine .inr ⟨b, arr, news, hb, b2, hex _ _ ?_, by rw [hnl, e1], fun r hr' => by rw [hsl r hr', e1], fun p j r x u hp hj hu' => hnrep p j r x u hp hj (by rw [← e1]; exact hu')⟩
              have hnl' : news.length = src.length * i.size := by rw [hnl, ← e1, hi]
              have hfit : len * i.size + news.length ≤ arr.size := by
                rw [hnl', ← Nat.add_mul, ← hi]; exact Nat.le_trans (Nat.mul_le_mul_right _ hlr) c4
              have hrun := run_append_room (P := cx.P) (w := w) t o.type _ i hu h1 b len c arr b2 a' src.length c0 news hnl' e6 e7 (by omega) hfit
              rw [hvy, e2, hrun, hi]
              rfl
      · exact h.elim
  | _ => exact h.elim
def clV (P : Program) (hs : Nat → Option Ob) (t : TypeId) (x : AV) (K : List (Nat × Option Ob) → List Nat → Prop) : Prop :=
  (TL P t).ok = true ∧ ∃ e, (TL P t).selem = some e ∧ ∃ z, (TL P e).zero = some z ∧ z.length = (TL P e).size ∧ ∃ zr, z.mapM toD = some zr ∧
    match x with
    | .sub i sz o len => (match hs i with
      | some (.rows t' sz' rs) => sz = (TL P e).size ∧ sz' = sz ∧ o + len ≤ rs.length ∧ K [(i, some (.rows t' sz' (splice rs o (List.replicate len zr))))] [i]
      | _ => False)
    | _ => False
theorem zeroCells_get (z : Array Value) (n p j : Nat) (hp : p < n) (hj : j < z.size) : (Builtin.zeroCells z n).toList[p * z.size + j]? = z[j]? := by
  have hlt : p * z.size + j < n * z.size := by
    have := Nat.mul_le_mul_right z.size (show p + 1 ≤ n from hp)
    rw [Nat.add_mul] at this; omega
  have hm : (p * z.size + j) % z.size = j := by rw [Nat.add_comm, Nat.add_mul_mod_self_right, Nat.mod_eq_of_lt hj]
  simp [Builtin.zeroCells, hlt, hm, hj]
theorem loc_clear {cx : Cx} {n0 : Nat} {ts : Nat → Option AV} {hs : Nat → Option Ob} {o : Oper} {t : TypeId} {y : Operand} {x : AV} {K : Eff → Prop} (hd : dstOk cx.n o.dst)
    (ho : o.op = .call { callee := .builtin .clear, args := #[y], argTypes := #[t] }) (hy : getT ts y = some x)
    (h : clV cx.P hs t x fun wr rd => K ⟨.any, [], wr, rd⟩) : ∃ e, LocOp cx n0 ts hs o e ∧ K e := by
  obtain ⟨hok, e, hse, zc, hzc, hzl, zr, hzr, h⟩ := h
  have hu := TL_selem hok hse
  obtain ⟨i, zv, h1, h2, h3, hsi, hoke, h4, h5⟩ := TL_zero hzc
  obtain ⟨m1, m2⟩ := mapM_get _ _ hzr
  have hmy : y ∈ o.op.operands := by simp [Op.operands, ho, Call.operands]
  cases x with
  | sub q sz o' len =>
    simp only at h
    split at h
    · rename_i t' sz' rs hob
      obtain ⟨e1, rfl, hlr, hK⟩ := h
      refine ⟨_, loc_rowsWr (k := o') (src := List.replicate len zr) hd hob (by simpa using hlr) (by simp) fun H T μ a w hr he hH => ?_, hK⟩
      have hHq : H q = some (.rows t' sz' rs) := (hH q (by simp)).trans hob
      have hx := he y _ hmy hy
      have hex : ∀ w', (Builtin.clear_ #[t] o.type #[a.eval y]).run cx.P w = .ok (.tuple #[]) w' → (execOp a.eval o).run cx.P w = .ok (.value (.tuple #[])) w' := by
        intro w' hrun
        simp only [execOp, ho, resolve, invoke, builtin, Sem.run_bind, Sem.run_pure, Result.andThen_ok, List.map_toArray, List.map_cons, List.map_nil, hrun]
      refine ⟨.tuple #[], .any, ?_⟩
      generalize hvy : a.eval y = vy at hx
      cases hx with
      | subNil =>
        refine .inl ⟨rfl, hex _ ?_⟩
        rw [hvy]
        rename_i A c
        cases A <;> simp [Builtin.clear_, run_underlying hu]
      | sub hb b3 b4 =>
        rename_i b c
        rcases Nat.eq_zero_or_pos len with hl0 | hl0
        · subst hl0
          refine .inl ⟨rfl, hex _ ?_⟩
          rw [hvy]
          simp [Builtin.clear_, run_underlying hu]
        · cases hr.ob q _ hHq with
          | rowsNil c1 _ => rw [hb] at c1; cases c1
          | rows c1 c2 c3 c4 c5 c6 =>
            rename_i b' arr
            rw [hb] at c1; injection c1 with c1; injection c1 with c1; subst c1
            have hzs : zv.cells.size = sz' := by omega
            have hlen : (Builtin.zeroCells zv.cells len).toList.length = len * sz' := by simp [size_zeroCells, hzs]
            refine .inr ⟨b, arr, (Builtin.zeroCells zv.cells len).toList, hb, c2, hex _ ?_, by rw [hlen]; simp, ?_, ?_⟩
            · have hfit : o' * sz' + 0 + (Builtin.zeroCells zv.cells len).toList.length ≤ arr.size := by
                rw [hlen, Nat.add_zero, ← Nat.add_mul]; exact Nat.le_trans (Nat.mul_le_mul_right _ hlr) c4
              have hst := run_storeCells_at cx.P b (o' * sz') t' (Builtin.zeroCells zv.cells len).toList 0 arr w c2 hfit (fun v hv => by
                simp [Builtin.zeroCells] at hv
                obtain ⟨p, hp, rfl⟩ := hv
                have hz0 : 0 < zv.cells.size := by
                  rcases Nat.eq_zero_or_pos zv.cells.size with h0 | h0
                  · rw [h0, Nat.mul_zero] at hp; omega
                  · exact h0
                have hml := Nat.mod_lt p hz0
                rw [getElem!_pos zv.cells _ hml]
                exact h5 _ (Array.getElem_mem hml))
              simp only [Nat.add_zero] at hst
              obtain ⟨l', rfl⟩ : ∃ l', len = l' + 1 := ⟨len - 1, by omega⟩
              rw [hvy]
              simp [Builtin.clear_, run_underlying hu, zeroValue, typeInfo, h1, h2, hst, splice]
            · intro r hr'
              rw [List.eq_of_mem_replicate hr']; omega
            · intro p j r y' u hp hj hu'
              have hpl : p < len := by have := (List.getElem?_eq_some_iff.1 hp).1; simpa using this
              have hrz : r = zr := by rw [List.getElem?_replicate] at hp; split at hp <;> simp_all
              subst hrz
              have hjl : j < zv.cells.size := by have := (List.getElem?_eq_some_iff.1 hj).1; omega
              rw [← hzs, zeroCells_get _ _ _ _ hpl hjl] at hu'
              have hjz : j < zc.length := by omega
              have htd := m2 j zc[j] y' (List.getElem?_eq_getElem hjz) hj
              exact toD_rep htd (h4 w (cx.Sta H μ w) μ j zc[j] u (List.getElem?_eq_getElem hjz) hu')
    · exact h.elim
  | _ => exact h.elim
def OptOk3 (a : Act) (x : Option Operand) (cap m : Int) : Prop :=
  match x with
  | none => m = cap
  | some y => ∃ k, a.eval y = .int k m
theorem run_sliceC {P : Program} (w : World) (a : Act) (lo mx : Option Operand) (y : Operand) (l h m : Int) (len cap : Nat) (hl : OptOk a lo 0 l) (hh : ∃ k, a.eval y = .int k h) (hm : OptOk3 a mx cap m) (h0 : 0 ≤ l) (h1 : l ≤ h) (h2 : h ≤ m) (h3 : m ≤ cap) :
    (Instr.sliceBounds true len cap (lo.map a.eval) (some (a.eval y)) (mx.map a.eval)).run P w = .ok (l.toNat, h.toNat, m.toNat) w := by
  have sb : ∀ (k : IntKind) (i : Int) (y : Nat) (code : BoundsCode), 0 ≤ i → i ≤ y → (Instr.sliceBound (.int k i) y code).run P w = .ok i.toNat w := fun k i y code a b => run_sliceBound w k i y code a b
  obtain ⟨k, hk⟩ := hh
  unfold Instr.sliceBounds
  have e1 : h ≤ (m.toNat : Int) := by omega
  have e2 : l ≤ (h.toNat : Int) := by omega
  cases mx with
  | none =>
    simp only [OptOk3] at hm; subst hm
    cases lo with
    | none => simp only [OptOk] at hl; subst hl; simp [hk, sb k h cap _ (by omega) (by omega)]
    | some x => obtain ⟨k', hk'⟩ := hl; simp [hk, hk', sb k h cap _ (by omega) (by omega), sb k' l h.toNat _ h0 e2]
  | some z =>
    obtain ⟨k2, hk2⟩ := hm
    cases lo with
    | none => simp only [OptOk] at hl; subst hl; simp [hk, hk2, sb k2 m cap _ (by omega) h3, sb k h m.toNat _ (by omega) e1]
    | some x => obtain ⟨k', hk'⟩ := hl; simp [hk, hk', hk2, sb k2 m cap _ (by omega) h3, sb k h m.toNat _ (by omega) e1, sb k' l h.toNat _ h0 e2]
def sl2V (P : Program) (t : TypeId) (x : AV) (ts : Nat → Option AV) (hs : Nat → Option Ob) (lo hi mx : Option Operand) (K : AV → List Nat → Prop) : Prop :=
  (TL P t).ok = true ∧ ∃ e, (TL P t).selem = some e ∧ (TL P e).ok = true ∧ 0 < (TL P e).size ∧ ∃ hy, hi = some hy ∧
    match x with
    | .row i sz 0 len => (match hs i with
      | some (.rows _ sz' rs) => optI ts lo 0 fun l => optI ts hi len fun h => optI ts mx rs.length fun m => sz = (TL P e).size ∧ sz' = sz ∧ 0 ≤ l ∧ l ≤ h ∧ h ≤ m ∧ m ≤ rs.length ∧ K (.sub i sz l.toNat (h.toNat - l.toNat)) [i]
      | _ => False)
    | .d (.sl rows) => optI ts lo 0 fun l => optI ts hi rows.length fun h => optI ts mx rows.length fun m => 0 ≤ l ∧ l ≤ h ∧ h ≤ m ∧ m ≤ rows.length ∧ (∀ r ∈ rows, r.length = (TL P e).size) ∧ K (.d (.sl ((rows.drop l.toNat).take (h.toNat - l.toNat)))) []
    | _ => False
theorem RepD.recap {w : World} {S : Nat → Prop} {rows : List (List D)} {A : Option Addr} {n c c' : Nat} (h : RepD w S (.sl rows) (.slice A n c)) (hc : n ≤ c') : RepD w S (.sl rows) (.slice A n c') := by
  cases h with
  | nil => exact .nil
  | sl f hS hc0 hsz hcell hrep => exact .sl f hS hc hsz hcell hrep
theorem RepD.len {w : World} {S : Nat → Prop} {rows : List (List D)} {A : Option Addr} {n c : Nat} (h : RepD w S (.sl rows) (.slice A n c)) : n = rows.length ∧ rows.length ≤ c := by
  cases h with
  | nil => simp
  | sl f hS hc0 hsz hcell hrep => exact ⟨rfl, hc0⟩
theorem loc_slice2 {cx : Cx} {n0 : Nat} {ts : Nat → Option AV} {hs : Nat → Option Ob} {o : Oper} {t : TypeId} {y : Operand} {lo hi mx : Option Operand} {x : AV} {K : Eff → Prop} (hd : dstOk cx.n o.dst) (ho : o.op = .slice t y lo hi mx) (hy : getT ts y = some x)
    (h : sl2V cx.P t x ts hs lo hi mx fun x rd => K ⟨x, [], [], rd⟩) : ∃ e, LocOp cx n0 ts hs o e ∧ K e := by
  obtain ⟨hok, e, hse, hoke, hsz, hyo, rfl, h⟩ := h
  have hu := TL_selem hok hse
  obtain ⟨i, _, h1, _, hsi, _⟩ := TL_ok hoke
  have hmy : y ∈ o.op.operands := by simp [Op.operands, ho]
  have hmh : hyo ∈ o.op.operands := by simp [Op.operands, ho]
  have hml : ∀ q, lo = some q → q ∈ o.op.operands := by rintro q rfl; simp [Op.operands, ho]
  have hmx : ∀ q, mx = some q → q ∈ o.op.operands := by rintro q rfl; simp [Op.operands, ho]
  cases x with
  | row q sz o' len =>
    cases o' with
    | succ _ => exact h.elim
    | zero =>
      simp only at h
      split at h
      · rename_i t' sz' rs hob
        obtain ⟨l, h, hl⟩ := optI_ok (cx := cx) h hml
        obtain ⟨hh, h, hh'⟩ := optI_ok (cx := cx) h (fun q hq => by injection hq with hq; exact hq ▸ hmh)
        obtain ⟨m, h, hm'⟩ := optI_ok (cx := cx) h hmx
        obtain ⟨e1, rfl, a0, a1, a2, a3, hK⟩ := h
        refine ⟨_, loc_val hd fun H T μ a w hr he hH => ?_, hK⟩
        have hHq : H q = some (.rows t' sz' rs) := (hH q (by simp)).trans hob
        have hx := he y _ hmy hy
        have ol := hl H μ a w he
        have oh : ∃ k, a.eval hyo = .int k hh := hh' H μ a w he
        have om := hm' H μ a w he
        generalize hvy : a.eval y = vy at hx
        have fin : ∀ (A : Option Addr) (c : Nat), vy = .slice A len c → rs.length ≤ c → ∃ m' : Nat, (execOp a.eval o).run cx.P w = .ok (.value (.slice (if m' = l.toNat then A else A.map (·.add (l.toNat * i.size))) (hh.toNat - l.toNat) (m' - l.toNat))) w ∧ hh.toNat ≤ m' ∧ m' ≤ c := by
          intro A c hv hc
          have om3 : ∃ m' : Int, OptOk3 a mx c m' ∧ hh ≤ m' ∧ m' ≤ c := by
            cases mx with
            | none => exact ⟨c, rfl, by omega, Int.le_refl _⟩
            | some z => exact ⟨m, om, a2, by omega⟩
          obtain ⟨m', o3, o4, o5⟩ := om3
          have hb := run_sliceC (P := cx.P) w a lo mx hyo l hh m' len c ol oh o3 a0 a1 o4 o5
          refine ⟨m'.toNat, ?_, by omega, by omega⟩
          simp only [execOp, ho, hvy, hv, Option.map_some]
          refine run_v ?_
          simp [Instr.sliceAt, run_underlying hu, Instr.slice, hb, sizeOf, typeInfo, h1]
        cases hx with
        | rowNil hb =>
          have hr0 : rs.length = 0 := by
            cases hr.ob q _ hHq with
            | rowsNil _ _ => rfl
            | rows c1 => rw [hb] at c1; cases c1
          obtain ⟨m', hrun, _⟩ := fin none 0 rfl (by omega)
          have e2 : hh.toNat - l.toNat = 0 := by omega
          rw [e2] at hrun ⊢
          exact ⟨_, hrun, .subNil⟩
        | row hb b2 b3 b4 b5 =>
          rename_i b c arr tt
          cases hr.ob q _ hHq with
          | rowsNil c1 _ => rw [hb] at c1; cases c1
          | rows c1 c2 c3 c4 c5 c6 =>
            rename_i b' arr'
            rw [hb] at c1; injection c1 with c1; injection c1 with c1; subst c1
            rw [b2] at c2; injection c2 with c2; injection c2 with e3 e4; subst e3 e4
            have hrc : rs.length ≤ c := by
              rw [b5, Nat.zero_add] at c4
              exact Nat.le_of_mul_le_mul_right c4 c3
            obtain ⟨m', hrun, hm1, hm2⟩ := fin _ c rfl hrc
            rcases Nat.eq_zero_or_pos (hh.toNat - l.toNat) with e2 | e2
            · rw [e2] at hrun ⊢
              exact ⟨_, hrun, .subNil⟩
            · rw [if_neg (by omega)] at hrun
              simp only [Option.map_some, Addr_add] at hrun
              refine ⟨_, hrun, ?_⟩
              have e4 : 0 * sz' + l.toNat * i.size = l.toNat * sz' := by rw [Nat.zero_mul, Nat.zero_add, e1, hsi]
              rw [e4]
              exact .sub hb (by omega) (by omega)
      · exact h.elim
  | d x =>
    cases x with
    | sl rows =>
      simp only at h
      obtain ⟨l, h, hl⟩ := optI_ok (cx := cx) h hml
      obtain ⟨hh, h, hh'⟩ := optI_ok (cx := cx) h (fun q hq => by injection hq with hq; exact hq ▸ hmh)
      obtain ⟨m, h, hm'⟩ := optI_ok (cx := cx) h hmx
      obtain ⟨a0, a1, a2, a3, hro, hK⟩ := h
      refine ⟨_, loc_val hd fun H T μ a w hr he hH => ?_, hK⟩
      have hx := he y _ hmy hy
      have ol := hl H μ a w he
      have oh : ∃ k, a.eval hyo = .int k hh := hh' H μ a w he
      have om := hm' H μ a w he
      generalize hvy : a.eval y = vy at hx
      cases hx with
      | d hx =>
        obtain ⟨A, len, c, rfl⟩ : ∃ A len c, vy = .slice A len c := by cases hx <;> exact ⟨_, _, _, rfl⟩
        obtain ⟨rfl, hlc⟩ := hx.len
        have om3 : ∃ m' : Int, OptOk3 a mx c m' ∧ hh ≤ m' ∧ m' ≤ c := by
          cases mx with
          | none => exact ⟨c, rfl, by omega, Int.le_refl _⟩
          | some z => exact ⟨m, om, a2, by omega⟩
        obtain ⟨m', o3, o4, o5⟩ := om3
        have hb := run_sliceC (P := cx.P) w a lo mx hyo l hh m' rows.length c ol oh o3 a0 a1 o4 o5
        have h1' := RepD.sub (l := 0) (n := hh.toNat) (sz := (TL cx.P e).size) hx hro (by omega)
        have eA : (if c = 0 then A else A.map (·.add (0 * (TL cx.P e).size))) = A := by
          split
          · rfl
          · cases A with
            | none => rfl
            | some q => simp [Addr.add]
        rw [eA, Nat.sub_zero, List.drop_zero] at h1'
        have h2' := (h1'.recap (c' := m'.toNat) (by omega))
        have hlt : (rows.take hh.toNat).length = hh.toNat := by simp; omega
        have h2'' : RepD w (cx.Sta H μ w) (.sl (rows.take hh.toNat)) (.slice A (rows.take hh.toNat).length m'.toNat) := by rw [hlt]; exact h2'
        have h3' := RepD.sub (l := l.toNat) (n := hh.toNat - l.toNat) (sz := (TL cx.P e).size) h2'' (fun r hr => hro r (List.mem_of_mem_take hr)) (by omega)
        have e5 : ((rows.take hh.toNat).drop l.toNat).take (hh.toNat - l.toNat) = (rows.drop l.toNat).take (hh.toNat - l.toNat) := by
          rw [List.drop_take, List.take_take, Nat.min_self]
        rw [e5] at h3'
        refine ⟨_, ?_, .d h3'⟩
        simp only [execOp, ho, hvy, Option.map_some]
        refine run_v ?_
        simp [Instr.sliceAt, run_underlying hu, Instr.slice, hb, sizeOf, typeInfo, h1, hsi]
    | _ => exact h.elim
  | _ => exact h.elim
end Go.Proofs.YtpocnjliigjidaaGreat
namespace Go.Proofs.YtpocnjliigjidaaGreat
set_option linter.unusedSimpArgs false
set_option linter.unusedVariables false
open Go.RowKit
theorem splice_get2 {α : Type} (l m : List α) (off j : Nat) (h : off ≤ l.length) : (splice l off m)[j]? = if off ≤ j ∧ j < off + m.length then m[j - off]? else l[j]? := by
  unfold splice
  have hl : (l.take off).length = off := by simp; omega
  by_cases h1 : j < off
  · rw [if_neg (by omega), List.append_assoc, List.getElem?_append_left (by omega), List.getElem?_take, if_pos h1]
  · by_cases h2 : j < off + m.length
    · rw [if_pos (by omega), List.append_assoc, List.getElem?_append_right (by omega), hl, List.getElem?_append_left (by omega)]
    · rw [if_neg (by omega), List.append_assoc, List.getElem?_append_right (by omega), hl, List.getElem?_append_right (by omega), List.getElem?_drop]
      congr 1; omega
theorem loc_rowsWr2 {cx : Cx} {n0 : Nat} {ts : Nat → Option AV} {hs : Nat → Option Ob} {o : Oper} {q k : Nat} {t' : TypeId} {sz : Nat} {rs src : List (List D)} {x : AV} {rd : List Nat} (hd : dstOk cx.n o.dst) (hq : hs q = some (.rows t' sz rs)) (hk : k ≤ rs.length) (hrd : q ∈ rd)
    (h : ∀ (H : Nat → Option Ob) (T : Nat → Option AV) (μ : Mu) (a : Act) (w : World), RR cx H T μ a w → (∀ y z, y ∈ o.op.operands → getT ts y = some z → Rep w (cx.Sta H μ w) μ z (a.eval y)) → (∀ i, i ∈ rd → H i = hs i) →
      ∃ v, Rep w (cx.Sta H μ w) μ x v ∧ ((src = [] ∧ (execOp a.eval o).run cx.P w = .ok (.value v) w) ∨
        ∃ b arr news, μ q = some (some b) ∧ w.heap[b]? = some (.cells arr t' (0, 0)) ∧ (execOp a.eval o).run cx.P w = .ok (.value v) (w.setRow b (splice arr.toList (k * sz) news).toArray) ∧ news.length = src.length * sz ∧ (k + src.length) * sz ≤ arr.size ∧ (∀ r ∈ src, r.length = sz) ∧
          (∀ (p j : Nat) (r : List D) (x : D) (u : Value), src[p]? = some r → r[j]? = some x → news[p * sz + j]? = some u → RepD w (cx.Sta H μ w) x u))) :
    LocOp cx n0 ts hs o ⟨x, [], [(q, some (.rows t' sz (splice rs k src)))], rd⟩ := by
  intro H T μ a w K Q hr hT hH hn hK
  have hHq : H q = some (.rows t' sz rs) := (hH q (.inl hrd)).trans hq
  obtain ⟨v, hv, hcase⟩ := h H T μ a w hr (fun y z hy hz => hr.eval (fun t ht => hT t (ht ▸ hy)) hz) (fun i hi => hH i (.inl hi))
  unfold Oper.wp
  rcases hcase with ⟨rfl, hrun⟩ | ⟨b, arr, news, hb, hheap, hrun, hnl, hcap, hsl, hnr⟩
  · rw [hrun]
    rw [splice_nil] at hK
    have e : appH n0 ⟨x, [], [(q, some (.rows t' sz rs))], rd⟩ H = H := by
      funext i
      have : ¬ (n0 ≤ i ∧ i < n0 + 0) := by omega
      by_cases hi : i = q
      · subst hi; simp [appH, Eff.wlook, hHq] <;> omega
      · simp [appH, Eff.wlook, Ne.symm hi] <;> omega
    exact hK _ _ μ (by rw [e]; exact hr.putD hd hv) (fun _ _ h => h) (fun i hi => .inl hi)
  · rw [hrun]
    cases hr.ob q _ hHq with
    | rowsNil c1 _ => rw [hb] at c1; cases c1
    | rows c1 c2 c3 c4 c5 c6 =>
      rename_i b' arr'
      rw [hb] at c1; injection c1 with c1; injection c1 with c1; subst c1
      rw [hheap] at c2; injection c2 with c2; injection c2 with c2; subst c2
      have hfit : k * sz + news.length ≤ arr.toList.length := by
        rw [hnl, ← Nat.add_mul]; simpa using hcap
      have hsz : (splice arr.toList (k * sz) news).toArray.size = arr.size := by simp [splice_length _ _ _ hfit]
      have hev := Ev.setRow hheap hsz
      have hns : ∀ c, c = b → ¬ cx.Sta H μ w c := fun c hc => hc ▸ hr.notSta (by simp [hHq]) hb
      have hlen : (splice rs k src).length * sz ≤ arr.size := by
        have e1 : (splice rs k src).length = max rs.length (k + src.length) := by simp [splice]; omega
        rw [e1]
        rcases Nat.le_total rs.length (k + src.length) with h' | h'
        · rw [Nat.max_eq_right h']; exact hcap
        · rw [Nat.max_eq_left h']; exact c4
      have hrow : ∀ (i : Nat) (r : List D), (splice rs k src)[i]? = some r → r.length = sz := by
        intro i r hi
        rw [splice_get2 _ _ _ _ hk] at hi
        split at hi
        · exact hsl r (List.mem_of_getElem? hi)
        · exact c5 i r hi
      have hov : ∀ (p j : Nat) (r : List D) (x : D) (v : Value), (splice rs k src)[p]? = some r → r[j]? = some x → (splice arr.toList (k * sz) news).toArray[p * sz + j]? = some v → RepD w (cx.Sta H μ w) x v := by
        intro p j r x v hp hj hv
        have hjs : j < sz := by rw [← hrow p r hp]; exact (List.getElem?_eq_some_iff.1 hj).1
        have hv' : (splice arr.toList (k * sz) news)[p * sz + j]? = some v := by simpa using hv
        rw [splice_get _ _ _ _ hfit] at hv'
        rw [splice_get2 _ _ _ _ hk] at hp
        split at hp
        · rename_i hc
          have h1 : k * sz ≤ p * sz + j := Nat.le_trans (Nat.mul_le_mul_right _ hc.1) (by omega)
          have h2 : p * sz + j < k * sz + news.length := by
            rw [hnl, ← Nat.add_mul]
            have := Nat.mul_le_mul_right sz (show p + 1 ≤ k + src.length by omega)
            rw [Nat.add_mul] at this; omega
          rw [if_pos ⟨h1, h2⟩] at hv'
          refine hnr (p - k) j r x v hp hj ?_
          have e : p * sz + j - k * sz = (p - k) * sz + j := by rw [Nat.sub_mul]; have := Nat.mul_le_mul_right sz hc.1; omega
          rw [← e]; exact hv'
        · rename_i hc
          have : ¬ (k * sz ≤ p * sz + j ∧ p * sz + j < k * sz + news.length) := by
            rintro ⟨h1, h2⟩
            apply hc
            rw [hnl, ← Nat.add_mul] at h2
            refine ⟨?_, div_bd hjs h2⟩
            rcases Nat.lt_or_ge p k with h' | h'
            · exfalso
              have := Nat.mul_le_mul_right sz (show p + 1 ≤ k from h')
              rw [Nat.add_mul] at this; omega
            · exact h'
          rw [if_neg this] at hv'
          exact c6 p j r x v hp hj (by simpa using hv')
      have key := hr.write (by simp [hHq]) hb n0 (.rows t' sz (splice rs k src)) x rd hev (.rows hb (setRow_heap w b arr _ t' _ hheap) c3 (by rw [hsz]; exact hlen) hrow
        (fun p j r y u hp hj hu => (hov p j r y u hp hj hu).evolve hev hns (fun _ h => h)))
      refine hK _ _ μ (key.putD hd ?_) (fun _ _ h => h) (fun i hi => .inl hi)
      refine hv.evolve hev hns (fun c hc => ?_) (fun _ _ h => h)
      rcases hc with hc | ⟨u1, u2, u3, u4⟩
      · exact .inl hc
      · refine .inr ⟨u1, Nat.lt_of_lt_of_le u2 hev.size, u3, fun i hi he => ?_⟩
        by_cases hiq : i = q
        · subst hiq; exact u4 i (by rw [hHq]; simp) he
        · refine u4 i ?_ he
          have : ¬ (n0 ≤ i ∧ i < n0 + 0) := by omega
          simpa [appH, Eff.wlook, Ne.symm hiq, this] using hi
def cpK (hs : Nat → Option Ob) (sz len : Nat) (y : AV) (K : List (List D) → List Nat → Prop) : Prop :=
  match y with
  | .d (.sl rows) => (∀ r ∈ rows, r.length = sz) ∧ rows.length ≤ len ∧ K rows []
  | .row j sz2 o2 len2 => (match hs j with
    | some (.rows _ sz2' rs2) => sz2 = sz ∧ sz2' = sz ∧ o2 + min len2 len ≤ rs2.length ∧ K ((rs2.drop o2).take (min len2 len)) [j]
    | _ => False)
  | _ => False
def cpV (P : Program) (hs : Nat → Option Ob) (t : TypeId) (x y : AV) (K : AV → List (Nat × Option Ob) → List Nat → Prop) : Prop :=
  (TL P t).ok = true ∧ ∃ e, (TL P t).selem = some e ∧ (TL P e).ok = true ∧ 0 < (TL P e).size ∧
    match x with
    | .row i sz o len => (match hs i with
      | some (.rows t' sz' rs) => sz = (TL P e).size ∧ sz' = sz ∧ o ≤ rs.length ∧ cpK hs sz len y fun src rd => K (.d (.int .i64 src.length)) [(i, some (.rows t' sz' (splice rs o src)))] (i :: rd)
      | _ => False)
    | .sub i sz o len => (match hs i with
      | some (.rows t' sz' rs) => sz = (TL P e).size ∧ sz' = sz ∧ cpK hs sz len y fun src rd => o + src.length ≤ rs.length ∧ K (.d (.int .i64 src.length)) [(i, some (.rows t' sz' (splice rs o src)))] (i :: rd)
      | _ => False)
    | _ => False
def CpReads (w : World) (S : Nat → Prop) (sz len : Nat) (src : List (List D)) (v : Value) : Prop :=
  ∃ A sLen sCap, v = .slice A sLen sCap ∧ Nat.min sLen len = src.length ∧ (src.length = 0 ∨ ∃ (a' : Addr) (news : List Value), A = some a' ∧ (∀ r ∈ src, r.length = sz) ∧ news.length = src.length * sz ∧ (∀ j u, news[j]? = some u → w.cell? (a'.add j) = some u) ∧ (∀ u ∈ news, u.oneCell' = true) ∧
    (∀ (p j : Nat) (r : List D) (x : D) (u : Value), src[p]? = some r → r[j]? = some x → news[p * sz + j]? = some u → RepD w S x u))
theorem cpK_reads {hs : Nat → Option Ob} {sz len : Nat} {y : AV} {K : List (List D) → List Nat → Prop} (h : cpK hs sz len y K) : ∃ src rd, K src rd ∧
    ∀ (cx : Cx) (H : Nat → Option Ob) (T : Nat → Option AV) (μ : Mu) (a : Act) (w : World) (v : Value), RR cx H T μ a w → (∀ i, i ∈ rd → H i = hs i) → Rep w (cx.Sta H μ w) μ y v → CpReads w (cx.Sta H μ w) sz len src v := by
  cases y with
  | d s =>
    cases s with
    | sl rows =>
      obtain ⟨hrow, hlen, hK⟩ := h
      refine ⟨_, _, hK, fun cx H T μ a w v hr hH hs' => ?_⟩
      cases v with
      | slice A sl sc =>
        cases hs' with
        | d hs' =>
          obtain ⟨news, hn, hnl, hnr⟩ := hs'.reads hrow
          rcases hn with ⟨A', c', e2, e3, e4⟩ | ⟨a', c', e2, e3, e4, e5⟩
          · injection e2 with e5 e6 e7
            subst e5 e6 e7
            exact ⟨_, _, _, rfl, by rw [e3]; exact Nat.zero_min _, .inl e3⟩
          · injection e2 with e6 e7 e8
            subst e6 e7 e8
            exact ⟨_, _, _, rfl, Nat.min_eq_left hlen, .inr ⟨a', news, rfl, hrow, e3, e4, e5, hnr⟩⟩
      | _ => cases hs' with | d hs' => cases hs'
    | _ => exact h.elim
  | row j sz2 o2 len2 =>
    simp only [cpK] at h
    split at h
    · rename_i t2 sz2' rs2 hob2
      obtain ⟨rfl, rfl, hle2, hK⟩ := h
      have hlt : ((rs2.drop o2).take (min len2 len)).length = min len2 len := by simp; omega
      refine ⟨_, _, hK, fun cx H T μ a w v hr hH hs' => ?_⟩
      have hHj : H j = some (.rows t2 sz2' rs2) := (hH j (by simp)).trans hob2
      unfold CpReads
      rw [hlt]
      cases hs' with
      | rowNil hb => exact ⟨_, _, _, rfl, rfl, .inl (Nat.zero_min _)⟩
      | row hb b2 b3 b4 b5 =>
        rename_i b c arr tt
        obtain ⟨news, hn, hnl, hnr⟩ := own_reads (len := min len2 len) hr hHj hb (by omega) c
        refine ⟨_, _, _, rfl, rfl, ?_⟩
        rw [hlt] at hn hnl
        rcases hn with ⟨A', c', e2, e3, e4⟩ | ⟨a', c', e2, e3, e4, e5⟩
        · exact .inl e3
        · injection e2 with e6 e7 e8
          refine .inr ⟨a', news, e6, fun r hr' => ?_, e3, e4, e5, hnr⟩
          cases hr.ob j _ hHj with
          | rowsNil c1 _ => rw [hb] at c1; cases c1
          | rows c1 c2 c3 c4 c5 c6 =>
            obtain ⟨p, hp⟩ := List.mem_iff_getElem?.1 (List.mem_of_mem_drop (List.mem_of_mem_take hr'))
            exact c5 p r hp
    · exact h.elim
  | _ => exact h.elim
theorem run_copy_rows {P : Program} (w : World) (dT sT ty elem : TypeId) (i : TypeInfo) (g o dLen dCap : Nat) (a : Addr) (sLen sCap n : Nat) (cur : Array Value) (t : TypeId) (cs : List Value)
    (hu : P.underlying dT = some (.slice elem)) (hi : P.info? elem = some i)
    (hg : w.heap[g]? = some (.cells cur t (0, 0))) (hn : n = Nat.min sLen dLen) (hcs : cs.length = n * i.size)
    (hsrc : ∀ j v, cs[j]? = some v → w.cell? (a.add j) = some v) (hfit : o + cs.length ≤ cur.size) (h1 : ∀ v ∈ cs, v.oneCell' = true) :
    (Builtin.copy_ #[dT, sT] ty #[.slice (some ⟨g, o, none⟩) dLen dCap, .slice (some a) sLen sCap]).run P w = .ok (goInt n) (w.setRow g (splice cur.toList o cs).toArray) := by
  have hl := run_loadCells_list (P := P) w a cs hsrc
  have hst := run_storeCells_at P g o t cs 0 cur w hg (by simpa using hfit) h1
  rw [hcs] at hl
  simp only [Nat.add_zero] at hst
  simp [Builtin.copy_, run_underlying hu, Builtin.lenOf, Builtin.firstCells, sizeOf, typeInfo, hi, ← hn, hl, hst, splice]
theorem run_copy_zero {P : Program} (w : World) (dT sT ty elem : TypeId) (i : TypeInfo) (A B : Option Addr) (dLen dCap sLen sCap : Nat) (hu : P.underlying dT = some (.slice elem)) (hi : P.info? elem = some i) (hn : Nat.min sLen dLen = 0) :
    (Builtin.copy_ #[dT, sT] ty #[.slice A dLen dCap, .slice B sLen sCap]).run P w = .ok (goInt 0) w := by
  cases A <;> cases B <;> simp [Builtin.copy_, run_underlying hu, Builtin.lenOf, Builtin.firstCells, sizeOf, typeInfo, hi, hn, storeCells, loadCells, loadCellsFrom]
theorem loc_copy {cx : Cx} {n0 : Nat} {ts : Nat → Option AV} {hs : Nat → Option Ob} {o : Oper} {t : TypeId} {y z : Operand} {x s : AV} {K : Eff → Prop} (hd : dstOk cx.n o.dst)
    (ho : o.op = .call { callee := .builtin .copy, args := #[y, z], argTypes := #[t, t] }) (hy : getT ts y = some x) (hz : getT ts z = some s)
    (h : cpV cx.P hs t x s fun v wr rd => K ⟨v, [], wr, rd⟩) : ∃ e, LocOp cx n0 ts hs o e ∧ K e := by
  obtain ⟨hok, e, hse, hoke, hsz, h⟩ := h
  have hu := TL_selem hok hse
  obtain ⟨i, _, h1, _, hsi, _⟩ := TL_ok hoke
  have hmy : y ∈ o.op.operands := by simp [Op.operands, ho, Call.operands]
  have hmz : z ∈ o.op.operands := by simp [Op.operands, ho, Call.operands]
  have hex : ∀ (a : Act) (w w' : World) (v' : Value), (Builtin.copy_ #[t, t] o.type #[a.eval y, a.eval z]).run cx.P w = .ok v' w' → (execOp a.eval o).run cx.P w = .ok (.value v') w' := by
    intro a w w' v' hrun
    simp only [execOp, ho, resolve, invoke, builtin, Sem.run_bind, Sem.run_pure, Result.andThen_ok, List.map_toArray, List.map_cons, List.map_nil, hrun]
  -- the run, once it is known where the target lies
  have go : ∀ (q sz' o' len : Nat) (t' : TypeId) (rs src : List (List D)) (rd : List Nat), hs q = some (.rows t' sz' rs) → sz' = (TL cx.P e).size → o' ≤ rs.length →
      (∀ (H : Nat → Option Ob) (T : Nat → Option AV) (μ : Mu) (a : Act) (w : World), RR cx H T μ a w → (∀ p, p ∈ q :: rd → H p = hs p) → Rep w (cx.Sta H μ w) μ s (a.eval z) → CpReads w (cx.Sta H μ w) sz' len src (a.eval z)) →
      (∀ (H : Nat → Option Ob) (T : Nat → Option AV) (μ : Mu) (a : Act) (w : World), RR cx H T μ a w → (∀ p, p ∈ q :: rd → H p = hs p) → Rep w (cx.Sta H μ w) μ x (a.eval y) →
        (∃ B dCap, a.eval y = .slice B len dCap ∧ len = 0) ∨ ∃ b dCap arr, a.eval y = .slice (some ⟨b, o' * sz', none⟩) len dCap ∧ μ q = some (some b) ∧ w.heap[b]? = some (.cells arr t' (0, 0)) ∧ (src.length ≤ len → (o' + src.length) * sz' ≤ arr.size)) →
      LocOp cx n0 ts hs o ⟨.d (.int .i64 src.length), [], [(q, some (.rows t' sz' (splice rs o' src)))], q :: rd⟩ := by
    intro q sz' o' len t' rs src rd hob e1 hle hread hdst
    refine loc_rowsWr2 hd hob hle (by simp) fun H T μ a w hr he hH => ?_
    obtain ⟨A, sLen, sCap, hev, hmin, hcase⟩ := hread H T μ a w hr hH (he z _ hmz hz)
    have hsl : src.length ≤ len := by rw [← hmin]; exact Nat.min_le_right _ _
    refine ⟨.int .i64 src.length, .d .int, ?_⟩
    have zero : ∀ B dCap, a.eval y = .slice B len dCap → src.length = 0 → (src = [] ∧ (execOp a.eval o).run cx.P w = .ok (.value (.int .i64 src.length)) w) := by
      intro B dCap hvy' hs0
      refine ⟨List.eq_nil_of_length_eq_zero hs0, hex _ _ _ _ ?_⟩
      rw [hvy', hev, run_copy_zero w t t o.type e i B A len dCap sLen sCap hu h1 (by rw [hmin, hs0]), hs0]; rfl
    rcases hdst H T μ a w hr hH (he y _ hmy hy) with ⟨B, dCap, hvy, hl0⟩ | ⟨b, dCap, arr, hvy, hb, b2, hcap⟩
    · exact .inl (zero _ _ hvy (by omega))
    · rcases hcase with hs0 | ⟨a', news, rfl, hrow, hnl, hnc, hn1, hnr⟩
      · exact .inl (zero _ _ hvy hs0)
      · have hcap := hcap hsl
        refine .inr ⟨b, arr, news, hb, b2, hex _ _ _ _ ?_, hnl, hcap, hrow, hnr⟩
        have hi : sz' = i.size := by omega
        rw [hvy, hev, run_copy_rows w t t o.type e i b (o' * sz') len dCap a' sLen sCap src.length arr _ news hu h1 b2 hmin.symm (by rw [← hi]; exact hnl) hnc (by rw [hnl, ← Nat.add_mul]; exact hcap) hn1]
        rfl
  cases x with
  | row q sz o' len =>
    simp only at h
    split at h
    · rename_i t' sz' rs hob
      obtain ⟨e1, rfl, hle, h⟩ := h
      obtain ⟨src, rd, hK, hrd⟩ := cpK_reads h
      refine ⟨_, go q sz' o' len t' rs src rd hob e1 hle (fun H T μ a w hr hH hs' => hrd cx H T μ a w _ hr (fun p hp => hH p (by simp [hp])) hs') (fun H T μ a w hr hH hx => ?_), hK⟩
      have hHq : H q = some (.rows t' sz' rs) := (hH q (by simp)).trans hob
      generalize a.eval y = vy at hx
      cases hx with
      | rowNil hb => exact .inl ⟨_, _, rfl, rfl⟩
      | row hb b2 b3 b4 b5 =>
        cases hr.ob q _ hHq with
        | rowsNil c1 _ => rw [hb] at c1; cases c1
        | rows c1 c2 c3 c4 c5 c6 =>
          rename_i b' arr'
          rw [hb] at c1; injection c1 with c1; injection c1 with c1; subst c1
          rw [b2] at c2; injection c2 with c2; injection c2 with e3 e4; subst e3 e4
          exact .inr ⟨_, _, _, rfl, hb, b2, fun hl => by rw [b5]; exact Nat.mul_le_mul_right _ (by omega)⟩
    · exact h.elim
  | sub q sz o' len =>
    simp only at h
    split at h
    · rename_i t' sz' rs hob
      obtain ⟨e1, rfl, h⟩ := h
      obtain ⟨src, rd, ⟨hle, hK⟩, hrd⟩ := cpK_reads h
      refine ⟨_, go q sz' o' len t' rs src rd hob e1 (by omega) (fun H T μ a w hr hH hs' => hrd cx H T μ a w _ hr (fun p hp => hH p (by simp [hp])) hs') (fun H T μ a w hr hH hx => ?_), hK⟩
      have hHq : H q = some (.rows t' sz' rs) := (hH q (by simp)).trans hob
      generalize a.eval y = vy at hx
      cases hx with
      | subNil => exact .inl ⟨_, _, rfl, rfl⟩
      | sub hb b3 b4 =>
        cases hr.ob q _ hHq with
        | rowsNil c1 _ => rw [hb] at c1; cases c1
        | rows c1 c2 c3 c4 c5 c6 =>
          rw [hb] at c1; injection c1 with c1; injection c1 with c1; subst c1
          exact .inr ⟨_, _, _, rfl, hb, c2, fun hl => Nat.le_trans (Nat.mul_le_mul_right _ hle) c4⟩
    · exact h.elim
  | _ => exact h.elim
def capV (P : Program) (t : TypeId) (x : AV) (K : AV → Prop) : Prop :=
  (TL P t).ok = true ∧ (∃ e, (TL P t).selem = some e) ∧ match x with
  | .rowc _ _ _ c => K (.d (.int .i64 c))
  | _ => False
theorem loc_cap {cx : Cx} {n0 : Nat} {ts : Nat → Option AV} {hs : Nat → Option Ob} {o : Oper} {t : TypeId} {y : Operand} {x : AV} {K : Eff → Prop} (hd : dstOk cx.n o.dst) (ho : o.op = .call { callee := .builtin .cap, args := #[y], argTypes := #[t] }) (hy : getT ts y = some x)
    (h : capV cx.P t x fun x => K ⟨x, [], [], []⟩) : ∃ e, LocOp cx n0 ts hs o e ∧ K e := by
  obtain ⟨hok, ⟨e, hse⟩, h⟩ := h
  have hu := TL_selem hok hse
  have hop : y ∈ o.op.operands := by simp [Op.operands, ho, Call.operands]
  cases x with
  | rowc i sz len c =>
    refine ⟨_, loc_val hd fun H T μ a w hr he _ => ⟨.int .i64 c, ?_, .d .int⟩, h⟩
    have h1 := he y _ hop hy
    generalize hv : a.eval y = v at h1
    cases h1 with
    | rowc =>
      have : ∀ A n, (Builtin.cap_ #[t] o.type #[.slice A n c]).run cx.P w = .ok (.int .i64 c) w := fun A n => by simp [Builtin.cap_, run_underlying hu, goInt]
      simp only [execOp, ho, resolve, invoke, builtin, Sem.run_bind, Sem.run_pure, Result.andThen_ok, List.map_toArray, List.map_cons, List.map_nil, hv, this]
  | _ => exact h.elim
def sl3V (P : Program) (t : TypeId) (x : AV) (ts : Nat → Option AV) (lo hi mx : Option Operand) (K : AV → Prop) : Prop :=
  (TL P t).ok = true ∧ ∃ e, (TL P t).selem = some e ∧ (TL P e).ok = true ∧ mx = none ∧
    match x with
    | .rowc i sz len c => optI ts lo 0 fun l => optI ts hi len fun h => sz = (TL P e).size ∧ 0 ≤ l ∧ l ≤ h ∧ h ≤ c ∧ (match lo with
      | none => K (.rowc i sz h.toNat c)
      | some _ => l < c ∧ K (.row i sz l.toNat (h.toNat - l.toNat)))
    | _ => False
theorem run_sliceD {P : Program} (w : World) (a : Act) (lo hi : Option Operand) (l h : Int) (len cap : Nat) (hl : OptOk a lo 0 l) (hh : OptOk a hi len h) (h0 : 0 ≤ l) (h1 : l ≤ h) (h2 : h ≤ cap) (hc : len ≤ cap) :
    (Instr.sliceBounds true len cap (lo.map a.eval) (hi.map a.eval) none).run P w = .ok (l.toNat, h.toNat, cap) w := by
  cases hi with
  | none =>
    simp only [OptOk] at hh
    exact run_sliceB w a lo none l h len cap hl hh h0 h1 (by omega) hc
  | some y =>
    have := run_sliceC (P := P) w a lo none y l h cap len cap hl hh rfl h0 h1 h2 (Int.le_refl _)
    simpa using this
theorem loc_slice3 {cx : Cx} {n0 : Nat} {ts : Nat → Option AV} {hs : Nat → Option Ob} {o : Oper} {t : TypeId} {y : Operand} {lo hi mx : Option Operand} {x : AV} {K : Eff → Prop} (hd : dstOk cx.n o.dst) (ho : o.op = .slice t y lo hi mx) (hy : getT ts y = some x)
    (h : sl3V cx.P t x ts lo hi mx fun x => K ⟨x, [], [], []⟩) : ∃ e, LocOp cx n0 ts hs o e ∧ K e := by
  obtain ⟨hok, e, hse, hoke, rfl, h⟩ := h
  have hu := TL_selem hok hse
  obtain ⟨i, _, h1, _, hsi, _⟩ := TL_ok hoke
  have hmy : y ∈ o.op.operands := by simp [Op.operands, ho]
  have hml : ∀ q, lo = some q → q ∈ o.op.operands := by rintro q rfl; simp [Op.operands, ho]
  have hmh : ∀ q, hi = some q → q ∈ o.op.operands := by rintro q rfl; simp [Op.operands, ho]
  cases x with
  | rowc q sz len c =>
    simp only at h
    obtain ⟨l, h, hl⟩ := optI_ok (cx := cx) h hml
    obtain ⟨hh, h, hh'⟩ := optI_ok (cx := cx) h hmh
    obtain ⟨e1, a0, a1, a2, h⟩ := h
    have run : ∀ (H : Nat → Option Ob) (μ : Mu) (a : Act) (w : World) (b : Nat), len ≤ c → (∀ y z, y ∈ o.op.operands → getT ts y = some z → Rep w (cx.Sta H μ w) μ z (a.eval y)) → a.eval y = .slice (some ⟨b, 0, none⟩) len c →
        (execOp a.eval o).run cx.P w = .ok (.value (.slice (if c = l.toNat then some ⟨b, 0, none⟩ else some ⟨b, l.toNat * i.size, none⟩) (hh.toNat - l.toNat) (c - l.toNat))) w := by
      intro H μ a w b hlc he hv
      have hb := run_sliceD (P := cx.P) w a lo hi l hh len c (hl H μ a w he) (hh' H μ a w he) a0 a1 a2 hlc
      simp only [execOp, ho, hv, Option.map_none]
      refine run_v ?_
      simp [Instr.sliceAt, run_underlying hu, Instr.slice, hb, sizeOf, typeInfo, h1, Addr_add]
    cases lo with
    | none =>
      simp only at h
      refine ⟨_, loc_val hd fun H T μ a w hr he _ => ?_, h⟩
      have hx := he y _ hmy hy
      have ol : l = 0 := hl H μ a w he
      subst ol
      generalize hv : a.eval y = v at hx
      cases hx with
      | rowc hb b2 b3 b4 b5 =>
        rename_i b arr tt
        have := run H μ a w b b3 he hv
        simp at this
        exact ⟨_, this, .rowc hb b2 (by omega) b4 b5⟩
    | some lo' =>
      simp only at h
      obtain ⟨hlc, hK⟩ := h
      refine ⟨_, loc_val hd fun H T μ a w hr he _ => ?_, hK⟩
      have hx := he y _ hmy hy
      generalize hv : a.eval y = v at hx
      cases hx with
      | rowc hb b2 b3 b4 b5 =>
        rename_i b arr tt
        have := run H μ a w b b3 he hv
        rw [if_neg (by omega)] at this
        have e2 : i.size = sz := by omega
        rw [e2] at this
        refine ⟨_, this, .row hb b2 (by omega) (by omega) ?_⟩
        rw [b5]; congr 1; omega
  | _ => exact h.elim
def apZ (P : Program) (hs : Nat → Option Ob) (t tn : TypeId) (x : AV) (n : Int) (K : Ob → Nat → Nat → List Nat → Prop) : Prop :=
  (TL P t).ok = true ∧ (TL P tn).ok = true ∧ (∃ k, (TL P tn).ik = some k) ∧ ∃ e, (TL P t).selem = some e ∧ 0 < (TL P e).size ∧ (TL P e).bytes ≤ 100000 ∧ ∃ z, (TL P e).zero = some z ∧ z.length = (TL P e).size ∧ ∃ zr, z.mapM toD = some zr ∧
      match x with
      | .rowc i sz len c => (match hs i with
        | some (.rows t' sz' rs) => t' = e ∧ sz = (TL P e).size ∧ sz' = sz ∧ len ≤ rs.length ∧ 0 ≤ n ∧ c < len + n ∧ len + n ≤ 1000000000 ∧ K (.rows e (TL P e).size (rs.take len ++ List.replicate n.toNat zr)) (TL P e).size (len + n.toNat) [i]
        | _ => False)
      | _ => False
theorem TL_ik {P : Program} {t : TypeId} {k : IntKind} (hok : (TL P t).ok = true) (h : (TL P t).ik = some k) : P.underlying t = some (.int k) := by
  obtain ⟨i, d, hi, hu, _⟩ := TL_ok hok
  unfold TL at h
  simp only [hi, hu] at h
  cases d <;> simp at h
  subst h; exact hu
theorem run_append_zeros {P : Program} (w : World) (t tn ty e : TypeId) (i : TypeInfo) (z : Value) (kn k : IntKind) (ht : P.underlying t = some (.slice e)) (htn : P.underlying tn = some (.int kn)) (hi : P.info? e = some i) (hz : i.zero = some z)
    (a : Addr) (n cap m : Nat) (olds : List Value) (hol : olds.length = n * i.size) (holds : ∀ j u, olds[j]? = some u → w.cell? (a.add j) = some u)
    (hm : 0 < m) (hs : 0 < i.size) (hcap : cap < n + m) (hmax : n + m ≤ 1000000000) (hby : i.bytes ≤ 100000) (hfits : Builtin.nextslicecap (n + m) cap * i.bytes ≤ 281474976710656) :
    (Builtin.append_ #[t, tn] ty #[.slice (some a) n cap, .int k m]).run P w = .ok (.slice (some ⟨w.heap.size, 0, none⟩) (n + m) (grownCap w (n + m) cap e)) (w.drew.alloc (.cells (olds.toArray ++ Builtin.zeroCells z.cells m ++ Builtin.zeroCells z.cells (grownCap w (n + m) cap e - (n + m))) e)) := by
  have hw : IntKind.i64.wrap (m : Int) = m := by rw [IntKind.wrap_i64]; omega
  have hn : ¬ (n + m ≤ cap) := by omega
  have hneg : ¬ ((m : Int) < 0) := by omega
  have hm0 : m ≠ 0 := by omega
  have hns : ¬ (m * i.size = 0) := Nat.mul_ne_zero hm0 (by omega)
  have h63' : ¬ (9223372036854775807 < ((n : Int) + (m : Int))) := by omega
  have h48' : ¬ (281474976710656 < Builtin.nextslicecap (n + m) cap * i.bytes) := by omega
  have h48i : ¬ (281474976710656 < (m : Int) * (i.bytes : Int)) := by
    rw [← Int.natCast_mul]
    have : m * i.bytes ≤ 1000000000 * 100000 := Nat.mul_le_mul (by omega) hby
    omega
  have hfo := run_firstCells_some (P := P) w.drew i.size n a n cap olds hol (by simpa using holds)
  simp [Builtin.append_, run_underlying ht, run_underlying htn, sizeOf, typeInfo, zeroValue, hi, hz, asInt, asIntOf, hw, hn, hneg, hns, hm0, h63', h48', h48i, Question.forced, hfo, newRow, grownCap]
theorem loc_appendZ {cx : Cx} {n0 : Nat} {ts : Nat → Option AV} {hs : Nat → Option Ob} {o : Oper} {t tn : TypeId} {y z : Operand} {x : AV} {k : IntKind} {n : Int} {K : Eff → Prop} (hd : dstOk cx.n o.dst)
    (ho : o.op = .call { callee := .builtin .append, args := #[y, z], argTypes := #[t, tn] }) (hy : getT ts y = some x) (hz : getT ts z = some (.d (.int k n)))
    (h : apZ cx.P hs t tn x n fun ob sz n rd => K ⟨.row n0 sz 0 n, [ob], [], rd⟩) : ∃ e, LocOp cx n0 ts hs o e ∧ K e := by
  obtain ⟨hok, hokn, ⟨kn, hkn⟩, e, hse, hsz, hby, zc, hzc, hzcl, zr, hzr, h⟩ := h
  have hu := TL_selem hok hse
  have hun := TL_ik hokn hkn
  obtain ⟨i, zv, h1, h2, h3, hsi, hoke, h4, h5⟩ := TL_zero hzc
  obtain ⟨m1, m2⟩ := mapM_get _ _ hzr
  obtain ⟨i', _, h1', _, _, _, hbi⟩ := TL_ok hoke
  rw [h1] at h1'; injection h1' with h1'; subst h1'
  have hzs : zv.cells.size = i.size := by omega
  have hmy : y ∈ o.op.operands := by simp [Op.operands, ho, Call.operands]
  have hmz : z ∈ o.op.operands := by simp [Op.operands, ho, Call.operands]
  cases x with
  | rowc q sz len c =>
    simp only at h
    split at h
    · rename_i t' sz' rs hob
      obtain ⟨rfl, e1, rfl, hlr, hn0', hlt, hmax, hK⟩ := h
      refine ⟨_, ?_, hK⟩
      intro H T μ a w K Q hr hT hH hn hk
      have hHq : H q = some (.rows t' sz' rs) := (hH q (.inl (by simp))).trans hob
      have hxv := hr.eval (fun t ht => hT t (ht ▸ hmy)) hy
      have hsv := hr.eval (fun t ht => hT t (ht ▸ hmz)) hz
      obtain ⟨m, rfl⟩ : ∃ m : Nat, n = m := ⟨n.toNat, by omega⟩
      simp only [Int.toNat_natCast] at hk hK ⊢
      have hip : 0 < i.size := by omega
      have e2 : sz' = i.size := by omega
      have hvz : a.eval z = .int k m := by
        generalize a.eval z = vz at hsv
        cases hsv with | d hsv => cases hsv; rfl
      generalize hvy : a.eval y = vy at hxv
      cases hxv with
      | rowc hb b2 b3 b4 b5 =>
        cases hr.ob q _ hHq with
        | rowsNil c1 _ => rw [hb] at c1; cases c1
        | rows c1 c2 c3 c4 c5 c6 =>
          rename_i b arr tt b' arr'
          rw [hb] at c1; injection c1 with c1; injection c1 with c1; subst c1
          rw [b2] at c2; injection c2 with c2; injection c2 with e3 e4; subst e3 e4
          subst e2
          have hlc : len * i.size ≤ arr.size := by rw [b5]; exact Nat.mul_le_mul_right _ b3
          have hol : (arr.toList.take (len * i.size)).length = len * i.size := by simp; omega
          have holds : ∀ j u, (arr.toList.take (len * i.size))[j]? = some u → w.cell? ((⟨b, 0, none⟩ : Addr).add j) = some u := by
            intro j u hj
            rw [List.getElem?_take] at hj
            split at hj
            · rw [Addr_add]; simp [World.cell?, b2]; simpa using hj
            · cases hj
          have hbytes : (len + m) * i.bytes ≤ 140737488355328 := by
            have : (len + m) * i.bytes ≤ 1000000000 * 100000 := Nat.mul_le_mul (by omega) (by omega)
            omega
          have hfits := growslice_fits (need := len + m) (old := c) (bytes := i.bytes) (by omega) hbytes
          have hrun := run_append_zeros (P := cx.P) w t tn o.type tt i zv kn k hu hun h1 h2 ⟨b, 0, none⟩ len c m (arr.toList.take (len * i.size)) hol holds (by omega) hip (by omega) (by omega) (by omega) hfits
          have hge := grownCap_ge w (len + m) c tt
          have hle := grownCap_le_maxLen w (len + m) c tt (by simp only [maxLen]; omega)
          generalize grownCap w (len + m) c tt = c' at hrun hge hle
          generalize harr2 : (arr.toList.take (len * i.size)).toArray ++ Builtin.zeroCells zv.cells m ++ Builtin.zeroCells zv.cells (c' - (len + m)) = arr2 at hrun
          have hnl : (Builtin.zeroCells zv.cells m).toList.length = (List.replicate m zr).length * i.size := by simp [size_zeroCells, hzs]
          have e8 : arr2.size = c' * i.size := by
            rw [← harr2]
            simp only [Array.size_append, List.size_toArray, size_zeroCells, hzs, hol, ← Nat.add_mul]
            congr 1; omega
          have e9 : arr2.toList.take ((len + m) * i.size) = arr.toList.take (len * i.size) ++ (Builtin.zeroCells zv.cells m).toList := by
            rw [← harr2]
            simp only [Array.toList_append]
            have : (len + m) * i.size = (arr.toList.take (len * i.size) ++ (Builtin.zeroCells zv.cells m).toList).length := by rw [List.length_append, hol, hnl]; simp [Nat.add_mul]
            rw [this]
            exact List.take_left
          have hex : (execOp a.eval o).run cx.P w = .ok (.value (.slice (some ⟨w.heap.size, 0, none⟩) (len + m) c')) (w.drew.alloc (.cells arr2 tt)) := by
            simp only [execOp, ho, resolve, invoke, builtin, Sem.run_bind, Sem.run_pure, Result.andThen_ok, List.map_toArray, List.map_cons, List.map_nil, hvy, hvz, hrun]
          unfold Oper.wp
          rw [hex]
          have hn0 : μ n0 = none := hn 0 (by simp)
          have hrl : ∀ r ∈ rs.take len, r.length = i.size := by
            intro r hr'
            obtain ⟨j, hj⟩ := List.mem_iff_getElem?.1 (List.mem_of_mem_take hr')
            exact c5 j r hj
          have hrn : (rs.take len).length = len := by simp; omega
          have hrep : ∀ (k j : Nat) (r : List D) (x : D) (u : Value), (rs.take len)[k]? = some r → r[j]? = some x → (arr.toList.take (len * i.size))[k * i.size + j]? = some u → RepD w (cx.Sta H μ w) x u := by
            intro k j r x u hk' hj hu
            rw [List.getElem?_take] at hk' hu
            split at hk'
            · split at hu
              · exact c6 k j r x u hk' hj (by simpa using hu)
              · cases hu
            · cases hk'
          have hsl : ∀ r ∈ List.replicate m zr, r.length = i.size := by
            intro r hr'; rw [List.eq_of_mem_replicate hr']; omega
          have hnrep : ∀ (p j : Nat) (r : List D) (x : D) (u : Value), (List.replicate m zr)[p]? = some r → r[j]? = some x → (Builtin.zeroCells zv.cells m).toList[p * i.size + j]? = some u → RepD w (cx.Sta H μ w) x u := by
            intro p j r y' u hp hj hu'
            have hpl : p < m := by have := (List.getElem?_eq_some_iff.1 hp).1; simpa using this
            have hrz : r = zr := by rw [List.getElem?_replicate, if_pos hpl] at hp; injection hp with hp; exact hp.symm
            subst hrz
            have hjl : j < zv.cells.size := by have := (List.getElem?_eq_some_iff.1 hj).1; omega
            rw [← hzs, zeroCells_get _ _ _ _ hpl hjl] at hu'
            have hjz : j < zc.length := by omega
            have htd := m2 j zc[j] y' (List.getElem?_eq_getElem hjz) hj
            exact toD_rep htd (h4 w (cx.Sta H μ w) μ j zc[j] u (List.getElem?_eq_getElem hjz) hu')
          have hall : ∀ (q : Nat) (r : List D), (rs.take len ++ List.replicate m zr)[q]? = some r → r.length = i.size := by
            intro q r hq
            rcases List.mem_append.1 (List.mem_of_getElem? hq) with h | h
            · exact hrl r h
            · exact hsl r h
          rw [hsi] at hk
          have hev : Ev w (w.drew.alloc (.cells arr2 tt)) (fun _ => False) := by
            have hq := Ev.alloc w.drew (.cells arr2 tt)
            exact ⟨hq.os, hq.tape, hq.output, hq.size, hq.block, hq.shape⟩
          have hnewb : (w.drew.alloc (.cells arr2 tt)).heap[w.heap.size]? = some (.cells arr2 tt (0, 0)) := alloc_new w.drew _
          have hlen : (len + m) * i.size ≤ arr2.size := by rw [e8]; exact Nat.mul_le_mul_right _ hge
          have hcells := rows_of_take (m := m) (S := cx.Sta H μ w) (w := w) hip e9 hlen hrn (by simp) hol (by rw [hnl]; simp) hrl hsl hrep hnrep
          have key := hr.fresh hn0 (.rows tt i.size (rs.take len ++ List.replicate m zr)) (.row n0 i.size 0 (len + m)) [q] hev (b := w.heap.size) ⟨Nat.le_refl _, heap_lt hnewb⟩
            (fun S' hS => .rows (by simp [setMu]) hnewb hip (by simp only [List.length_append, hrn, List.length_replicate]; exact hlen) hall (fun k j r x u hk' hj hu => (hcells k j r x u hk' hj hu).evolve hev (fun _ h => h.elim) hS))
          refine hk _ _ _ (key.2.putD hd ?_) (fun p x hx => ?_) (fun p hp => ?_)
          · have := Rep.row (w := w.drew.alloc (.cells arr2 tt)) (S := cx.Sta (appH n0 ⟨.row n0 i.size 0 (len + m), [.rows tt i.size (rs.take len ++ List.replicate m zr)], [], [q]⟩ H) (setMu μ n0 (some w.heap.size)) (w.drew.alloc (.cells arr2 tt))) (μ := setMu μ n0 (some w.heap.size)) (i := n0) (sz := i.size) (o := 0) (len := len + m) (b := w.heap.size) (c := c')
              (by simp [setMu]) hnewb hge hle (by rw [e8]; simp)
            simpa using this
          · have : p ≠ n0 := by rintro rfl; rw [hn0] at hx; cases hx
            simp [setMu, this, hx]
          · by_cases hqn : p = n0
            · subst hqn; exact .inr (by simp)
            · simp [setMu, hqn] at hp; exact .inl hp
    · exact h.elim
  | _ => exact h.elim
end Go.Proofs.YtpocnjliigjidaaGreat
