/- Engine, part J: append. -/
import Derived.Test.YtimmmhfcfocjdaaEngI
set_option linter.unusedSimpArgs false
set_option linter.unusedVariables false
namespace Go.Proofs.Ytimmmhfcfocjdaa
open Go.RowKit

theorem append_sem {P : Program} (w : World) (t ty e : TypeId) (i : TypeInfo) (z : Value) (ht : P.underlying t = some (.slice e)) (hi : P.info? e = some i) (hz : i.zero = some z) (hzs : z.cells.size = i.size)
    (v : Value) (n : Nat) (olds : List Value)
    (hv : (v = .slice none 0 0 ∧ n = 0 ∧ olds = []) ∨ ∃ g cap cur, v = .slice (some ⟨g, 0, none⟩) n cap ∧ w.heap[g]? = some (.cells cur e (0, 0)) ∧ n ≤ cap ∧ cap ≤ maxLen ∧ cur.size = cap * i.size ∧ cur.toList.take (n * i.size) = olds)
    (x : Value) (m : Nat) (news : List Value)
    (hx : (∃ A c, x = .slice A 0 c ∧ m = 0 ∧ news = []) ∨ ∃ a c, x = .slice (some a) m c ∧ news.length = m * i.size ∧ (∀ j u, news[j]? = some u → w.cell? (a.add j) = some u) ∧ (∀ u ∈ news, u.oneCell' = true))
    (h63 : n + m ≤ maxLen) (hbytes : (n + m) * i.bytes ≤ 140737488355328) :
    ∃ v' w', (Builtin.append_ #[t, t] ty #[v, x]).run P w = .ok v' w' ∧
      ((v' = .slice none 0 0 ∧ w' = w ∧ n + m = 0 ∧ v = .slice none 0 0) ∨
       (∃ g cap cur cur', v = .slice (some ⟨g, 0, none⟩) n cap ∧ v' = .slice (some ⟨g, 0, none⟩) (n + m) cap ∧ n + m ≤ cap ∧ cap ≤ maxLen ∧ w.heap[g]? = some (.cells cur e (0, 0)) ∧ w' = w.setRow g cur' ∧ cur'.size = cur.size ∧ cur.size = cap * i.size ∧
          cur'.toList.take ((n + m) * i.size) = olds ++ news) ∨
       (∃ c' arr, v' = .slice (some ⟨w.heap.size, 0, none⟩) (n + m) c' ∧ n + m ≤ c' ∧ c' ≤ maxLen ∧ w' = w.drew.alloc (.cells arr e) ∧ arr.size = c' * i.size ∧ arr.toList.take ((n + m) * i.size) = olds ++ news)) := by
  have hsmall : n + m ≤ 9223372036854775807 := by simp only [maxLen] at h63; omega
  have hnl : news.length = m * i.size := by
    rcases hx with ⟨A, c, _, rfl, rfl⟩ | ⟨a, c, _, h, _⟩
    · simp
    · exact h
  -- what a new row is
  have grown : ∀ old, old < n + m → olds.length = n * i.size → ∃ c' arr, grownCap w (n + m) old e = c' ∧ n + m ≤ c' ∧ c' ≤ maxLen ∧
      olds.toArray ++ news.toArray ++ Builtin.zeroCells z.cells (grownCap w (n + m) old e - (n + m)) = arr ∧ arr.size = c' * i.size ∧ arr.toList.take ((n + m) * i.size) = olds ++ news := by
    intro old _ hol
    have hge := grownCap_ge w (n + m) old e
    refine ⟨_, _, rfl, hge, grownCap_le_maxLen w (n + m) old e h63, rfl, ?_, ?_⟩
    · simp only [Array.size_append, List.size_toArray, size_zeroCells, hzs, hol, hnl, ← Nat.add_mul]
      congr 1
      omega
    · simp only [Array.toList_append, List.append_assoc]
      have : (n + m) * i.size = (olds ++ news).length := by simp [hol, hnl, Nat.add_mul]
      rw [← List.append_assoc, this]
      exact List.take_left
  rcases hv with ⟨rfl, rfl, rfl⟩ | ⟨g, cap, cur, rfl, hg, hnc, hcm, hcs, htake⟩
  · by_cases hm : m = 0
    · subst hm
      have hn : news = [] := List.eq_nil_of_length_eq_zero (by simpa using hnl)
      subst hn
      refine ⟨.slice none 0 0, w, ?_, .inl ⟨rfl, rfl, rfl, rfl⟩⟩
      have hx' : ∃ A c, x = .slice A 0 c := by
        rcases hx with ⟨A, c, rfl, _⟩ | ⟨a, c, rfl, _⟩
        · exact ⟨A, c, rfl⟩
        · exact ⟨some a, c, rfl⟩
      obtain ⟨A, c, rfl⟩ := hx'
      cases A <;> simp [Builtin.append_, run_underlying ht, sizeOf, typeInfo, hi, Builtin.lenOf, Builtin.firstCells, loadCells, loadCellsFrom]
    · rcases hx with ⟨A, c, rfl, h, _⟩ | ⟨a, c, rfl, hl, hnews, h1⟩
      · exact absurd h hm
      · have hr := run_append_nil (P := P) w t ty e i z ht hi hz a m c news hl hnews (by omega) (by omega) (by have hb := hbytes; simp only [Nat.zero_add] at hb; omega)
        obtain ⟨c', arr, e1, e2, e3, e4, e5, e6⟩ := grown 0 (by omega) (by simp)
        simp only [Nat.zero_add] at *
        refine ⟨_, _, hr, .inr (.inr ⟨c', arr, by rw [e1], e2, e3, by rw [← e4]; simp, e5, e6⟩)⟩
  · have hol : olds.length = n * i.size := by
      rw [← htake, List.length_take, Array.length_toList, hcs]
      exact Nat.min_eq_left (Nat.mul_le_mul_right _ hnc)
    by_cases hroom : n + m ≤ cap
    · have hfit : n * i.size + news.length ≤ cur.size := by rw [hnl, hcs, ← Nat.add_mul]; exact Nat.mul_le_mul_right _ hroom
      rcases hx with ⟨A, c, rfl, rfl, rfl⟩ | ⟨a, c, rfl, hl, hnews, h1⟩
      · refine ⟨.slice (some ⟨g, 0, none⟩) n cap, w, ?_, .inr (.inl ⟨g, cap, cur, cur, rfl, rfl, hnc, hcm, hg, (setRow_self w g cur e (0, 0) hg).symm, rfl, hcs, by simpa using htake⟩)⟩
        cases A <;> simp [Builtin.append_, run_underlying ht, sizeOf, typeInfo, hi, Builtin.lenOf, Builtin.firstCells, loadCells, loadCellsFrom, hnc, storeCells]
      · have hr := run_append_room (P := P) w t ty e i ht hi g n cap cur hg a m c news hl hnews h1 hroom hfit
        refine ⟨_, _, hr, .inr (.inl ⟨g, cap, cur, _, rfl, rfl, hroom, hcm, hg, rfl, ?_, hcs, ?_⟩)⟩
        · simp only [List.size_toArray, List.length_append, List.length_take, List.length_drop, Array.length_toList]
          omega
        · have : (n + m) * i.size = (olds ++ news).length := by simp [hol, hnl, Nat.add_mul]
          rw [htake, this]
          exact List.take_left
    · rcases hx with ⟨A, c, rfl, rfl, rfl⟩ | ⟨a, c, rfl, hl, hnews, h1⟩
      · omega
      · have holds : ∀ j u, olds[j]? = some u → w.cell? ((⟨g, 0, none⟩ : Addr).add j) = some u := by
          intro j u hj
          rw [← htake, List.getElem?_take] at hj
          split at hj
          · rw [Addr_add]
            have hlt : j < cur.size := by have := (List.getElem?_eq_some_iff.1 hj).1; simpa using this
            simp [World.cell?, hg]
            simpa using hj
          · cases hj
        have hr := run_append_grow (P := P) w t ty e i z ht hi hz ⟨g, 0, none⟩ n cap olds hol holds a m c news hl hnews (by omega) (by omega) (growslice_fits (by omega) hbytes)
        obtain ⟨c', arr, e1, e2, e3, e4, e5, e6⟩ := grown cap (by omega) hol
        exact ⟨_, _, hr, .inr (.inr ⟨c', arr, by rw [e1], e2, e3, by rw [← e4], e5, e6⟩)⟩

/-- the rows that an append reads -/
def srcV (hs : Nat → Option Ob) (sz : Nat) (y : AV) (K : List (List D) → List Nat → Prop) : Prop :=
  match y with
  | .d (.sl rows) => (∀ r ∈ rows, r.length = sz) ∧ K rows []
  | .nil => K [] []
  | .row i sz' o len => match hs i with
    | some (.rows _ sz'' rs) => sz' = sz ∧ sz'' = sz ∧ o + len ≤ rs.length ∧ K ((rs.drop o).take len) [i]
    | _ => False
  | .sub i sz' o len => match hs i with
    | some (.rows _ sz'' rs) => sz' = sz ∧ sz'' = sz ∧ o + len ≤ rs.length ∧ K ((rs.drop o).take len) [i]
    | _ => False
  | _ => False

/-- a value that reads as these rows, cell by cell -/
def Reads (w : World) (S : Nat → Prop) (sz : Nat) (rows : List (List D)) (v : Value) : Prop :=
  ∃ news : List Value, ((∃ A c, v = .slice A 0 c ∧ rows.length = 0 ∧ news = []) ∨ ∃ a c, v = .slice (some a) rows.length c ∧ news.length = rows.length * sz ∧ (∀ j u, news[j]? = some u → w.cell? (a.add j) = some u) ∧ (∀ u ∈ news, u.oneCell' = true)) ∧
    news.length = rows.length * sz ∧ ∀ (k j : Nat) (r : List D) (x : D) (u : Value), rows[k]? = some r → r[j]? = some x → news[k * sz + j]? = some u → RepD w S x u

theorem RepD.reads {w : World} {S : Nat → Prop} {rows : List (List D)} {v : Value} {sz : Nat} (h : RepD w S (.sl rows) v) (hsz : ∀ r ∈ rows, r.length = sz) : Reads w S sz rows v := by
  cases h with
  | nil => exact ⟨[], .inl ⟨_, _, rfl, rfl, rfl⟩, by simp, by simp⟩
  | sl f hS hc hs2 hcell hrep =>
    rename_i b off c sz'
    cases rows with
    | nil => exact ⟨[], .inl ⟨_, _, rfl, rfl, rfl⟩, by simp, by simp⟩
    | cons r0 rows =>
      have e : sz' = sz := by rw [← hs2 0 r0 rfl]; exact hsz r0 (by simp)
      subst e
      generalize hR : r0 :: rows = R at *
      have hdm : ∀ q, q < R.length * sz' → 0 < sz' := by intro q hq; rcases Nat.eq_zero_or_pos sz' with h | h <;> simp_all
      have inr : ∀ q, q < R.length * sz' → ∃ r x, R[q / sz']? = some r ∧ r[q % sz']? = some x := by
        intro q hq
        have hp := hdm q hq
        have h1 : q / sz' < R.length := (Nat.div_lt_iff_lt_mul hp).2 hq
        have h2 := hs2 _ _ (List.getElem?_eq_getElem h1)
        have h3 : q % sz' < R[q / sz'].length := by rw [h2]; exact Nat.mod_lt _ hp
        exact ⟨_, _, List.getElem?_eq_getElem h1, List.getElem?_eq_getElem h3⟩
      let news := (List.range (R.length * sz')).map fun q => f (q / sz') (q % sz')
      have hget : ∀ (j : Nat) (u : Value), news[j]? = some u → j < R.length * sz' ∧ u = f (j / sz') (j % sz') := by
        intro j u hj
        simp only [news, List.getElem?_map] at hj
        have hlt : j < R.length * sz' := by
          rcases Nat.lt_or_ge j (R.length * sz') with h | h
          · exact h
          · rw [List.getElem?_eq_none (by simpa using h)] at hj; simp at hj
        rw [List.getElem?_range hlt] at hj
        simp at hj
        exact ⟨hlt, hj.symm⟩
      refine ⟨news, .inr ⟨⟨b, off, none⟩, c, rfl, by simp [news], fun j u hj => ?_, fun u hu => ?_⟩, by simp [news], fun k j r x u hk hj hu => ?_⟩
      · obtain ⟨hlt, rfl⟩ := hget j u hj
        obtain ⟨r, x, h1, h2⟩ := inr j hlt
        have := hcell _ _ r x h1 h2
        rw [Addr_add]
        have e : off + j / sz' * sz' + j % sz' = off + j := by have := Nat.div_add_mod j sz'; rw [Nat.mul_comm] at this; omega
        rwa [e] at this
      · obtain ⟨j, hj⟩ := List.mem_iff_getElem?.1 hu
        obtain ⟨hlt, rfl⟩ := hget j u hj
        obtain ⟨r, x, h1, h2⟩ := inr j hlt
        exact (hrep _ _ r x h1 h2).one
      · obtain ⟨hlt, rfl⟩ := hget _ u hu
        have hjl : j < sz' := by rw [← hs2 _ r hk]; exact (List.getElem?_eq_some_iff.1 hj).1
        have e1 : (k * sz' + j) / sz' = k := by rw [Nat.mul_comm, Nat.mul_add_div (by omega), Nat.div_eq_of_lt hjl, Nat.add_zero]
        have e2 : (k * sz' + j) % sz' = j := by rw [Nat.mul_comm, Nat.mul_add_mod, Nat.mod_eq_of_lt hjl]
        rw [e1, e2]
        exact hrep k j r x hk hj

theorem own_reads {cx : Cx} {H : Nat → Option Ob} {T : Nat → Option AV} {μ : Mu} {a : Act} {w : World} (hr : RR cx H T μ a w) {i b sz o len : Nat} {t : TypeId} {rs : List (List D)} (hi : H i = some (.rows t sz rs)) (hb : μ i = some (some b)) (hl : o + len ≤ rs.length) (c : Nat) :
    Reads w (cx.Sta H μ w) sz ((rs.drop o).take len) (.slice (some ⟨b, o * sz, none⟩) len c) := by
  cases hr.ob i _ hi with
  | rowsNil b1 _ => rw [hb] at b1; cases b1
  | rows b1 b2 b3 b4 b5 b6 =>
    rename_i b' arr
    rw [hb] at b1; injection b1 with b1; injection b1 with b1; subst b1
    have hlen : ((rs.drop o).take len).length = len := by simp; omega
    have hmul : (o + len) * sz ≤ rs.length * sz := Nat.mul_le_mul_right _ hl
    rw [Nat.add_mul] at hmul
    have get : ∀ (p : Nat) (r : List D), ((rs.drop o).take len)[p]? = some r → rs[o + p]? = some r := by
      intro p r hp
      rw [List.getElem?_take] at hp
      split at hp
      · rwa [List.getElem?_drop] at hp
      · cases hp
    have nget : ∀ (j : Nat) (u : Value), ((arr.toList.drop (o * sz)).take (len * sz))[j]? = some u → j < len * sz ∧ arr[o * sz + j]? = some u := by
      intro j u hj
      rw [List.getElem?_take] at hj
      split at hj
      · rw [List.getElem?_drop] at hj; exact ⟨‹_›, by simpa using hj⟩
      · cases hj
    -- each cell that is read stands for something
    have rep : ∀ (j : Nat) (u : Value), ((arr.toList.drop (o * sz)).take (len * sz))[j]? = some u → ∃ x, RepD w (cx.Sta H μ w) x u := by
      intro j u hj
      obtain ⟨h1, h2⟩ := nget j u hj
      have hp : j / sz < len := (Nat.div_lt_iff_lt_mul b3).2 h1
      have hp2 : o + j / sz < rs.length := by omega
      have h3 := b5 _ _ (List.getElem?_eq_getElem hp2)
      have h4 : j % sz < rs[o + j / sz].length := by rw [h3]; exact Nat.mod_lt _ b3
      refine ⟨_, b6 (o + j / sz) (j % sz) _ _ u (List.getElem?_eq_getElem hp2) (List.getElem?_eq_getElem h4) ?_⟩
      have e : (o + j / sz) * sz + j % sz = o * sz + j := by
        have := Nat.div_add_mod j sz
        rw [Nat.mul_comm] at this
        rw [Nat.add_mul]; omega
      rw [e]; exact h2
    refine ⟨(arr.toList.drop (o * sz)).take (len * sz), .inr ⟨⟨b, o * sz, none⟩, c, by rw [hlen], by rw [hlen]; simp; omega, fun j u hj => ?_, fun u hu => ?_⟩, by rw [hlen]; simp; omega, fun k j r x u hk hj hu => ?_⟩
    · obtain ⟨h1, h2⟩ := nget j u hj
      rw [Addr_add]
      simp [World.cell?, b2, h2]
    · obtain ⟨j, hj⟩ := List.mem_iff_getElem?.1 hu
      obtain ⟨x, hx⟩ := rep j u hj
      exact hx.one
    · obtain ⟨h1, h2⟩ := nget _ u hu
      refine b6 (o + k) j r x u (get k r hk) hj ?_
      rw [Nat.add_mul, Nat.add_assoc]; exact h2

theorem srcV_reads {hs : Nat → Option Ob} {sz : Nat} {y : AV} {K : List (List D) → List Nat → Prop} (h : srcV hs sz y K) : ∃ rows rd, K rows rd ∧
    ∀ (cx : Cx) (H : Nat → Option Ob) (T : Nat → Option AV) (μ : Mu) (a : Act) (w : World) (v : Value), RR cx H T μ a w → (∀ i, i ∈ rd → H i = hs i) → Rep w (cx.Sta H μ w) μ y v →
      Reads w (cx.Sta H μ w) sz rows v ∧ (∀ r ∈ rows, r.length = sz) := by
  have rowlen : ∀ (cx : Cx) (H : Nat → Option Ob) (T : Nat → Option AV) (μ : Mu) (a : Act) (w : World) (i o len : Nat) (t : TypeId) (rs : List (List D)), RR cx H T μ a w → H i = some (.rows t sz rs) → ∀ r ∈ (rs.drop o).take len, r.length = sz := by
    intro cx H T μ a w i o len t rs hr hi r hm
    have hm2 : r ∈ rs := List.mem_of_mem_drop (List.mem_of_mem_take hm)
    cases hr.ob i _ hi with
    | rowsNil _ _ => simp at hm2
    | rows _ _ _ _ b5 _ =>
      obtain ⟨j, hj⟩ := List.mem_iff_getElem?.1 hm2
      exact b5 j r hj
  cases y with
  | d x =>
    cases x with
    | sl rows =>
      obtain ⟨h1, hK⟩ := h
      refine ⟨_, _, hK, fun cx H T μ a w v hr hH hy => ?_⟩
      cases hy with | d hy => exact ⟨hy.reads h1, h1⟩
    | _ => exact h.elim
  | nil =>
    refine ⟨_, _, h, fun cx H T μ a w v hr hH hy => ?_⟩
    cases hy with | nil => exact ⟨⟨[], .inl ⟨_, _, rfl, rfl, rfl⟩, by simp, by simp⟩, by simp⟩
  | row i sz' o len =>
    simp only [srcV] at h
    split at h
    · rename_i t sz'' rs hob
      obtain ⟨rfl, rfl, hl, hK⟩ := h
      refine ⟨_, _, hK, fun cx H T μ a w v hr hH hy => ?_⟩
      have hHi := (hH i (by simp)).trans hob
      refine ⟨?_, rowlen cx H T μ a w i o len t rs hr hHi⟩
      cases hy with
      | rowNil hb => exact ⟨[], .inl ⟨_, _, rfl, by simp, rfl⟩, by simp, by simp⟩
      | row hb h2 h3 h4 h5 => exact own_reads hr hHi hb hl _
    · exact h.elim
  | sub i sz' o len =>
    simp only [srcV] at h
    split at h
    · rename_i t sz'' rs hob
      obtain ⟨rfl, rfl, hl, hK⟩ := h
      refine ⟨_, _, hK, fun cx H T μ a w v hr hH hy => ?_⟩
      have hHi := (hH i (by simp)).trans hob
      refine ⟨?_, rowlen cx H T μ a w i o len t rs hr hHi⟩
      cases hy with
      | subNil => exact ⟨[], .inl ⟨_, _, rfl, by simp, rfl⟩, by simp, by simp⟩
      | sub hb h3 h4 => exact own_reads hr hHi hb hl _
    · exact h.elim
  | _ => exact h.elim

/-- what an append makes -/
def apV (P : Program) (hs : Nat → Option Ob) (t : TypeId) (x y : AV) (K : Ob → Nat → Nat → List (Nat × Option Ob) → List Nat → Prop) : Prop :=
  (TL P t).ok = true ∧ ∃ e, (TL P t).selem = some e ∧ 0 < (TL P e).size ∧ (TL P e).bytes ≤ 100000 ∧ (∃ z, (TL P e).zero = some z ∧ z.length = (TL P e).size) ∧
    srcV hs (TL P e).size y fun src rd =>
      match x with
      | .nil => src.length ≤ 1000000000 ∧ K (.rows e (TL P e).size src) (TL P e).size src.length [] rd
      | .row i sz 0 len => (match hs i with
        | some (.rows t' sz' rs) => t' = e ∧ sz = (TL P e).size ∧ sz' = sz ∧ len ≤ rs.length ∧ len + src.length ≤ 1000000000 ∧ K (.rows e (TL P e).size (rs.take len ++ src)) (TL P e).size (len + src.length) [(i, none)] (i :: rd)
        | _ => False)
      | _ => False

/-- the row that comes out, at a new id; the old one is given up -/
theorem RR.regrow {cx : Cx} {H : Nat → Option Ob} {T : Nat → Option AV} {μ : Mu} {a : Act} {w : World} (h : RR cx H T μ a w) {n0 : Nat} (hn : μ n0 = none) (ob : Ob) (x : AV) (rd : List Nat) (kill : List (Nat × Option Ob)) {w' : World} {nb : Option Nat} {Wr : Nat → Prop}
    (hkill : kill = [] ∨ ∃ i, kill = [(i, none)] ∧ H i ≠ none)
    (hev : Ev w w' Wr) (hWr : ∀ b, Wr b → ∃ i, kill = [(i, none)] ∧ μ i = some (some b))
    (hnb : ∀ b, nb = some b → (w.heap.size ≤ b ∧ b < w'.heap.size) ∨ (∃ i, kill = [(i, none)] ∧ μ i = some (some b)))
    (hob : ∀ S', (∀ b, cx.Sta H μ w b → S' b) → ObRep w' S' (setMu μ n0 nb) n0 ob) :
    RR cx (appH n0 ⟨x, [ob], kill, rd⟩ H) T (setMu μ n0 nb) a w' := by
  have hk : ∀ j, (Eff.wlook ⟨x, [ob], kill, rd⟩ j = none ∧ ¬ kill = [(j, none)]) ∨ (Eff.wlook ⟨x, [ob], kill, rd⟩ j = some none ∧ kill = [(j, none)] ∧ H j ≠ none) := by
    intro j
    rcases hkill with rfl | ⟨i, rfl, hi⟩
    · left; simp [Eff.wlook]
    · by_cases hij : i = j
      · subst hij; right; simp [Eff.wlook, hi]
      · left; simp [Eff.wlook, hij]
  have hH : ∀ j, appH n0 ⟨x, [ob], kill, rd⟩ H j = if j = n0 then some ob else match Eff.wlook ⟨x, [ob], kill, rd⟩ j with | some y => y | none => H j := by
    intro j
    by_cases hj : j = n0
    · subst hj; simp [appH]
    · have : ¬ (n0 ≤ j ∧ j < n0 + 1) := by omega
      unfold appH
      rw [if_neg (by simpa using this), if_neg hj]
      rfl
  have hμ : ∀ i x, μ i = some x → setMu μ n0 nb i = some x := by
    intro i x hx
    have : i ≠ n0 := by rintro rfl; rw [hn] at hx; cases hx
    simp [setMu, this, hx]
  have hne : ∀ i, μ i ≠ none → i ≠ n0 := by rintro i hi rfl; exact hi hn
  have hnew : ∀ i b', μ i = none → setMu μ n0 nb i = some (some b') → i = n0 ∧ nb = some b' := by
    intro i b' h1 h2
    by_cases hi : i = n0
    · simp [setMu, hi] at h2; exact ⟨hi, h2⟩
    · simp [setMu, hi, h1] at h2
  have hkn : ∀ i, kill = [(i, none)] → μ i ≠ none := by
    intro i hi hm
    rcases hkill with h0 | ⟨q, h0, hq⟩
    · rw [h0] at hi; cases hi
    · rw [h0] at hi; injection hi with hi; injection hi with hi; subst hi
      obtain ⟨o', ho'⟩ := Option.ne_none_iff_exists'.1 hq
      have := h.ob q o' ho'
      cases this <;> simp_all
  have hgone : ∀ i, kill = [(i, none)] → H i ≠ none := by
    intro i hi
    rcases hkill with h0 | ⟨q, h0, hq⟩
    · rw [h0] at hi; cases hi
    · rw [h0] at hi; injection hi with hi; injection hi with hi; subst hi; exact hq
  have hdead : ∀ i, kill = [(i, none)] → appH n0 ⟨x, [ob], kill, rd⟩ H i = none := by
    intro i hi
    rw [hH, if_neg (hne i (hkn i hi))]
    rcases hk i with ⟨_, h2⟩ | ⟨h1, _, _⟩
    · exact absurd hi h2
    · rw [h1]
  have hS : ∀ b', cx.Sta H μ w b' → cx.Sta (appH n0 ⟨x, [ob], kill, rd⟩ H) (setMu μ n0 nb) w' b' := by
    intro b' hb'
    have hnot : ∀ i, H i ≠ none → μ i ≠ some (some b') := fun i hi he => h.notSta hi he hb'
    have hlt := h.staLt hb'
    rcases hb' with hv | ⟨h1, h2, h3, h4⟩
    · exact .inl hv
    · refine .inr ⟨h1, Nat.lt_of_lt_of_le h2 hev.size, h3, fun i hi he => ?_⟩
      by_cases hin : i = n0
      · subst hin
        have := (hnew i b' hn he).2
        rcases hnb b' this with h5 | ⟨q, h5, h6⟩
        · omega
        · exact hnot q (hgone q h5) h6
      · rw [hH, if_neg hin] at hi
        simp [setMu, hin] at he
        rcases hk i with ⟨h5, _⟩ | ⟨h5, _, _⟩
        · rw [h5] at hi; exact h4 i hi he
        · rw [h5] at hi; exact hi rfl
  refine (h.step (H' := appH n0 ⟨x, [ob], kill, rd⟩ H) (μ' := setMu μ n0 nb) (fun i => kill = [(i, none)]) hev (fun b hb => ?_) hμ (fun i hi hk' => ?_) (fun i _ hi _ => hgone i hi) (fun i b h1 h2 => ?_) (fun i j b h1 h2 h3 h4 => (hnew i b h1 h3).1.trans (hnew j b h2 h4).1.symm) (fun i o hor ho => ?_)).2
  · obtain ⟨i, h1, h2⟩ := hWr b hb
    exact ⟨i, h1, hgone i h1, h2⟩
  · rw [hH, if_neg (hne i hi)]
    rcases hk i with ⟨h1, _⟩ | ⟨_, h2, _⟩
    · rw [h1]
    · exact absurd h2 hk'
  · obtain ⟨_, hb⟩ := hnew i b h1 h2
    rcases hnb b hb with h3 | ⟨q, h3, h4⟩
    · exact .inl h3
    · exact .inr ⟨q, hgone q h3, hdead q h3, h4⟩
  · rcases hor with hf | hm
    · rw [hdead i hf] at ho; cases ho
    · by_cases hin : i = n0
      · subst hin
        rw [hH, if_pos rfl] at ho
        injection ho with ho; subst ho
        exact hob _ hS
      · rw [hH, if_neg hin] at ho
        rcases hk i with ⟨h1, _⟩ | ⟨h1, _, _⟩
        · rw [h1] at ho
          exact absurd (h.ob i o ho) (fun hr => by cases hr <;> simp_all)
        · rw [h1] at ho; cases ho

theorem rows_of_take {w : World} {S : Nat → Prop} {sz n m : Nat} {arr : Array Value} {olds news : List Value} {rs src : List (List D)} (hsz : 0 < sz) (ht : arr.toList.take ((n + m) * sz) = olds ++ news) (hlen : (n + m) * sz ≤ arr.size) (hn : rs.length = n) (hm : src.length = m)
    (hol : olds.length = n * sz) (hnl : news.length = m * sz) (hr1 : ∀ r ∈ rs, r.length = sz) (hr2 : ∀ r ∈ src, r.length = sz)
    (h1 : ∀ (k j : Nat) (r : List D) (x : D) (u : Value), rs[k]? = some r → r[j]? = some x → olds[k * sz + j]? = some u → RepD w S x u)
    (h2 : ∀ (k j : Nat) (r : List D) (x : D) (u : Value), src[k]? = some r → r[j]? = some x → news[k * sz + j]? = some u → RepD w S x u) :
    ∀ (k j : Nat) (r : List D) (x : D) (u : Value), (rs ++ src)[k]? = some r → r[j]? = some x → arr[k * sz + j]? = some u → RepD w S x u := by
  intro k j r x u hk hj hu
  have hkl : k < n + m := by have := (List.getElem?_eq_some_iff.1 hk).1; simp at this; omega
  have hr : r.length = sz := by
    have hmem := List.mem_of_getElem? hk
    rcases List.mem_append.1 hmem with h | h
    · exact hr1 r h
    · exact hr2 r h
  have hjl : j < sz := by rw [← hr]; exact (List.getElem?_eq_some_iff.1 hj).1
  have hlt : k * sz + j < (n + m) * sz := by
    have : (k + 1) * sz ≤ (n + m) * sz := Nat.mul_le_mul_right _ hkl
    rw [Nat.add_mul, Nat.one_mul] at this; omega
  have hu' : (olds ++ news)[k * sz + j]? = some u := by
    rw [← ht, List.getElem?_take, if_pos hlt]; simpa using hu
  by_cases hkn : k < n
  · have : (k + 1) * sz ≤ n * sz := Nat.mul_le_mul_right _ hkn
    rw [Nat.add_mul, Nat.one_mul] at this
    rw [List.getElem?_append_left (by omega)] at hu' hk
    exact h1 k j r x u hk hj hu'
  · have : n * sz ≤ k * sz := Nat.mul_le_mul_right _ (by omega)
    rw [List.getElem?_append_right (by omega)] at hu' hk
    refine h2 (k - n) j r x u (by rw [← hn]; exact hk) hj ?_
    have e : (k - n) * sz + j = k * sz + j - olds.length := by rw [hol, Nat.sub_mul]; omega
    rw [e]; exact hu'

theorem loc_append {cx : Cx} {n0 : Nat} {ts : Nat → Option AV} {hs : Nat → Option Ob} {o : Oper} {t : TypeId} {y z : Operand} {x s : AV} {K : Eff → Prop} (hd : dstOk cx.n o.dst)
    (ho : o.op = .call { callee := .builtin .append, args := #[y, z], argTypes := #[t, t] }) (hy : getT ts y = some x) (hz : getT ts z = some s)
    (h : apV cx.P hs t x s fun ob sz n kill rd => K ⟨.row n0 sz 0 n, [ob], kill, rd⟩) : ∃ e, LocOp cx n0 ts hs o e ∧ K e := by
  obtain ⟨hok, e, hse, hsz, hby, ⟨zc, hzc, hzcl⟩, h⟩ := h
  have hu := TL_selem hok hse
  obtain ⟨i, zv, h1, h2, h3, hsi, hoke, h4, h5⟩ := TL_zero hzc
  obtain ⟨i', _, h1', _, _, _, hbi⟩ := TL_ok hoke
  rw [h1] at h1'; injection h1' with h1'; subst h1'
  have hzs : zv.cells.size = i.size := by omega
  obtain ⟨src, rd, h, hsrc⟩ := srcV_reads h
  have hmy : y ∈ o.op.operands := by simp [Op.operands, ho, Call.operands]
  have hmz : z ∈ o.op.operands := by simp [Op.operands, ho, Call.operands]
  -- the run, once the base is known
  have go : ∀ (n : Nat) (rs : List (List D)) (kill : List (Nat × Option Ob)) (rd0 : List Nat), rs.length = n → n + src.length ≤ 1000000000 → (∀ q, q ∈ rd → q ∈ rd0) →
      (∀ (H : Nat → Option Ob) (T : Nat → Option AV) (μ : Mu) (a : Act) (w : World), RR cx H T μ a w → (∀ q, q ∈ rd0 ∨ q ∈ kill.map (·.1) → H q = hs q) → Rep w (cx.Sta H μ w) μ x (a.eval y) →
        (kill = [] ∨ ∃ q, kill = [(q, none)] ∧ H q ≠ none) ∧ ∃ olds : List Value, olds.length = n * i.size ∧ (∀ r ∈ rs, r.length = i.size) ∧
        (∀ (k j : Nat) (r : List D) (x : D) (u : Value), rs[k]? = some r → r[j]? = some x → olds[k * i.size + j]? = some u → RepD w (cx.Sta H μ w) x u) ∧
        ((a.eval y = .slice none 0 0 ∧ n = 0 ∧ olds = []) ∨ ∃ g cap cur, a.eval y = .slice (some ⟨g, 0, none⟩) n cap ∧ w.heap[g]? = some (.cells cur e (0, 0)) ∧ n ≤ cap ∧ cap ≤ maxLen ∧ cur.size = cap * i.size ∧ cur.toList.take (n * i.size) = olds ∧ ∃ q, kill = [(q, none)] ∧ μ q = some (some g))) →
      LocOp cx n0 ts hs o ⟨.row n0 (TL cx.P e).size 0 (n + src.length), [.rows e (TL cx.P e).size (rs ++ src)], kill, rd0⟩ := by
    intro n rs kill rd0 hrn hmax hrd hbase H T μ a w K Q hr hT hH hn hk
    have hxv := hr.eval (fun t ht => hT t (ht ▸ hmy)) hy
    have hsv := hr.eval (fun t ht => hT t (ht ▸ hmz)) hz
    obtain ⟨⟨news, hnews, hnl, hnrep⟩, hsl⟩ := hsrc cx H T μ a w (a.eval z) hr (fun q hq => hH q (.inl (hrd q hq))) hsv
    obtain ⟨hkill, olds, hol, hrl, hrep, hv⟩ := hbase H T μ a w hr hH hxv
    rw [hsi] at hnews hnl hsl
    simp only [hsi] at hnrep
    have hbytes : (n + src.length) * i.bytes ≤ 140737488355328 := by
      have : (n + src.length) * i.bytes ≤ 1000000000 * 100000 := Nat.mul_le_mul hmax (by omega)
      omega
    obtain ⟨v', w', hrun, hcase⟩ := append_sem (P := cx.P) w t o.type e i zv hu h1 h2 hzs (a.eval y) n olds (by
        rcases hv with hv | ⟨g, cap, cur, q1, q2, q3, q4, q5, q6, _⟩
        · exact .inl hv
        · exact .inr ⟨g, cap, cur, q1, q2, q3, q4, q5, q6⟩) (a.eval z) src.length news hnews (by simp [maxLen]; omega) hbytes
    have hex : (execOp a.eval o).run cx.P w = .ok (.value v') w' := by
      simp only [execOp, ho, resolve, invoke, builtin, Sem.run_bind, Sem.run_pure, Result.andThen_ok, List.map_toArray, List.map_cons, List.map_nil, hrun]
    unfold Oper.wp
    rw [hex]
    have hn0 : μ n0 = none := hn 0 (by simp)
    have hμ : ∀ nb i x, μ i = some x → setMu μ n0 nb i = some x := by
      intro nb i x hx
      have : i ≠ n0 := by rintro rfl; rw [hn0] at hx; cases hx
      simp [setMu, this, hx]
    have hlast : ∀ nb, ∀ q, setMu μ n0 nb q ≠ none → μ q ≠ none ∨ (n0 ≤ q ∧ q < n0 + 1) := by
      intro nb q hq
      by_cases hqn : q = n0
      · subst hqn; exact .inr (by omega)
      · simp [setMu, hqn] at hq; exact .inl hq
    have hall : ∀ (q : Nat) (r : List D), (rs ++ src)[q]? = some r → r.length = i.size := by
      intro q r hq
      rcases List.mem_append.1 (List.mem_of_getElem? hq) with h | h
      · exact hrl r h
      · exact hsl r h
    have hip : 0 < i.size := by omega
    rw [hsi] at hk
    rcases hcase with ⟨rfl, rfl, e1, e2⟩ | ⟨g, cap, cur, cur', e1, rfl, e3, e4, e5, rfl, e7, e8, e9⟩ | ⟨c', arr, rfl, e2, e3, rfl, e5, e6⟩
    · have e3 : rs ++ src = [] := by
        have : rs.length = 0 := by omega
        have h' : src.length = 0 := by omega
        rw [List.eq_nil_of_length_eq_zero this, List.eq_nil_of_length_eq_zero h']; rfl
      rw [e3, e1] at hk
      have key := hr.regrow hn0 (.rows e i.size []) (.row n0 i.size 0 0) rd0 kill (nb := none) hkill (Ev.refl w' (fun _ => False)) (fun _ h => h.elim) (fun _ h => by cases h) (fun S' _ => .rowsNil (by simp [setMu]) hip)
      exact hk _ _ _ (key.putD hd (.rowNil (by simp [setMu]))) (hμ none) (hlast none)
    · have hq : ∃ q, kill = [(q, none)] ∧ μ q = some (some g) := by
        rcases hv with ⟨hv, _⟩ | ⟨g', cap', cur0, q1, _, _, _, _, _, q7⟩
        · rw [hv] at e1; cases e1
        · rw [q1] at e1
          simp only [Value.slice.injEq, Option.some.injEq, Addr.mk.injEq, and_true, true_and] at e1
          obtain ⟨rfl, rfl⟩ := e1
          exact q7
      obtain ⟨q, hq1, hq2⟩ := hq
      have hev := Ev.setRow e5 e7
      have hlen : (n + src.length) * i.size ≤ cur'.size := by rw [e7, e8]; exact Nat.mul_le_mul_right _ e3
      have hqlive : H q ≠ none := by
        rcases hkill with h0 | ⟨q', h0, h1⟩
        · rw [hq1] at h0; cases h0
        · rw [hq1] at h0; injection h0 with h0; injection h0 with h0; subst h0; exact h1
      have hns : ∀ c, c = g → ¬ cx.Sta H μ w c := fun c hc => hc ▸ hr.notSta hqlive hq2
      have hcells := rows_of_take (S := cx.Sta H μ w) (w := w) hip e9 hlen hrn rfl hol hnl hrl hsl hrep hnrep
      have key := hr.regrow hn0 (.rows e i.size (rs ++ src)) (.row n0 i.size 0 (n + src.length)) rd0 kill (nb := some g) hkill hev (fun b hb => ⟨q, hq1, hb ▸ hq2⟩) (fun b hb => .inr ⟨q, hq1, by injection hb with hb; exact hb ▸ hq2⟩)
        (fun S' hS => .rows (by simp [setMu]) (setRow_heap w g cur cur' e _ e5) hip (by simp [hrn]; exact hlen) hall (fun k j r x u hk' hj hu => (hcells k j r x u hk' hj hu).evolve hev hns hS))
      refine hk _ _ _ (key.putD hd ?_) (hμ (some g)) (hlast (some g))
      have := Rep.row (w := w.setRow g cur') (S := cx.Sta (appH n0 ⟨.row n0 i.size 0 (n + src.length), [.rows e i.size (rs ++ src)], kill, rd0⟩ H) (setMu μ n0 (some g)) (w.setRow g cur')) (μ := setMu μ n0 (some g)) (i := n0) (sz := i.size) (o := 0) (len := n + src.length) (b := g) (c := cap)
        (by simp [setMu]) (setRow_heap w g cur cur' e _ e5) e3 e4 (by rw [e7, e8]; simp)
      simpa using this
    · have hev : Ev w (w.drew.alloc (.cells arr e)) (fun _ => False) := by
        have hq := Ev.alloc w.drew (.cells arr e)
        exact ⟨hq.os, hq.tape, hq.output, hq.size, hq.block, hq.shape⟩
      have hnewb : (w.drew.alloc (.cells arr e)).heap[w.heap.size]? = some (.cells arr e (0, 0)) := alloc_new w.drew _
      have hlen : (n + src.length) * i.size ≤ arr.size := by rw [e5]; exact Nat.mul_le_mul_right _ e2
      have hcells := rows_of_take (S := cx.Sta H μ w) (w := w) hip e6 hlen hrn rfl hol hnl hrl hsl hrep hnrep
      have key := hr.regrow hn0 (.rows e i.size (rs ++ src)) (.row n0 i.size 0 (n + src.length)) rd0 kill (nb := some w.heap.size) hkill hev (fun _ h => h.elim) (fun b hb => .inl (by injection hb with hb; subst hb; exact ⟨Nat.le_refl _, heap_lt hnewb⟩))
        (fun S' hS => .rows (by simp [setMu]) hnewb hip (by simp [hrn]; exact hlen) hall (fun k j r x u hk' hj hu => (hcells k j r x u hk' hj hu).evolve hev (fun _ h => h.elim) hS))
      refine hk _ _ _ (key.putD hd ?_) (hμ (some w.heap.size)) (hlast (some w.heap.size))
      have := Rep.row (w := w.drew.alloc (.cells arr e)) (S := cx.Sta (appH n0 ⟨.row n0 i.size 0 (n + src.length), [.rows e i.size (rs ++ src)], kill, rd0⟩ H) (setMu μ n0 (some w.heap.size)) (w.drew.alloc (.cells arr e))) (μ := setMu μ n0 (some w.heap.size)) (i := n0) (sz := i.size) (o := 0) (len := n + src.length) (b := w.heap.size) (c := c')
        (by simp [setMu]) hnewb e2 e3 (by rw [e5]; simp)
      simpa using this
  cases x with
  | nil =>
    obtain ⟨hm, hK⟩ := h
    have := go 0 [] [] rd rfl (by simpa using hm) (fun _ h => h) (fun H T μ a w hr hH hx => ⟨.inl rfl, [], by simp, by simp, by simp, .inl ⟨by generalize a.eval y = vv at hx; cases hx; rfl, rfl, rfl⟩⟩)
    simp only [Nat.zero_add, List.nil_append] at this
    exact ⟨_, this, hK⟩
  | row q sz o' len =>
    cases o' with
    | succ _ => exact h.elim
    | zero =>
      simp only at h
      split at h
      · rename_i t' sz' rs hob
        obtain ⟨rfl, e1, rfl, hlr, hm, hK⟩ := h
        have := go len (rs.take len) [(q, none)] (q :: rd) (by simp; omega) hm (fun _ h => by simp [h]) (fun H T μ a w hr hH hx => by
          have hHq : H q = some (.rows t' sz' rs) := (hH q (by simp)).trans hob
          refine ⟨.inr ⟨q, rfl, by simp [hHq]⟩, ?_⟩
          have e2 : sz' = i.size := by omega
          generalize hvy : a.eval y = vv at hx
          cases hx with
          | rowNil hb => exact ⟨[], by simp, by simp, by simp, .inl ⟨rfl, rfl, rfl⟩⟩
          | row hb b2 b3 b4 b5 =>
            cases hr.ob q _ hHq with
            | rowsNil c1 _ => rw [hb] at c1; cases c1
            | rows c1 c2 c3 c4 c5 c6 =>
              rename_i b c arr tt b' arr'
              rw [hb] at c1; injection c1 with c1; injection c1 with c1; subst c1
              rw [b2] at c2; injection c2 with c2; injection c2 with e3 e4; subst e3 e4
              subst e2
              have hlc : len * i.size ≤ arr.size := by rw [b5, Nat.zero_add]; exact Nat.mul_le_mul_right _ b3
              refine ⟨arr.toList.take (len * i.size), by simp; omega, fun r hr' => ?_, fun k j r x u hk' hj hu => ?_, .inr ⟨b, c, arr, by simp, b2, b3, b4, by rw [b5, Nat.zero_add], rfl, q, rfl, hb⟩⟩
              · obtain ⟨j, hj⟩ := List.mem_iff_getElem?.1 (List.mem_of_mem_take hr')
                exact c5 j r hj
              · rw [List.getElem?_take] at hk' hu
                split at hk'
                · split at hu
                  · exact c6 k j r x u hk' hj (by simpa using hu)
                  · cases hu
                · cases hk')
        exact ⟨_, this, hK⟩
      · exact h.elim
  | _ => exact h.elim
end Go.Proofs.Ytimmmhfcfocjdaa
