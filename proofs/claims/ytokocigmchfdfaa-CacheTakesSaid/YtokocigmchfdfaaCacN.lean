/- The iterator of a cache's objects, and Objects. -/
import Derived.Test.YtokocigmchfdfaaCacB
import Derived.Test.YtokocigmchfdfaaColl
import Derived.Test.YtokocigmchfdfaaInts
set_option linter.unusedSimpArgs false
set_option linter.unusedVariables false
namespace Go.Proofs.Ytokocigmchfdfaa
open Go.RowKit Go.Shelf
attribute [local go_sem] Oper.semAt_some

def encVS (s : Int × Int) : List Value := [.int .i64 s.1, .int .u8 s.2]

/-- the objects from o on, of the places r -/
def og : Nat → Int → Int → List Int
  | 0, _, _ => []
  | n + 1, o, r => if r = 0 then [] else if r % 2 = 1 then o :: og n (o + 1) (r / 2) else og n (o + 1) (r / 2)
def objs1 (s : Int × Int) : List Int := og 8 (s.1 * 8) s.2
def objsC (c : List (Int × Int)) : List Int := c.flatMap objs1

theorem og_zero (n : Nat) (o : Int) : og n o 0 = [] := by cases n <;> simp [og]
theorem og_len : ∀ (n : Nat) (o r : Int), (og n o r).length ≤ n
  | 0, _, _ => by simp [og]
  | n + 1, o, r => by
    rw [og]
    split
    · simp
    · split
      · have := og_len n (o + 1) (r / 2); simp; omega
      · have := og_len n (o + 1) (r / 2); omega
theorem objsC_len : ∀ (c : List (Int × Int)), (objsC c).length ≤ 8 * c.length
  | [] => by simp [objsC]
  | s :: l => by
    have h1 := objsC_len l
    have h2 := og_len 8 (s.1 * 8) s.2
    have e : objsC (s :: l) = objs1 s ++ objsC l := by simp [objsC]
    rw [e, List.length_append, List.length_cons]
    unfold objs1; omega
theorem objsC_take (l : List (Int × Int)) (k : Nat) (h : k < l.length) : objsC (l.take (k + 1)) = objsC (l.take k) ++ objs1 l[k] := by
  unfold objsC; rw [List.take_succ_eq_append_getElem h, List.flatMap_append, List.flatMap_cons, List.flatMap_nil, List.append_nil]
theorem objsC_pre (l : List (Int × Int)) (k : Nat) (h : k < l.length) {pre rest : List Int} {x : Int} (hp : pre ++ x :: rest = objs1 l[k]) : (objsC (l.take k) ++ pre) ++ [x] <+: objsC l := by
  have e : objsC l = objsC (l.take k) ++ (objs1 l[k] ++ objsC (l.drop (k + 1))) := by
    rw [← List.append_assoc, ← objsC_take l k h]
    unfold objsC
    rw [← List.flatMap_append, List.take_append_drop]
  rw [e, ← hp, List.append_assoc, List.prefix_append_right_inj]
  refine ⟨rest ++ objsC (l.drop (k + 1)), by simp⟩
theorem and_one (u : Int) (h0 : 0 ≤ u) (h1 : u ≤ 255) : bits .and .u8 u 1 = u % 2 := of_fin (Q := fun u => bits .and .u8 u 1 = u % 2) (by decide +kernel) u h0 h1

/-- a contract of the engine over pure data, numbers out -/
theorem ok_calls2 {P : Program} {f : FuncId} {s : Spec} (hok : Ok P f s) (args : List AV) (w : World) (vals : Array Value) (a b : Int) (hrel : s.rel args [] (.tup [.d (.int .i64 a), .d (.int .i64 b)]) []) (hn : vals.size = args.length)
    (hrep : ∀ (j : Nat) (x : AV) (v : Value), args[j]? = some x → vals[j]? = some v → Rep w (fun b => b < w.heap.size) (fun _ => none) x v) :
    Calls P f vals w fun e w' => e = .returned (.tuple #[.int .i64 a, .int .i64 b]) ∧ Below w.heap.size w w' := by
  refine (hok.2 args [] _ [] hrel w (fun b => b < w.heap.size) (fun _ => False) (fun _ => none) vals ⟨fun b hb => ⟨hb, fun h => h⟩, hn, hrep, by simp, by simp, fun _ h => h.elim, by simp, fun _ _ => rfl⟩).mono ?_
  rintro e w' ⟨v, μ', rfl, ho⟩
  have hv := ho.res
  cases hv with
  | tup h1 h2 =>
    rename_i vs
    have hs : vs.size = 2 := h1
    have e0 := h2 0 _ vs[0] rfl (by simp [hs])
    have e1 := h2 1 _ vs[1] rfl (by simp [hs])
    have hvs : vs = #[.int .i64 a, .int .i64 b] := by
      generalize h0 : vs[0] = v0 at e0
      generalize h1' : vs[1] = v1 at e1
      cases e0 with | d e0 => cases e0; cases e1 with | d e1 =>
        cases e1
        apply Array.ext
        · simp [hs]
        · intro i h3 h4
          match i, h3 with
          | 0, _ => simpa using h0
          | 1, _ => simpa using h1'
          | i + 2, h3 => omega
    rw [hvs]
    exact ⟨rfl, ho.ev.os, ho.ev.tape, ho.ev.output, ho.ev.size, fun b hb => ho.ev.block b hb (fun h => h)⟩
theorem Check_any (v : Value) (l : List (Int × Int)) (w : World) (h : Rd encVS 2 w v l) (hl : l.length ≤ 1000000) :
    Calls Try.prog 22 #[v] w fun e w' => e = .returned (.tuple #[.int .i64 (cc l).1, .int .i64 (cc l).2]) ∧ Below w.heap.size w w' := by
  refine ok_calls2 Check_ok [dS l] w #[v] _ _ ⟨l, hl, rfl, rfl, rfl, rfl⟩ rfl (fun j x u hx hu => ?_)
  match j, hx, hu with
  | 0, hx, hu =>
    simp at hx hu
    subst hx hu
    exact .d (rd_data (encD := encDS) (fun _ => rfl) (fun _ => rfl) encS_sc h)

/-- what the iterator reads: its box, and the slice's cells below n₀ -/
def ObPre (n₀ g : Nat) (v : Value) (l : List (Int × Int)) (W : World) : Prop :=
  Blk W g 22 #[v] ∧ ∃ A c, v = .slice A l.length c ∧ l.length ≤ c ∧ (0 < l.length → ∃ b off, A = some ⟨b, off, none⟩ ∧ b < n₀ ∧ b < W.heap.size ∧ ∀ i x, l[i]? = some x → ∀ j u, (encVS x)[j]? = some u → W.cell? ⟨b, off + i * 2 + j, none⟩ = some u)

set_option maxRecDepth 100000 in
theorem objects1_all (n g n₀ : Nat) (hn : 2 ≤ n) (v : Value) (l : List (Int × Int)) (hl : l.length ≤ 1000000) (hok : Val l) :
    SeqAll n Try.prog 66 #[.pointer (some ⟨g, 0, none⟩)] (fun x : Int => #[Value.int .i64 x]) n₀ (fun k => k = g) (objsC l) (ObPre n₀ g v l) := by
  rintro lp C W ⟨hg, A, c, rfl, hc, hA⟩ hC hY h0
  refine callsIn_of_wp Try.func66 rfl trivial ?_ rfl
  simp only [Try.ntmps66, List.size_toArray, List.length_cons, List.length_nil, Nat.reduceAdd, Nat.reduceSub, Array.replicate_succ, Array.replicate_zero, List.push_toArray, List.append_toArray, List.nil_append, List.cons_append]
  have g0 : W.cell? ⟨g, 0, none⟩ = some (.slice A l.length c) := hg.cell 0
  gi_wp2
  gi_loopw [9] (fun i wr => ∃ (k : Nat) (K : Nat → Prop), k ≤ l.length ∧ i = .int .i64 k ∧ C (objsC (l.take k)) K wr ∧ K g ∧ Kept n₀ (fun k => k = g) W wr) (fun i _ => l.length - (intOf i).toNat)
  case atStart => exact ⟨0, _, Nat.zero_le _, rfl, h0, rfl, Kept.refl _ _ _⟩
  case round =>
    obtain ⟨k, K, hk, rfl, hCk, hKg, hkept⟩ := hrel
    by_cases hlt : k < l.length
    · obtain ⟨b, off, rfl, hb, hbl, hx⟩ := hA (by omega)
      have e : l[k]? = some l[k] := List.getElem?_eq_getElem hlt
      obtain ⟨b0, b1, b2, b3⟩ := hok.get k hlt
      have p0 := hx k _ e 0 _ rfl
      have p1 := hx k _ e 1 _ rfl
      have hblk := hkept.2 b hbl (.inl hb)
      have q0 : wr.cell? ⟨b, off + k * 2, none⟩ = some (.int .i64 (l[k]).1) := by rw [← p0]; exact World.cell?_of_block (a := ⟨b, off + k * 2 + 0, none⟩) hblk
      have q1 : wr.cell? ⟨b, off + k * 2 + 1, none⟩ = some (.int .u8 (l[k]).2) := by rw [← p1]; exact World.cell?_of_block (a := ⟨b, off + k * 2 + 1, none⟩) hblk
      have HFk := Lib.hid (objsC_take l k hlt)
      have Hpre := Lib.hid (fun (pre rest : List Int) (x : Int) (hp : pre ++ x :: rest = objs1 l[k]) => objsC_pre l k hlt hp)
      clear p0 p1 e hblk
      generalize l[k] = x at *
      obtain ⟨xf, xu⟩ := x
      simp only at *
      have hC1 : C (objsC (l.take k)) K (wr.alloc (.cells #[.int .i64 xf, .int .u8 xu] 38)) :=
        hC _ _ _ _ _ hCk (OnlyK.of_below (by repeat (first | exact Below.refl _ _ | assumption | apply Below.drew | apply b_drewN | apply b_alloc | (refine Below.setCell ?_ (by (try simp); (try omega)) _) | (refine b_then ?_ (by assumption))))) (fun j hj => .inl hj)
      have hkept1 : Kept n₀ (fun k => k = g) W (wr.alloc (.cells #[.int .i64 xf, .int .u8 xu] 38)) := by
        refine hkept.trans ⟨by simp, fun j hj _ => ?_⟩
        rw [Below.heap_alloc _ _ _ hj]
      clear hCk hkept
      gi_wp2
      generalize wr.alloc (.cells #[.int .i64 xf, .int .u8 xu] 38) = w2 at *
      clear q0 q1
      gi_loopw [5, 6] (fun ov rv wi => ∃ (m : Nat) (o r : Int) (pre : List Int) (K : Nat → Prop), m ≤ 8 ∧ ov = .int .i64 o ∧ rv = .int .u8 r ∧ 0 ≤ o ∧ o ≤ 2048 - m ∧ 0 ≤ r ∧ r < 2 ^ m ∧ Hid (pre ++ og m o r = objs1 (xf, xu)) ∧ C (objsC (l.take k) ++ pre) K wi ∧ K g ∧ Kept n₀ (fun k => k = g) W wi) (fun _ rv _ => (intOf rv).toNat)
      case atStart => exact ⟨8, xf * 8, xu, [], K, by omega, rfl, rfl, by omega, by omega, by omega, by omega, rfl, by simpa using hC1, hKg, hkept1⟩
      case round =>
        obtain ⟨m, o, r, pre, K2, hm, rfl, rfl, o0, o1, r0, r1, hpl, hC2, hK2g, hkept2⟩ := hrel
        have hr255 : r ≤ 255 := by
          have : (2 : Int) ^ m ≤ 2 ^ 8 := by exact_mod_cast Nat.pow_le_pow_right (by decide) hm
          omega
        by_cases hz : r = 0
        · subst hz
          have e : pre = objs1 (xf, xu) := by have := hpl.out; rw [og_zero, List.append_nil] at this; exact this
          gi_wp2
          go_roundw
          case rel =>
            refine ⟨k + 1, K2, by omega, by go_num, ?_, hK2g, hkept2⟩
            rw [HFk.out, ← e]
            exact hC2
          case measure => simp [intOf]; omega
        · obtain ⟨m', rfl⟩ : ∃ m', m = m' + 1 := ⟨m - 1, by
            rcases Nat.eq_zero_or_pos m with h | h
            · subst h; simp at r1; omega
            · omega⟩
          have hz' : (r != 0) = true := by simp [hz]
          have r1' : r / 2 < 2 ^ m' := by rw [Int.pow_succ] at r1; omega
          have ha := and_one r r0 hr255
          by_cases hb1 : r % 2 = 1
          · have hne : (bits .and .u8 r 1 != 0) = true := by rw [ha]; simp; omega
            have hstep : (pre ++ [o]) ++ og m' (o + 1) (r / 2) = objs1 (xf, xu) := by
              have := hpl.out
              rw [og, if_neg hz, if_pos hb1] at this
              rw [← this]; simp
            obtain ⟨fn, tmps, assign, body, hy, hR⟩ := hY _ o K2 wr hC2 (Hpre.out pre (og m' (o + 1) (r / 2)) o (by rw [← hstep]; simp))
            have Hs := Lib.hid hstep
            clear hstep hz ha hpl
            gi_wp2
            refine ⟨fun _ => by omega, hR.mono ?_⟩
            rintro e W3 ⟨rfl, hC3, hk3⟩
            gi_wp2
            go_roundw
            case rel =>
              refine ⟨m', o + 1, r / 2, pre ++ [o], K2, by omega, by go_num, by go_num, by omega, by omega, by omega, r1', Hs.out, ?_, hK2g, ?_⟩
              · rw [← List.append_assoc]; exact hC3
              · exact hkept2.trans ⟨hk3.1, fun j hj h => hk3.2 j hj (by rcases h with h | h; exact .inl h; exact .inr (by rw [show j = g from h]; exact hK2g))⟩
            case measure => simp [intOf]; omega
          · have hne : (bits .and .u8 r 1 != 0) = false := by rw [ha]; simp; omega
            have Hs : Hid (pre ++ og m' (o + 1) (r / 2) = objs1 (xf, xu)) := Lib.hid (by
              have := hpl.out
              rw [og, if_neg hz, if_neg hb1] at this
              exact this)
            have hr1 : 1 ≤ r := by omega
            clear hz ha hpl
            gi_wp2
            refine ⟨(by intro f hf; cases hf), ?_⟩
            gi_wp2
            go_roundw
            case rel => exact ⟨m', o + 1, r / 2, pre, K2, by omega, by go_num, by go_num, by omega, by omega, by omega, r1', Hs.out, hC2, hK2g, hkept2⟩
            case measure => simp [intOf]; omega
    · obtain rfl : k = l.length := by omega
      gi_wp2
      go_end0
      exact ⟨⟨_, rfl⟩, K, by rw [List.take_length] at hCk; exact hCk⟩

theorem objects_any (A : Option Addr) (n c : Nat) (w : World) :
    Calls Try.prog 58 #[.slice A n c] w fun e w' => e = .returned (.func (.func 66) #[] #[.pointer (some ⟨w.heap.size, 0, none⟩)]) ∧ w.alloc (.cells #[.slice A n c] 22) = w' := by
  go_enter Try.func58, Try.ntmps58
  go_wp2
  go_ret
  exact ⟨rfl, rfl⟩
end Go.Proofs.Ytokocigmchfdfaa
