/- For SlabUndo: plain facts; made, has. -/
import Derived.Test.YtimmmhfcfocjdaaSlabOpen
import Derived.Test.YtimmmhfcfocjdaaKitA
set_option linter.unusedSimpArgs false
set_option linter.unusedVariables false
namespace Go.Proofs.Ytimmmhfcfocjdaa
open Go.RowKit

theorem undoA0 : ∀ n : Fin 256, (n.1 : Int) ≠ 0 → (plcs (n.1 : Int)).head? = some (tz n.1) ∧ 0 ≤ tz n.1 ∧ tz n.1 ≤ 7 ∧ usd n.1 (tz n.1) = true ∧ 0 ≤ (n.1 : Int) - 2 ^ (tz n.1).toNat ∧ (n.1 : Int) - 2 ^ (tz n.1).toNat ≤ 254 ∧ plc ((n.1 : Int) - 2 ^ (tz n.1).toNat) ≤ tz n.1 := by decide +kernel
theorem undoA (u : Int) (h0 : 1 ≤ u) (h1 : u ≤ 255) : (plcs u).head? = some (tz u) ∧ 0 ≤ tz u ∧ tz u ≤ 7 ∧ usd u (tz u) = true ∧ 0 ≤ u - 2 ^ (tz u).toNat ∧ u - 2 ^ (tz u).toNat ≤ 254 ∧ plc (u - 2 ^ (tz u).toNat) ≤ tz u :=
  of_fin (Q := fun u => u ≠ 0 → (plcs u).head? = some (tz u) ∧ 0 ≤ tz u ∧ tz u ≤ 7 ∧ usd u (tz u) = true ∧ 0 ≤ u - 2 ^ (tz u).toNat ∧ u - 2 ^ (tz u).toNat ≤ 254 ∧ plc (u - 2 ^ (tz u).toNat) ≤ tz u) undoA0 u (by omega) h1 (by omega)

theorem undoB0 : ∀ n : Fin 256, (n.1 : Int) ≠ 255 → 0 ≤ plc n.1 ∧ plc n.1 ≤ 7 ∧ (n.1 : Int) + 2 ^ (plc n.1).toNat ≤ 255 ∧ usd ((n.1 : Int) + 2 ^ (plc n.1).toNat) (plc n.1) = true ∧ plc n.1 ∉ plcs n.1 ∧ plc n.1 ∈ plcs ((n.1 : Int) + 2 ^ (plc n.1).toNat) ∧ oc ((n.1 : Int) + 2 ^ (plc n.1).toNat) = oc n.1 + 1 ∧ ∀ q ∈ plcs n.1, q ∈ plcs ((n.1 : Int) + 2 ^ (plc n.1).toNat) := by decide +kernel
theorem undoB (u : Int) (h0 : 0 ≤ u) (h1 : u ≤ 255) (h2 : u ≠ 255) : 0 ≤ plc u ∧ plc u ≤ 7 ∧ u + 2 ^ (plc u).toNat ≤ 255 ∧ usd (u + 2 ^ (plc u).toNat) (plc u) = true ∧ plc u ∉ plcs u ∧ plc u ∈ plcs (u + 2 ^ (plc u).toNat) ∧ oc (u + 2 ^ (plc u).toNat) = oc u + 1 ∧ ∀ q ∈ plcs u, q ∈ plcs (u + 2 ^ (plc u).toNat) :=
  of_fin (Q := fun u => u ≠ 255 → 0 ≤ plc u ∧ plc u ≤ 7 ∧ u + 2 ^ (plc u).toNat ≤ 255 ∧ usd (u + 2 ^ (plc u).toNat) (plc u) = true ∧ plc u ∉ plcs u ∧ plc u ∈ plcs (u + 2 ^ (plc u).toNat) ∧ oc (u + 2 ^ (plc u).toNat) = oc u + 1 ∧ ∀ q ∈ plcs u, q ∈ plcs (u + 2 ^ (plc u).toNat)) undoB0 u h0 h1 h2

/-- freeing the object of a used place -/
theorem fr_used (f u p : Int) (hf0 : 0 ≤ f) (hf1 : f < 256) (p0 : 0 ≤ p) (p1 : p ≤ 7) (h : usd u p = true) : frE f u (f * 8 + p) = 0 ∧ frF f u (f * 8 + p) = f ∧ frU f u (f * 8 + p) = u - 2 ^ p.toNat := by
  have e1 : (f * 8 + p) / 8 = f := by omega
  have e2 : (f * 8 + p) % 8 = p := by omega
  have e : frE f u (f * 8 + p) = 0 := by
    unfold frE
    rw [if_neg (by simp [schk_ok hf0 hf1]), if_neg (by omega), e1, e2, if_neg (by simp [h])]
  exact ⟨e, by rw [frF, if_pos e], by rw [frU, if_pos e, e2]⟩
theorem al_free (f u : Int) (hf0 : 0 ≤ f) (hf1 : f < 256) (h : u ≠ 255) : alE f u = 0 ∧ alF f u = f ∧ alU f u = u + 2 ^ (plc u).toNat ∧ alO f u = f * 8 + plc u := by
  have e : alE f u = 0 := by simp [alE, schk_ok hf0 hf1, h]
  exact ⟨e, by rw [alF, if_pos e], by rw [alU, if_pos e], by rw [alO, if_pos e]⟩
theorem al_full (f : Int) (hf0 : 0 ≤ f) (hf1 : f < 256) : alE f 255 = 5 ∧ alF f 255 = 0 ∧ alU f 255 = 0 ∧ alO f 255 = 0 := by
  have e : alE f 255 = 5 := by simp [alE, schk_ok hf0 hf1]
  exact ⟨e, by simp [alF, e], by simp [alU, e], by simp [alO, e]⟩

theorem objs_mem {f u p : Int} : f * 8 + p ∈ objs f u ↔ p ∈ plcs u := by
  unfold objs
  rw [List.mem_map]
  constructor
  · rintro ⟨q, hq, e⟩
    have : q = p := by omega
    exact this ▸ hq
  · exact fun h => ⟨p, h, rfl⟩

/-- what made returns -/
def mdF (n : Int) : Int := n.tdiv 256 % 256
def mdU (n : Int) : Int := n % 256
theorem made_any (n : Int) (w : World) (h0 : -9223372036854775808 ≤ n) (h1 : n ≤ 9223372036854775807) :
    Calls Try.prog 28 #[.int .i64 n] w fun e w' => e = .returned (.agg #[.int .i64 (mdF n), .int .u8 (mdU n)]) ∧ Below w.heap.size w w' := by
  have a0 : Hid (n.tdiv 256 % 256 = mdF n) := Lib.hid rfl
  have a1 : Hid (n % 256 = mdU n) := Lib.hid rfl
  have u0 : 0 ≤ mdU n := Int.emod_nonneg n (by decide)
  have u1 : mdU n < 256 := Int.emod_lt_of_pos n (by decide)
  have hw1 : IntKind.u8.wrap (mdU n) = mdU n := by simp [IntKind.wrap, IntKind.bits, IntKind.signed]; omega
  have hq : IntKind.i64.wrap (n.tdiv 256) = n.tdiv 256 := IntWalk.i64_in _ (by
    by_cases hn : 0 ≤ n
    · rw [Int.tdiv_eq_ediv_of_nonneg hn]; omega
    · have e : n.tdiv 256 = -((-n).tdiv 256) := by rw [Int.neg_tdiv]; omega
      rw [e, Int.tdiv_eq_ediv_of_nonneg (by omega)]; omega)
  have X := Blk.new w 29 #[.int .i64 0, .int .u8 0]
  go_enter Try.func28, Try.ntmps28
  go_wp2_with fail
  refine (Mod_any _ _ _ (by omega) (by omega)).mono ?_
  rintro e w' ⟨rfl, rfl⟩
  rw [a0.out]
  go_wp2_with fail
  refine (Mod_any _ _ _ (by omega) (by omega)).mono ?_
  rintro e w' ⟨rfl, rfl⟩
  rw [a1.out]
  go_wp2
  exact bodyPost_ret (v := .agg #[.int .i64 (mdF n), .int .u8 (mdU n)]) (by simp [results, Try.results28, go_sem]) rfl ⟨rfl, (by repeat (first | exact Below.refl _ _ | assumption | apply Below.drew | apply b_drewN | apply b_alloc | (refine Below.setCell ?_ (by (try simp); (try omega)) _) | (refine b_then ?_ (by assumption))))⟩

theorem has_any (v : Value) (l : List Int) (n : Int) (w : World) (h : Rd encI 1 w v l) (hl : l.length ≤ 1000000) :
    Calls Try.prog 29 #[v, .int .i64 n] w fun e w' => e = .returned (.bool (decide (n ∈ l))) ∧ w = w' := by
  obtain ⟨A, c, rfl, hc, hx⟩ := rd_int h
  clear h
  go_enter Try.func29, Try.ntmps29
  go_wp2
  go_loopw [5] (fun i wr => ∃ k : Nat, k ≤ l.length ∧ i = .int .i64 k ∧ Hid (n ∉ l.take k) ∧ wr = w) (fun i _ => l.length - (intOf i).toNat)
  case atStart => exact ⟨0, Nat.zero_le _, rfl, by show n ∉ l.take 0; simp, rfl⟩
  case round =>
    obtain ⟨k, hk, rfl, hno, rfl⟩ := hrel
    by_cases hlt : k < l.length
    · obtain ⟨b, off, rfl, hbb, p0⟩ := hx k hlt
      clear hx
      by_cases he : l[k] = n
      · have E : Hid (true = decide (n ∈ l)) := Lib.hid (by simp; rw [← he]; exact List.getElem_mem hlt)
        have hd : (l[k] == n) = true := by simp [he]
        clear he
        generalize l[k] = x at *
        go_wp2
        go_ret
        exact ⟨ret_bool E.out, rfl⟩
      · have hd : (l[k] == n) = false := by simp [he]
        have E : Hid (n ∉ l.take (k + 1)) := Lib.hid (by
          rw [List.take_succ_eq_append_getElem hlt]
          simp only [List.mem_append, List.mem_singleton, not_or]
          exact ⟨hno.out, fun e => he e.symm⟩)
        clear he
        generalize l[k] = x at *
        go_wp2
        go_roundw
        case rel => exact ⟨k + 1, by omega, by go_num, E.out, by first | rfl | trivial⟩
        case measure => simp [intOf]; omega
    · obtain rfl : k = l.length := by omega
      have E : Hid (false = decide (n ∈ l)) := Lib.hid (by have := hno.out; rw [List.take_length] at this; simp [this])
      go_wp2
      go_ret
      exact ⟨ret_bool E.out, rfl⟩
end Go.Proofs.Ytimmmhfcfocjdaa
