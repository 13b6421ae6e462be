/- buddy.Counts; results as pure data; helpers of the laws about zones; by the engine. -/
import Derived.Test.YtacfipmigkbncaaBdU
import Derived.Test.YtacfipmigkbncaaBdY
import Derived.Test.YtacfipmigkbncaaKitA
namespace Go.Proofs.Ytacfipmigkbncaa
open Go.RowKit
set_option maxRecDepth 100000
set_option linter.unusedSimpArgs false
set_option linter.unusedVariables false


/-! ### results as pure data -/
def frzS (s : Spec) : Spec := { al := true, rel := fun args ins res outs => ins = [] ∧ outs = [] ∧ ∃ res' outs', s.rel args [] res' outs' ∧ frz outs' res' = some res }
theorem frzS_ok {P : Program} {f : FuncId} {s : Spec} (h : Ok P f s) : Ok P f (frzS s) := ok_frz h (frzS s) rfl (fun args ins res' outs' hr => hr)
abbrev AllocFS : Spec := frzS AllocS
abbrev FreeFS : Spec := frzS FreeS
abbrev TakeFS : Spec := frzS TakeS
abbrev NewFS : Spec := frzS NewS
abbrev CountsFS : Spec := frzS CountsS
abbrev rAllocFS : Spec := frzS AllocS
abbrev rFreeFS : Spec := frzS FreeS
abbrev rTakeFS : Spec := frzS TakeS
abbrev rNewFS : Spec := frzS NewS
abbrev rCountsFS : Spec := frzS CountsS
theorem AllocF_ok : Ok Try.prog 66 AllocFS := frzS_ok Alloc_ok
theorem FreeF_ok : Ok Try.prog 62 FreeFS := frzS_ok Free_ok
theorem NewF_ok : Ok Try.prog 46 NewFS := frzS_ok New_ok
theorem rAllocF_ok : Ok Try.prog 42 rAllocFS := frzS_ok rAlloc_ok
theorem rFreeF_ok : Ok Try.prog 64 rFreeFS := frzS_ok rFree_ok
theorem rTakeF_ok : Ok Try.prog 68 rTakeFS := frzS_ok rTake_ok
theorem rNewF_ok : Ok Try.prog 48 rNewFS := frzS_ok rNew_ok
theorem frz_z (N : Nat) (Z : List Bl) (xs : List AV) (ys : List D) (hx : xs = ys.map .d) : frz [.rows 87 2 (Z.map encN)] (.tup (.agg [iv N, .row 0 2 0 Z.length] :: xs)) = some (.tup (.agg [iv N, dN Z] :: xs)) := by
  subst hx
  have : frzAL [.rows 87 2 (Z.map encN)] (ys.map .d) = some (ys.map .d) := by
    induction ys with
    | nil => rfl
    | cons y ys ih => simp [frzAL, frzA, frz1, ih]
  simp [frz, frzA, frzAL, frzL, frz1, this, List.take_of_length_le]
theorem frz_e (outs : List Ob) (xs : List AV) (ys : List D) (hx : xs = ys.map .d) : frz outs (.tup (.agg [iv 0, .nil] :: xs)) = some (.tup (.agg [iv 0, dN []] :: xs)) := by
  subst hx
  have : frzAL outs (ys.map .d) = some (ys.map .d) := by
    induction ys with
    | nil => rfl
    | cons y ys ih => simp [frzAL, frzA, frz1, ih]
  simp [frz, frzA, frzAL, frzL, frz1, this]
theorem bld_le {N : Nat} {f : Nat → Bool} (h : N ≤ 256) : (bld N f).length ≤ 1000000 := by
  have key : ∀ n a, (bldG N f n a).length ≤ n := by
    intro n
    induction n with
    | zero => intro a; simp [bldG]
    | succ n ih =>
      intro a
      rw [bldG]
      split
      · split
        · have := ih (a + 2 ^ bst N f a 7); simp; omega
        · have := ih (a + 1); omega
      · simp
  have := key N 0
  unfold bld; omega
theorem alloc_ex (n : Int) (l : List Bi) (k : Int) (hl : l.length ≤ 1000000) : ∃ (z : Int) (Z : List Bl) (w e : Int), Z.length ≤ 1000000 ∧ (frzS AllocS).rel [zv n l, iv k] [] (.tup [.agg [iv z, dN Z], iv w, iv e]) [] := by
  by_cases h1 : askE n l k = 0
  case neg => exact ⟨0, [], 0, askE n l k, by simp, rfl, rfl, _, _, .inl ⟨n, l, k, hl, h1, rfl, rfl, rfl, rfl⟩, frz_e [] _ [.int .i64 0, .int .i64 (askE n l k)] rfl⟩
  obtain ⟨h2, h3⟩ := askE_zero h1
  obtain ⟨N, m, rfl, rfl, hv⟩ := vz_of h2
  obtain ⟨q, rfl⟩ := Int.eq_ofNat_of_zero_le (show 0 ≤ k by omega)
  rw [zv_toI]
  by_cases h4 : ∀ c ∈ m, c.2 < q
  · exact ⟨0, [], 0, 5, by simp, rfl, rfl, _, _, .inr (.inl ⟨N, m, q, hv, by omega, h4, rfl, rfl, rfl, rfl⟩), frz_e [] _ [.int .i64 0, .int .i64 5] rfl⟩
  · obtain ⟨b, hb⟩ : ∃ b, Best m q b := by
      have key : ∀ l : List Bl, (∃ c ∈ l, q ≤ c.2) → ∃ b, b ∈ l ∧ q ≤ b.2 ∧ (∀ c ∈ l, q ≤ c.2 → b.2 ≤ c.2) ∧ (∀ c ∈ l, c.2 = b.2 → b.1 ≤ c.1) := by
        intro l
        induction l with
        | nil => rintro ⟨c, hc, _⟩; cases hc
        | cons x l ih =>
          intro hex
          by_cases hl2 : ∃ c ∈ l, q ≤ c.2
          · obtain ⟨b, b1, b2, b3, b4⟩ := ih hl2
            by_cases hx : q ≤ x.2 ∧ (x.2 < b.2 ∨ (x.2 = b.2 ∧ x.1 ≤ b.1))
            · refine ⟨x, by simp, hx.1, fun c hc hq => ?_, fun c hc he => ?_⟩
              · rcases List.mem_cons.1 hc with rfl | hc
                · exact Nat.le_refl _
                · have := b3 c hc hq; omega
              · rcases List.mem_cons.1 hc with rfl | hc
                · exact Nat.le_refl _
                · rcases hx.2 with h | h
                  · have := b3 c hc (by omega); omega
                  · have := b4 c hc (by omega); omega
            · refine ⟨b, by simp [b1], b2, fun c hc hq => ?_, fun c hc he => ?_⟩
              · rcases List.mem_cons.1 hc with rfl | hc
                · omega
                · exact b3 c hc hq
              · rcases List.mem_cons.1 hc with rfl | hc
                · omega
                · exact b4 c hc he
          · obtain ⟨c, hc, hq⟩ := hex
            rcases List.mem_cons.1 hc with rfl | hc
            · refine ⟨c, by simp, hq, fun d hd hq2 => ?_, fun d hd he => ?_⟩
              · rcases List.mem_cons.1 hd with rfl | hd
                · exact Nat.le_refl _
                · exact absurd ⟨d, hd, hq2⟩ hl2
              · rcases List.mem_cons.1 hd with rfl | hd
                · exact Nat.le_refl _
                · exact absurd ⟨d, hd, by omega⟩ hl2
            · exact absurd ⟨c, hc, hq⟩ hl2
      have h5 : ∃ c ∈ m, q ≤ c.2 := by
        rcases Classical.em (∃ c ∈ m, q ≤ c.2) with h | h
        · exact h
        · exact absurd (fun c hc => by
            rcases Nat.lt_or_ge c.2 q with h6 | h6
            · exact h6
            · exact absurd ⟨c, hc, h6⟩ h) h4
      obtain ⟨b, b1, b2, b3, b4⟩ := key m h5
      exact ⟨b, b1, b2, b3, b4⟩
    exact ⟨N, bld N (frA m b.1 q), b.1, 0, bld_le hv.v.n, rfl, rfl, _, _, .inr (.inr ⟨N, m, q, b, hv, by omega, hb, rfl, rfl, rfl, rfl⟩), frz_z N _ _ [.int .i64 (b.1 : Int), .int .i64 0] rfl⟩
theorem free_ex (n : Int) (l : List Bi) (a k : Int) (hl : l.length ≤ 1000000) : ∃ (z : Int) (Z : List Bl) (e : Int), Z.length ≤ 1000000 ∧ (frzS FreeS).rel [zv n l, iv a, iv k] [] (.tup [.agg [iv z, dN Z], iv e]) [] := by
  by_cases h1 : askB n l a k = 0
  case neg => exact ⟨0, [], askB n l a k, by simp, rfl, rfl, _, _, .inl ⟨n, l, a, k, hl, h1, rfl, rfl, rfl, rfl⟩, frz_e [] _ [.int .i64 (askB n l a k)] rfl⟩
  obtain ⟨N, m, w, q, rfl, rfl, rfl, rfl, hv⟩ := vb_of h1
  rw [zv_toI]
  rcases Classical.em (Nofr m w q) with h2 | h2
  · exact ⟨N, bld N (frF m w q), 0, bld_le hv.z.v.n, rfl, rfl, _, _, .inr (.inr ⟨N, m, w, q, hv, h2, rfl, rfl, rfl, rfl⟩), frz_z N _ _ [.int .i64 0] rfl⟩
  · exact ⟨0, [], 7, by simp, rfl, rfl, _, _, .inr (.inl ⟨N, m, w, q, hv, h2, rfl, rfl, rfl, rfl⟩), frz_e [] _ [.int .i64 7] rfl⟩
theorem take_ex (n : Int) (l : List Bi) (a k : Int) (hl : l.length ≤ 1000000) : ∃ (z : Int) (Z : List Bl) (e : Int), Z.length ≤ 1000000 ∧ (frzS TakeS).rel [zv n l, iv a, iv k] [] (.tup [.agg [iv z, dN Z], iv e]) [] := by
  by_cases h1 : askB n l a k = 0
  case neg => exact ⟨0, [], askB n l a k, by simp, rfl, rfl, _, _, .inl ⟨n, l, a, k, hl, h1, rfl, rfl, rfl, rfl⟩, frz_e [] _ [.int .i64 (askB n l a k)] rfl⟩
  obtain ⟨N, m, w, q, rfl, rfl, rfl, rfl, hv⟩ := vb_of h1
  rw [zv_toI]
  rcases Classical.em (Allfr m w q) with h2 | h2
  · exact ⟨N, bld N (frA m w q), 0, bld_le hv.z.v.n, rfl, rfl, _, _, .inr (.inr ⟨N, m, w, q, hv, h2, rfl, rfl, rfl, rfl⟩), frz_z N _ _ [.int .i64 0] rfl⟩
  · exact ⟨0, [], 5, by simp, rfl, rfl, _, _, .inr (.inl ⟨N, m, w, q, hv, h2, rfl, rfl, rfl, rfl⟩), frz_e [] _ [.int .i64 5] rfl⟩
theorem new_ex (n : Int) : ∃ (z : Int) (Z : List Bl) (e : Int), Z.length ≤ 1000000 ∧ (frzS NewS).rel [iv n] [] (.tup [.agg [iv z, dN Z], iv e]) [] := by
  by_cases h1 : n < 0 ∨ 256 < n
  · exact ⟨0, [], 2, by simp, rfl, rfl, _, _, .inl ⟨n, h1, rfl, rfl, rfl, rfl⟩, frz_e [] _ [.int .i64 2] rfl⟩
  · obtain ⟨N, rfl⟩ := Int.eq_ofNat_of_zero_le (show 0 ≤ n by omega)
    exact ⟨N, bld N (fun i => decide (i < N)), 0, bld_le (by omega), rfl, rfl, _, _, .inr ⟨N, by omega, rfl, rfl, rfl, rfl⟩, frz_z N _ _ [.int .i64 0] rfl⟩
end Go.Proofs.Ytacfipmigkbncaa
