/-
  CalmNumbers: the plain facts on the greatest of some; rows of numbers; the walk where the numbers are out of range.
-/
import Derived.Test.YtccopcbemflemaaCalmD
namespace Go.Proofs.Ytccopcbemflemaa
open Go Go.RowKit

theorem mostK_ge (z : List Int) (n : Nat) : ∀ i, i < n → z[i]?.getD 0 ≤ mostK z n := by
  induction n with
  | zero => intro i h; omega
  | succ n ih =>
    intro i h
    by_cases hn : n = 0
    · subst hn
      obtain rfl : i = 0 := by omega
      exact Int.le_refl _
    · rw [mostK, if_neg hn]
      by_cases hlt : mostK z n < z[n]?.getD 0
      · rw [if_pos hlt]
        by_cases hi : i = n
        · subst hi; exact Int.le_refl _
        · have := ih i (by omega); omega
      · rw [if_neg hlt]
        by_cases hi : i = n
        · subst hi; omega
        · exact ih i (by omega)

theorem mostK_mem (z : List Int) (n : Nat) (h : 0 < n) : ∃ i, i < n ∧ z[i]?.getD 0 = mostK z n := by
  induction n with
  | zero => omega
  | succ n ih =>
    by_cases hn : n = 0
    · subst hn; exact ⟨0, by omega, rfl⟩
    · rw [mostK, if_neg hn]
      by_cases hlt : mostK z n < z[n]?.getD 0
      · rw [if_pos hlt]; exact ⟨n, by omega, rfl⟩
      · rw [if_neg hlt]
        obtain ⟨i, hi, e⟩ := ih (by omega)
        exact ⟨i, by omega, e⟩

/-- Is M among the first k? -/
def hasK (z : List Int) (M : Int) : Nat → Bool
  | 0 => false
  | k + 1 => hasK z M k || z[k]?.getD 0 == M
theorem hasK_of (z : List Int) (M : Int) (n i : Nat) (h : i < n) (e : z[i]?.getD 0 = M) : hasK z M n = true := by
  induction n with
  | zero => omega
  | succ n ih =>
    by_cases hi : i = n
    · subst hi; simp [hasK, e]
    · rw [hasK, ih (by omega)]; rfl
theorem hasK_most (z : List Int) (n : Nat) (h : 0 < n) : hasK z (mostK z n) n = true :=
  let ⟨i, hi, e⟩ := mostK_mem z n h
  hasK_of z _ n i hi e

/-- A slice whose first 'len' numbers are z's. -/
def Nums (w : World) (a : Option Addr) (len : Nat) (z : List Int) : Prop :=
  ∀ i, i < len → ∃ b off, a = some ⟨b, off, none⟩ ∧ b < w.heap.size ∧ w.cell? ⟨b, off + i, none⟩ = some (.int .i64 (z[i]?.getD 0))
theorem Nums.below {w w' : World} {B : Nat} {a : Option Addr} {len : Nat} {z : List Int} (h : Nums w a len z) (hb : Below B w w') (hB : w.heap.size ≤ B) : Nums w' a len z := by
  intro i hi
  obtain ⟨b, off, ha, hlt, hc⟩ := h i hi
  exact ⟨b, off, ha, Nat.lt_of_lt_of_le hlt hb.size, (hb.cell (p := ⟨b, off + i, none⟩) (Nat.lt_of_lt_of_le hlt hB)).trans hc⟩

theorem most_zero (a : Option Addr) (cap : Nat) (w : World) :
    Calls Try.prog 14 #[.slice a 0 cap] w fun e w' => e = .returned (.tuple #[.int .i64 0, .bool false]) ∧ Below w.heap.size w w' := by
  go_enter Try.func14, Try.ntmps14
  go_wp2
  refine wp_loop_rounds 1 ?_
  rw [rounds_succ]
  go_wp2
  go_ret2
  exact ⟨rfl, Below.refl _ _⟩
theorem most64_zero (a : Option Addr) (cap : Nat) (w : World) :
    Calls Try.prog 15 #[.slice a 0 cap] w fun e w' => e = .returned (.tuple #[.int .i64 0, .bool false]) ∧ Below w.heap.size w w' := by
  go_enter Try.func15, Try.ntmps15
  go_wp2
  refine wp_loop_rounds 1 ?_
  rw [rounds_succ]
  go_wp2
  go_ret2
  exact ⟨rfl, Below.refl _ _⟩

theorem most_row (a : Option Addr) (len cap : Nat) (z : List Int) (w : World) (hlen : len ≤ 1000) (hN : Nums w a len z) :
    Calls Try.prog 14 #[.slice a len cap] w fun e w' => e = .returned (.tuple #[.int .i64 (mostK z len), .bool (decide ((0 : Int) < len))]) ∧ Below w.heap.size w w' := by
  by_cases h : len = 0
  · subst h; exact most_zero a cap w
  · obtain ⟨b, off, rfl, _, _⟩ := hN 0 (by omega)
    refine most_any b off cap len z w hlen fun k hk => ?_
    obtain ⟨b', off', e, _, hc⟩ := hN k hk
    cases e
    simpa using hc
theorem most64_row (a : Option Addr) (len cap : Nat) (z : List Int) (w : World) (hlen : len ≤ 1000) (hN : Nums w a len z) :
    Calls Try.prog 15 #[.slice a len cap] w fun e w' => e = .returned (.tuple #[.int .i64 (mostK z len), .bool (decide ((0 : Int) < len))]) ∧ Below w.heap.size w w' := by
  by_cases h : len = 0
  · subst h; exact most64_zero a cap w
  · obtain ⟨b, off, rfl, _, _⟩ := hN 0 (by omega)
    refine most64_any b off cap len z w hlen fun k hk => ?_
    obtain ⟨b', off', e, _, hc⟩ := hN k hk
    cases e
    simpa using hc

set_option maxRecDepth 100000 in
set_option maxHeartbeats 1000000 in
theorem numbers_out (hi g c l d : Int) (a0 a1 : Option Addr) (n0 c0 n1 c1 : Nat) (is : Bool) (w : World)
    (h : hi < 0 ∨ (0 ≤ hi ∧ 1048576 < hi) ∨ ((0 ≤ hi ∧ hi ≤ 1048576) ∧ g < 0) ∨ ((0 ≤ hi ∧ hi ≤ 1048576) ∧ 0 ≤ g ∧ 1048576 < g)
      ∨ ((0 ≤ hi ∧ hi ≤ 1048576) ∧ (0 ≤ g ∧ g ≤ 1048576) ∧ 200 < n0) ∨ ((0 ≤ hi ∧ hi ≤ 1048576) ∧ (0 ≤ g ∧ g ≤ 1048576) ∧ n0 ≤ 200 ∧ 200 < n1)) :
    Calls Try.prog 3 #[.int .i64 hi, .int .i64 g, .agg #[.int .i64 c, .int .i64 l, .int .i64 d], .slice a0 n0 c0, .slice a1 n1 c1, .bool is] w fun e w' => e = .returned (.bool true) ∧ Below w.heap.size w w' := by
  rcases h with h | ⟨h0, h⟩ | ⟨⟨h0, h1⟩, h⟩ | ⟨⟨h0, h1⟩, h2, h⟩ | ⟨⟨h0, h1⟩, ⟨h2, h3⟩, h⟩ | ⟨⟨h0, h1⟩, ⟨h2, h3⟩, h4, h⟩
  all_goals
    go_enter Try.func3, Try.ntmps3
    go_wp2_with (go_at_call 10; refine (known_any _).mono ?_; rintro e w1 ⟨rfl, hb1⟩)
    go_ret
    exact ⟨rfl, ((Below.refl _ _).alloc (Nat.le_refl _) _).trans (hb1.mono (by simp))⟩

end Go.Proofs.Ytccopcbemflemaa
