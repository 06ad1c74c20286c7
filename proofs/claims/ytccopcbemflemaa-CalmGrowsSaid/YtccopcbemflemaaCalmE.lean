/-
  The walk of the law CalmGrows.
-/
import Derived.Test.YtccopcbemflemaaCalmD
namespace Go.Proofs.Ytccopcbemflemaa
open Go Go.RowKit

set_option maxHeartbeats 1000000 in
theorem grows_out (hi more g c l d by_ : Int) (w : World)
    (h : hi < 0 ∨ (0 ≤ hi ∧ 1048576 < hi) ∨ ((0 ≤ hi ∧ hi ≤ 1048576) ∧ more < 0) ∨ ((0 ≤ hi ∧ hi ≤ 1048576) ∧ 0 ≤ more ∧ 1048576 < more)
      ∨ ((0 ≤ hi ∧ hi ≤ 1048576) ∧ (0 ≤ more ∧ more ≤ 1048576) ∧ g < 0) ∨ ((0 ≤ hi ∧ hi ≤ 1048576) ∧ (0 ≤ more ∧ more ≤ 1048576) ∧ 0 ≤ g ∧ 1048576 < g)
      ∨ ((0 ≤ hi ∧ hi ≤ 1048576) ∧ (0 ≤ more ∧ more ≤ 1048576) ∧ (0 ≤ g ∧ g ≤ 1048576) ∧ by_ < 0)
      ∨ ((0 ≤ hi ∧ hi ≤ 1048576) ∧ (0 ≤ more ∧ more ≤ 1048576) ∧ (0 ≤ g ∧ g ≤ 1048576) ∧ 0 ≤ by_ ∧ 1048576 < by_)
      ∨ ((0 ≤ hi ∧ hi ≤ 1048576) ∧ (0 ≤ more ∧ more ≤ 1048576) ∧ (0 ≤ g ∧ g ≤ 1048576) ∧ (0 ≤ by_ ∧ by_ ≤ 1048576) ∧ 1099511627776 < c)
      ∨ ((0 ≤ hi ∧ hi ≤ 1048576) ∧ (0 ≤ more ∧ more ≤ 1048576) ∧ (0 ≤ g ∧ g ≤ 1048576) ∧ (0 ≤ by_ ∧ by_ ≤ 1048576) ∧ c ≤ 1099511627776 ∧ 1099511627776 < l)
      ∨ ((0 ≤ hi ∧ hi ≤ 1048576) ∧ (0 ≤ more ∧ more ≤ 1048576) ∧ (0 ≤ g ∧ g ≤ 1048576) ∧ (0 ≤ by_ ∧ by_ ≤ 1048576) ∧ c ≤ 1099511627776 ∧ l ≤ 1099511627776 ∧ 1099511627776 < d)) :
    Calls Try.prog 4 #[.int .i64 hi, .int .i64 more, .int .i64 g, .agg #[.int .i64 c, .int .i64 l, .int .i64 d], .int .i64 by_] w fun e w' => e = .returned (.bool true) ∧ Below w.heap.size w w' := by
  rcases h with h | ⟨h0, h⟩ | ⟨⟨h0, h1⟩, h⟩ | ⟨⟨h0, h1⟩, h2, h⟩ | ⟨⟨h0, h1⟩, ⟨h2, h3⟩, h⟩ | ⟨⟨h0, h1⟩, ⟨h2, h3⟩, h4, h⟩ | ⟨⟨h0, h1⟩, ⟨h2, h3⟩, ⟨h4, h5⟩, h⟩ | ⟨⟨h0, h1⟩, ⟨h2, h3⟩, ⟨h4, h5⟩, h6, h⟩ | ⟨⟨h0, h1⟩, ⟨h2, h3⟩, ⟨h4, h5⟩, ⟨h6, h7⟩, h⟩ | ⟨⟨h0, h1⟩, ⟨h2, h3⟩, ⟨h4, h5⟩, ⟨h6, h7⟩, h8, h⟩ | ⟨⟨h0, h1⟩, ⟨h2, h3⟩, ⟨h4, h5⟩, ⟨h6, h7⟩, h8, h9, h⟩
  all_goals
    go_enter Try.func4, Try.ntmps4
    go_wp2_with (go_at_call 10; refine (known_any _).mono ?_; rintro e w1 ⟨rfl, hb1⟩; have hc := (bcell hb1).1)
    go_ret
    exact ⟨rfl, ((Below.refl _ _).alloc (Nat.le_refl _) _).trans (hb1.mono (by simp))⟩

end Go.Proofs.Ytccopcbemflemaa
