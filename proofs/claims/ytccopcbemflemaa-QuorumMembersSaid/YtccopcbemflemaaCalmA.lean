/-
  The walks of calm.Elect, clamp.
-/
import Derived.Test.YtccopcbemflemaaRows
import Derived.Test.YtccopcbemflemaaFam
namespace Go.Proofs.Ytccopcbemflemaa
open Go Go.RowKit

def opts (x0 x1 g x3 x4 h x6 x7 x8 x9 : Int) : Value := .agg #[.int .i64 x0, .int .i64 x1, .int .i64 g, .int .i64 x3, .int .i64 x4, .int .i64 h, .int .i64 x6, .int .i64 x7, .int .i64 x8, .int .u64 x9]

set_option maxHeartbeats 400000 in
theorem elect_any (x0 x1 g x3 x4 h x6 x7 x8 x9 : Int) (w : World) (h0 : 0 ≤ h) (h1 : h ≤ 10000000) :
    Calls Try.prog 11 #[.agg #[.int .i64 x0, .int .i64 x1, .int .i64 g, .int .i64 x3, .int .i64 x4, .int .i64 h, .int .i64 x6, .int .i64 x7, .int .i64 x8, .int .u64 x9]] w fun e w' => e = .returned (.int .i64 (20 * h + 10)) ∧ Below w.heap.size w w' := by
  go_enter Try.func11, Try.ntmps11
  go_wp2
  go_ret
  exact ⟨rfl, (Below.refl _ _).alloc (Nat.le_refl _) _⟩

def cl (v : Int) : Int := if v < 0 then 0 else if 1048576 < v then 1048576 else v
theorem cl_lo {v : Int} (h : v < 0) : cl v = 0 := by unfold cl; omega
theorem cl_hi {v : Int} (h : 1048576 < v) : cl v = 1048576 := by unfold cl; omega
theorem cl_mid {v : Int} (h : 0 ≤ v) (h' : v ≤ 1048576) : cl v = v := by unfold cl; omega

set_option maxHeartbeats 400000 in
theorem clamp_any (v : Int) (w : World) :
    Calls Try.prog 13 #[.int .i64 v] w fun e w' => e = .returned (.int .i64 (cl v)) ∧ Below w.heap.size w w' := by
  rcases Int.lt_or_le v 0 with h | h
  · go_enter Try.func13, Try.ntmps13
    go_wp2
    go_ret
    exact ⟨by rw [cl_lo h]; rfl, Below.refl _ _⟩
  · rcases Int.lt_or_le 1048576 v with h' | h'
    · go_enter Try.func13, Try.ntmps13
      go_wp2
      go_ret
      exact ⟨by rw [cl_hi h']; rfl, Below.refl _ _⟩
    · go_enter Try.func13, Try.ntmps13
      go_wp2
      go_ret
      exact ⟨by rw [cl_mid h h']; rfl, Below.refl _ _⟩

end Go.Proofs.Ytccopcbemflemaa
