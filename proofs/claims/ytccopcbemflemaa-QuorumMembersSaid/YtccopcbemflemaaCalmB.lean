/-
  The walk of calm.Bound.
-/
import Derived.Test.YtccopcbemflemaaCalmA
namespace Go.Proofs.Ytccopcbemflemaa
open Go Go.RowKit

def psum (c l d : Int) : Nat → Int
  | 0 => 0
  | 1 => cl c
  | 2 => cl c + cl l
  | _ => cl c + cl l + cl d

theorem psumLe (c l d : Int) (k : Nat) : 0 ≤ psum c l d k ∧ psum c l d k ≤ 3145728 := by
  unfold psum
  unfold cl
  split <;> omega

theorem cl_form (v : Int) : (if 1048576 < if v < 0 then 0 else v then 1048576 else if v < 0 then 0 else v) = cl v := by
  unfold cl
  split <;> (try split) <;> (try split) <;> omega

set_option maxHeartbeats 400000 in
theorem bound_any (x0 x1 g x3 x4 h x6 x7 x8 x9 c l d : Int) (w : World) (h0 : 0 ≤ h) (h1 : h ≤ 10000000) (g0 : 0 ≤ g) (g1 : g ≤ 10000000) :
    Calls Try.prog 12 #[.agg #[.int .i64 x0, .int .i64 x1, .int .i64 g, .int .i64 x3, .int .i64 x4, .int .i64 h, .int .i64 x6, .int .i64 x7, .int .i64 x8, .int .u64 x9], .agg #[.int .i64 c, .int .i64 l, .int .i64 d]] w fun e w' => e = .returned (.int .i64 (20 * h + 10 + 10 * g + 2 * (cl c + cl l + cl d) + 20)) ∧ Below w.heap.size w w' := by
  go_enter Try.func12, Try.ntmps12
  go_wp2
  go_loop [5, 16] (fun n i => ∃ k : Nat, k ≤ 3 ∧ i = .int .i64 k ∧ n = .int .i64 (psum c l d k)) (fun _ i => 3 - (intOf i).toNat)
  case atStart => exact ⟨0, by omega, rfl, rfl⟩
  case round =>
    obtain ⟨k, hk, rfl, rfl⟩ := hrel
    have hp := psumLe c l d k
    rcases (show k = 0 ∨ k = 1 ∨ k = 2 ∨ k = 3 by omega) with rfl | rfl | rfl | rfl
    · go_wp2
      go_round
      case rel => exact ⟨1, by omega, rfl, by rw [cl_form]; simp [psum]⟩
      case measure => simp [intOf]
    · go_wp2
      go_round
      case rel => exact ⟨2, by omega, rfl, by rw [cl_form]; simp [psum]⟩
      case measure => simp [intOf]
    · go_wp2
      go_round
      case rel => exact ⟨3, by omega, rfl, by rw [cl_form]; simp [psum]⟩
      case measure => simp [intOf]
    · go_wp2
      have e3 : psum c l d 3 = cl c + cl l + cl d := rfl
      rw [e3] at hp
      rw [e3]
      clear e3 hk
      generalize hs : cl c + cl l + cl d = s at *
      have Hs := lhid hs
      clear hs
      refine wp_named (fun w' => Below w.heap.size w w' ∧ w.heap.size < w'.heap.size ∧ w'.cell? ⟨w.heap.size, 0, none⟩ = some (.int .i64 x0) ∧ w'.cell? ⟨w.heap.size, 1, none⟩ = some (.int .i64 x1) ∧ w'.cell? ⟨w.heap.size, 2, none⟩ = some (.int .i64 g) ∧ w'.cell? ⟨w.heap.size, 3, none⟩ = some (.int .i64 x3) ∧ w'.cell? ⟨w.heap.size, 4, none⟩ = some (.int .i64 x4) ∧ w'.cell? ⟨w.heap.size, 5, none⟩ = some (.int .i64 h) ∧ w'.cell? ⟨w.heap.size, 6, none⟩ = some (.int .i64 x6) ∧ w'.cell? ⟨w.heap.size, 7, none⟩ = some (.int .i64 x7) ∧ w'.cell? ⟨w.heap.size, 8, none⟩ = some (.int .i64 x8) ∧ w'.cell? ⟨w.heap.size, 9, none⟩ = some (.int .u64 x9)) ?_ ?_
      · refine ⟨(((Below.refl _ _).alloc (Nat.le_refl _) _).alloc (by simp) _).alloc (by simp; omega) _, by simp; omega, ?_⟩
        go_simp
      · rintro w1 ⟨hb1, hz1, c0, c1, c2, c3, c4, c5, c6, c7, c8, c9⟩
        refine wp_region_fam w1.heap.size (by kernel_rfl) (by kernel_rfl) ?_
        have c0' := Fam.cell hz1 c0
        have c1' := Fam.cell hz1 c1
        have c2' := Fam.cell hz1 c2
        have c3' := Fam.cell hz1 c3
        have c4' := Fam.cell hz1 c4
        have c5' := Fam.cell hz1 c5
        have c6' := Fam.cell hz1 c6
        have c7' := Fam.cell hz1 c7
        have c8' := Fam.cell hz1 c8
        have c9' := Fam.cell hz1 c9
        clear c0 c1 c2 c3 c4 c5 c6 c7 c8 c9
        repeat (go_big_quiet_step ((go_at_call 11; exact Calls.fam (Nat.le_refl _) (elect_any _ _ _ _ _ _ _ _ _ _ _ (by omega) (by omega)))))
        refine wpQuiet_nil ?_
        intro t
        have hb2 := t.below
        generalize t.at = w2 at *
        clear c0' c1' c2' c3' c4' c5' c6' c7' c8' c9'
        go_wp2
        go_ret
        exact ⟨by rw [Hs.out]; rfl, hb1.trans (hb2.mono hb1.size)⟩

end Go.Proofs.Ytccopcbemflemaa
