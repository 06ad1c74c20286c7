/-
  The walks of calm.Most over int64, and of the law's known.
-/
import Derived.Test.YtccopcbemflemaaCalmB
import Derived.Test.YtccopcbemflemaaCalmC
namespace Go.Proofs.Ytccopcbemflemaa
open Go Go.RowKit

set_option maxHeartbeats 400000 in
theorem most64_any (b off cap len : Nat) (z : List Int) (w : World) (hlen : len ≤ 1000) (hc : ∀ k, k < len → w.cell? ⟨b, off + k, none⟩ = some (.int .i64 (z.getD k 0))) :
    Calls Try.prog 15 #[.slice (some ⟨b, off, none⟩) len cap] w fun e w' => e = .returned (.tuple #[.int .i64 (mostK z len), .bool (decide ((0 : Int) < len))]) ∧ Below w.heap.size w w' := by
  go_enter Try.func15, Try.ntmps15
  go_wp2
  go_loop [4, 9] (fun n i => ∃ k : Nat, k ≤ len ∧ i = .int .i64 k ∧ n = .int .i64 (mostK z k)) (fun _ i => len - (intOf i).toNat)
  case atStart => exact ⟨0, by omega, rfl, rfl⟩
  case round =>
    obtain ⟨k, hk, rfl, rfl⟩ := hrel
    by_cases hlt : k < len
    · have hcell := hc k hlt
      go_wp2
      · rename_i h0
        subst h0
        go_round
        case rel => exact ⟨1, by omega, rfl, round_int (mostK_one z).symm⟩
        case measure => simp [intOf]; omega
      · have h1 : (((k : Int) == 0) = true) ∨ mostK z k < z[k]?.getD 0 := by assumption
        go_round
        case rel => exact ⟨k + 1, by omega, by go_num, round_int (mostK_up z k h1).symm⟩
        case measure => simp [intOf]; omega
      · have h1 : (((k : Int) == 0) = false) ∧ z[k]?.getD 0 ≤ mostK z k := by assumption
        go_round
        case rel => exact ⟨k + 1, by omega, by go_num, round_int (mostK_on z k h1).symm⟩
        case measure => simp [intOf]; omega
    · have : k = len := by omega
      subst this
      go_wp2
      go_ret2
      exact ⟨rfl, Below.refl _ _⟩

set_option maxHeartbeats 400000 in
theorem most64_nil (w : World) :
    Calls Try.prog 15 #[.slice none 0 0] w fun e w' => e = .returned (.tuple #[.int .i64 0, .bool false]) ∧ Below w.heap.size w w' := by
  go_enter Try.func15, Try.ntmps15
  go_wp2
  refine wp_loop_rounds 1 ?_
  rw [rounds_succ]
  go_wp2
  go_ret2
  exact ⟨rfl, Below.refl _ _⟩


theorem cl_mono {a b : Int} (h : a ≤ b) : cl a ≤ cl b := by unfold cl; split <;> split <;> (try split) <;> (try split) <;> omega
theorem cl_bd (a : Int) : 0 ≤ cl a ∧ cl a ≤ 1048576 := by unfold cl; split <;> (try split) <;> omega
theorem cl_two : cl 2 = 2 := by decide
theorem cl_zero : cl 0 = 0 := by decide
theorem most_394 : mostK [3, 9, 4] 3 = 9 := by decide

set_option maxHeartbeats 1000000 in
theorem known_any (w : World) :
    Calls Try.prog 10 #[] w fun e w' => e = .returned (.bool true) ∧ Below w.heap.size w w' := by
  go_enter Try.func10, Try.ntmps10
  go_wp2_with (go_at_call 36; refine (shape_any _).mono ?_; rintro e w1 ⟨rfl, hb1⟩)
  refine (most_any _ _ _ _ [3, 9, 4] _ (by omega) ?_).mono ?_
  · intro k hk
    rcases (show k = 0 ∨ k = 1 ∨ k = 2 by omega) with rfl | rfl | rfl <;> go_simp
  rintro e w2 ⟨rfl, hb2⟩
  rw [most_394]
  obtain ⟨hc, hf⟩ := bcell hb2
  have hz2 : w1.heap.size + 2 ≤ w2.heap.size := by have := hb2.size; simp at this; omega
  have hl2 : w1.heap.size < w2.heap.size := by omega
  have HB : Below w.heap.size w w2 := hb1.trans ((((Below.refl _ _).alloc hb1.size _).alloc (by simp; have := hb1.size; omega) _).trans (hb2.mono (by simp; have := hb1.size; omega)))
  go_wp2_with fail
  refine (elect_any 0 3 1 20 3 6 1 10 400 3 _ (by omega) (by omega)).mono ?_
  rintro e w3 ⟨rfl, hb3⟩
  obtain ⟨hc3, hf3⟩ := bcell hb3
  have hz3 := hb3.size
  go_wp2_with fail
  refine (bound_any 0 3 1 20 3 6 1 10 400 3 2 0 0 _ (by omega) (by omega) (by omega) (by omega)).mono ?_
  rintro e w4 ⟨rfl, hb4⟩
  rw [cl_two, cl_zero]
  have hz4 := hb4.size
  go_wp2_with fail
  refine (quiet_held _ _).mono ?_
  rintro e w5 ⟨rfl, hb5⟩
  have hz5 := hb5.size
  go_wp2_with fail
  refine (quiet_int _ _).mono ?_
  rintro e w6 ⟨rfl, hb6⟩
  go_wp2_with fail
  go_ret
  have hw := HB.size
  exact ⟨rfl, (((HB.trans (hb3.mono hw)).trans (hb4.mono (by omega))).trans (hb5.mono (by omega))).trans (hb6.mono (by omega))⟩

end Go.Proofs.Ytccopcbemflemaa
