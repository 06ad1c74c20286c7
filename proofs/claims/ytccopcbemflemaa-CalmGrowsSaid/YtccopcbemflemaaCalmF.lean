/-
  The walk of the law CalmGrows, where the numbers are in range.
-/
import Derived.Test.YtccopcbemflemaaCalmE
namespace Go.Proofs.Ytccopcbemflemaa
open Go Go.RowKit




set_option maxHeartbeats 2000000 in
theorem grows_in (hi more g c l d by_ : Int) (w : World)
    (h0 : 0 ≤ hi) (h1 : hi ≤ 1048576) (h2 : 0 ≤ more) (h3 : more ≤ 1048576) (h4 : 0 ≤ g) (h5 : g ≤ 1048576) (h6 : 0 ≤ by_) (h7 : by_ ≤ 1048576) (h8 : c ≤ 1099511627776) (h9 : l ≤ 1099511627776) (h10 : d ≤ 1099511627776)
    (wc : -9223372036854775808 ≤ c) (wl : -9223372036854775808 ≤ l) :
    Calls Try.prog 4 #[.int .i64 hi, .int .i64 more, .int .i64 g, .agg #[.int .i64 c, .int .i64 l, .int .i64 d], .int .i64 by_] w fun e w' => e = .returned (.bool true) ∧ Below w.heap.size w w' := by
  go_enter Try.func4, Try.ntmps4
  go_wp2_with (first | (go_at_call 10; refine (known_any _).mono ?_; rintro e w1 ⟨rfl, hb1⟩; have hc := (bcell hb1).1; have hlt : w.heap.size < w1.heap.size := (by have := hb1.size; simp at this; omega)) | (go_at_call 12; fail))
  have HB1 : Below w.heap.size w w1 := ((Below.refl _ _).alloc (Nat.le_refl _) _).trans (hb1.mono (by simp))
  have e1 := cl_mono (show c ≤ c + by_ by omega)
  have e2 := cl_mono (show l ≤ l + more by omega)
  have e3 := cl_bd c
  have e4 := cl_bd l
  have e5 := cl_bd d
  have e6 := cl_bd (c + by_)
  have e7 := cl_bd (l + more)
  refine wp_named (fun w' => Below w1.heap.size w1 w' ∧ w1.heap.size + 1 + 1 < w'.heap.size ∧ w'.cell? ⟨w1.heap.size, 0, none⟩ = some (.int .i64 0) ∧ w'.cell? ⟨w1.heap.size, 1, none⟩ = some (.int .i64 0) ∧ w'.cell? ⟨w1.heap.size, 2, none⟩ = some (.int .i64 g) ∧ w'.cell? ⟨w1.heap.size, 3, none⟩ = some (.int .i64 0) ∧ w'.cell? ⟨w1.heap.size, 4, none⟩ = some (.int .i64 0) ∧ w'.cell? ⟨w1.heap.size, 5, none⟩ = some (.int .i64 hi) ∧ w'.cell? ⟨w1.heap.size, 6, none⟩ = some (.int .i64 0) ∧ w'.cell? ⟨w1.heap.size, 7, none⟩ = some (.int .i64 0) ∧ w'.cell? ⟨w1.heap.size, 8, none⟩ = some (.int .i64 0) ∧ w'.cell? ⟨w1.heap.size, 9, none⟩ = some (.int .u64 0) ∧ w'.cell? ⟨w1.heap.size + 1, 0, none⟩ = some (.int .i64 0) ∧ w'.cell? ⟨w1.heap.size + 1, 1, none⟩ = some (.int .i64 0) ∧ w'.cell? ⟨w1.heap.size + 1, 2, none⟩ = some (.int .i64 (g + by_)) ∧ w'.cell? ⟨w1.heap.size + 1, 3, none⟩ = some (.int .i64 0) ∧ w'.cell? ⟨w1.heap.size + 1, 4, none⟩ = some (.int .i64 0) ∧ w'.cell? ⟨w1.heap.size + 1, 5, none⟩ = some (.int .i64 (hi + more)) ∧ w'.cell? ⟨w1.heap.size + 1, 6, none⟩ = some (.int .i64 0) ∧ w'.cell? ⟨w1.heap.size + 1, 7, none⟩ = some (.int .i64 0) ∧ w'.cell? ⟨w1.heap.size + 1, 8, none⟩ = some (.int .i64 0) ∧ w'.cell? ⟨w1.heap.size + 1, 9, none⟩ = some (.int .u64 0) ∧ w'.cell? ⟨w.heap.size, 0, none⟩ = some (.int .i64 c) ∧ w'.cell? ⟨w.heap.size, 1, none⟩ = some (.int .i64 l) ∧ w'.cell? ⟨w.heap.size, 2, none⟩ = some (.int .i64 d) ∧ w'.cell? ⟨w1.heap.size + 1 + 1, 0, none⟩ = some (.int .i64 (c + by_)) ∧ w'.cell? ⟨w1.heap.size + 1 + 1, 1, none⟩ = some (.int .i64 (l + more)) ∧ w'.cell? ⟨w1.heap.size + 1 + 1, 2, none⟩ = some (.int .i64 d)) ?_ ?_
  · refine ⟨(((Below.refl _ _).alloc (Nat.le_refl _) _).alloc (by simp) _).alloc (by simp; omega) _, by simp, ?_⟩
    have q1 : w.heap.size < w1.heap.size + 1 := by omega
    have q2 : w.heap.size < w1.heap.size + 1 + 1 := by omega
    go_simp
  · rintro w2 ⟨hb2, hz2, a0, a1, a2, a3, a4, a5, a6, a7, a8, a9, b0, b1, b2, b3, b4, b5, b6, b7, b8, b9, l0, l1, l2, m0, m1, m2⟩
    have hlt2 : w.heap.size < w2.heap.size := by omega
    have hlt3 : w1.heap.size < w2.heap.size := by omega
    have hlt4 : w1.heap.size + 1 < w2.heap.size := by omega
    refine wp_region_fam w2.heap.size (by kernel_rfl) (by kernel_rfl) ?_
    have a0' := Fam.cell hlt3 a0
    have a1' := Fam.cell hlt3 a1
    have a2' := Fam.cell hlt3 a2
    have a3' := Fam.cell hlt3 a3
    have a4' := Fam.cell hlt3 a4
    have a5' := Fam.cell hlt3 a5
    have a6' := Fam.cell hlt3 a6
    have a7' := Fam.cell hlt3 a7
    have a8' := Fam.cell hlt3 a8
    have a9' := Fam.cell hlt3 a9
    have b0' := Fam.cell hlt4 b0
    have b1' := Fam.cell hlt4 b1
    have b2' := Fam.cell hlt4 b2
    have b3' := Fam.cell hlt4 b3
    have b4' := Fam.cell hlt4 b4
    have b5' := Fam.cell hlt4 b5
    have b6' := Fam.cell hlt4 b6
    have b7' := Fam.cell hlt4 b7
    have b8' := Fam.cell hlt4 b8
    have b9' := Fam.cell hlt4 b9
    have l0' := Fam.cell hlt2 l0
    have l1' := Fam.cell hlt2 l1
    have l2' := Fam.cell hlt2 l2
    have m0' := Fam.cell hz2 m0
    have m1' := Fam.cell hz2 m1
    have m2' := Fam.cell hz2 m2
    clear a0 a1 a2 a3 a4 a5 a6 a7 a8 a9 b0 b1 b2 b3 b4 b5 b6 b7 b8 b9 l0 l1 l2 m0 m1 m2 hc
    clear h8 h9 h10 wc wl hb1 hlt hlt2 hlt3 hlt4 hz2
    obtain ⟨v1, hv1⟩ : ∃ v1 : Int, v1 = 20 * hi + 10 + 10 * g + 2 * (cl c + cl l + cl d) + 20 := ⟨_, rfl⟩
    obtain ⟨v2, hv2⟩ : ∃ v2 : Int, v2 = 20 * (hi + more) + 10 + 10 * (g + by_) + 2 * (cl (c + by_) + cl (l + more) + cl d) + 20 := ⟨_, rfl⟩
    obtain ⟨v3, hv3⟩ : ∃ v3 : Int, v3 = 20 * hi + 10 := ⟨_, rfl⟩
    obtain ⟨v4, hv4⟩ : ∃ v4 : Int, v4 = 20 * (hi + more) + 10 := ⟨_, rfl⟩
    have k1 : Hid (∀ W : World, Calls Try.prog 12 #[.agg #[.int .i64 0, .int .i64 0, .int .i64 g, .int .i64 0, .int .i64 0, .int .i64 hi, .int .i64 0, .int .i64 0, .int .i64 0, .int .u64 0], .agg #[.int .i64 c, .int .i64 l, .int .i64 d]] W fun e w' => e = .returned (.int .i64 v1) ∧ Below W.heap.size W w') := fun W => by rw [hv1]; exact bound_any _ _ _ _ _ _ _ _ _ _ _ _ _ _ (by omega) (by omega) (by omega) (by omega)
    have k2 : Hid (∀ W : World, Calls Try.prog 12 #[.agg #[.int .i64 0, .int .i64 0, .int .i64 (g + by_), .int .i64 0, .int .i64 0, .int .i64 (hi + more), .int .i64 0, .int .i64 0, .int .i64 0, .int .u64 0], .agg #[.int .i64 (c + by_), .int .i64 (l + more), .int .i64 d]] W fun e w' => e = .returned (.int .i64 v2) ∧ Below W.heap.size W w') := fun W => by rw [hv2]; exact bound_any _ _ _ _ _ _ _ _ _ _ _ _ _ _ (by omega) (by omega) (by omega) (by omega)
    have k3 : Hid (∀ W : World, Calls Try.prog 11 #[.agg #[.int .i64 0, .int .i64 0, .int .i64 g, .int .i64 0, .int .i64 0, .int .i64 hi, .int .i64 0, .int .i64 0, .int .i64 0, .int .u64 0]] W fun e w' => e = .returned (.int .i64 v3) ∧ Below W.heap.size W w') := fun W => by rw [hv3]; exact elect_any _ _ _ _ _ _ _ _ _ _ _ (by omega) (by omega)
    have k4 : Hid (∀ W : World, Calls Try.prog 11 #[.agg #[.int .i64 0, .int .i64 0, .int .i64 (g + by_), .int .i64 0, .int .i64 0, .int .i64 (hi + more), .int .i64 0, .int .i64 0, .int .i64 0, .int .u64 0]] W fun e w' => e = .returned (.int .i64 v4) ∧ Below W.heap.size W w') := fun W => by rw [hv4]; exact elect_any _ _ _ _ _ _ _ _ _ _ _ (by omega) (by omega)
    have d1 : decide (v1 ≤ v2) = true := by simp; omega
    have d2 : decide (v3 ≤ v1) = true := by simp; omega
    have d3 : decide (v3 ≤ v4) = true := by simp; omega
    have d4 : decide (10 ≤ v3) = true := by simp; omega
    clear hv1 hv2 hv3 hv4 e1 e2 e3 e4 e5 e6 e7
    repeat (go_big_quiet_step (first | (go_at_call 11; with_reducible exact Calls.fam (Nat.le_refl _) (k3.out _)) | (go_at_call 11; with_reducible exact Calls.fam (Nat.le_refl _) (k4.out _)) | (go_at_call 12; with_reducible exact Calls.fam (Nat.le_refl _) (k1.out _)) | (go_at_call 12; with_reducible exact Calls.fam (Nat.le_refl _) (k2.out _))))
    refine wpQuiet_nil ?_
    intro t
    have hb3 := t.below
    generalize t.at = w3 at *
    go_wp2
    go_ret
    exact ⟨rfl, (HB1.trans (hb2.mono HB1.size)).trans (hb3.mono (Nat.le_trans HB1.size hb2.size))⟩

end Go.Proofs.Ytccopcbemflemaa
