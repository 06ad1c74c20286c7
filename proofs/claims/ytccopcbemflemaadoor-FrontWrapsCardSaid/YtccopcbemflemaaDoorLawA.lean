/-
  The laws FrontErrors, FrontWraps: where they end early.
-/
import Derived.Test.YtccopcbemflemaaDoorKnown
namespace Go.Proofs.YtccopcbemflemaaDoor
open Go Go.RowKit Go.Extern.Stop Go.Stop Go.Extern

set_option maxRecDepth 100000 in
set_option maxHeartbeats 2000000 in
theorem lawE_long (N : Int) (a : Option Addr) (n c : Nat) (f : Nat → ByteArray) (kind : Int) {W : World} (hg : W.cell? ⟨0, 0, none⟩ = some (.iface 63 (.agg #[.pointer (some ⟨1, 25, none⟩)]))) (hN : StrRow W a n f) (hbd : ∀ i, i < n → (f i).size ≤ 140737488355328) (hn : 50 < n) (hn2 : n ≤ 140737488355328) :
    Calls Tryd.prog 3 #[.int .i64 N, .slice a n c, .int .i64 kind] W fun e w' => e = .returned (.bool true) ∧ Below W.heap.size W w' := by
  have HB := lhid hbd
  clear hbd
  have hg0 : (⟨0, 0, none⟩ : Addr).block < W.heap.size := block_lt_of_cell' hg
  have HG := lhid hg
  have HN := lhid hN
  clear hg hN
  go_enter Tryd.func3, Tryd.ntmps3
  go_wp2_with (go_at_call 5; refine (known_any HG.out).mono ?_; rintro e w1 ⟨rfl, hb1⟩)
  go_loop [7, 8] (fun x i => ∃ (k : Nat) (T : Int), k ≤ n ∧ i = .int .i64 k ∧ x = .int .i64 T) (fun _ i => n - (intOf i).toNat)
  case atStart => exact ⟨0, 0, by omega, rfl, rfl⟩
  case round =>
    obtain ⟨k, T, hk, rfl, rfl⟩ := hrel
    by_cases hlt : k < n
    · obtain ⟨ab, ao, rfl, _, hcz⟩ := (HN.out.below hb1 (Nat.le_refl _)) k hlt
      have hsz := HB.out k hlt
      go_wp2
      go_round
      case rel => exact ⟨k + 1, _, by omega, by go_num, rfl⟩
      case measure => simp [intOf]; omega
    · obtain rfl : k = n := by omega
      go_wp2
      go_ret
      exact ⟨rfl, hb1⟩

set_option maxRecDepth 100000 in
set_option maxHeartbeats 2000000 in
theorem lawE_sum (N : Int) (a : Option Addr) (n c : Nat) (f : Nat → ByteArray) (kind : Int) {W : World} (hg : W.cell? ⟨0, 0, none⟩ = some (.iface 63 (.agg #[.pointer (some ⟨1, 25, none⟩)]))) (hN : StrRow W a n f) (hbd : ∀ i, i < n → (f i).size ≤ 140737488355328) (hn : n ≤ 50) (hs2 : 2000 < sumS f n) :
    Calls Tryd.prog 3 #[.int .i64 N, .slice a n c, .int .i64 kind] W fun e w' => e = .returned (.bool true) ∧ Below W.heap.size W w' := by
  have HB := lhid hbd
  clear hbd
  have hg0 : (⟨0, 0, none⟩ : Addr).block < W.heap.size := block_lt_of_cell' hg
  have HG := lhid hg
  have HN := lhid hN
  clear hg hN
  go_enter Tryd.func3, Tryd.ntmps3
  go_wp2_with (go_at_call 5; refine (known_any HG.out).mono ?_; rintro e w1 ⟨rfl, hb1⟩)
  go_loop [7, 8] (fun x i => ∃ k : Nat, k ≤ n ∧ i = .int .i64 k ∧ x = .int .i64 (sumS f k : Int)) (fun _ i => n - (intOf i).toNat)
  case atStart => exact ⟨0, by omega, rfl, rfl⟩
  case round =>
    obtain ⟨k, hk, rfl, rfl⟩ := hrel
    have hs := sumS_bd f 140737488355328 n HB.out k hk
    by_cases hlt : k < n
    · obtain ⟨ab, ao, rfl, _, hcz⟩ := (HN.out.below hb1 (Nat.le_refl _)) k hlt
      have hsz := HB.out k hlt
      go_wp2
      go_round
      case rel => exact ⟨k + 1, by omega, by go_num, by rw [sumS]; go_num⟩
      case measure => simp [intOf]; omega
    · obtain rfl : k = n := by omega
      go_wp2
      go_ret
      exact ⟨rfl, hb1⟩

set_option maxRecDepth 100000 in
set_option maxHeartbeats 2000000 in
theorem lawW_long (N : Int) (a : Option Addr) (n c : Nat) (f : Nat → ByteArray) {W : World} (hg : W.cell? ⟨0, 0, none⟩ = some (.iface 63 (.agg #[.pointer (some ⟨1, 25, none⟩)]))) (hN : StrRow W a n f) (hbd : ∀ i, i < n → (f i).size ≤ 140737488355328) (hn : 50 < n) (hn2 : n ≤ 140737488355328) :
    Calls Tryd.prog 4 #[.int .i64 N, .slice a n c] W fun e w' => e = .returned (.bool true) ∧ Below W.heap.size W w' := by
  have HB := lhid hbd
  clear hbd
  have hg0 : (⟨0, 0, none⟩ : Addr).block < W.heap.size := block_lt_of_cell' hg
  have HG := lhid hg
  have HN := lhid hN
  clear hg hN
  go_enter Tryd.func4, Tryd.ntmps4
  go_wp2_with (go_at_call 5; refine (known_any HG.out).mono ?_; rintro e w1 ⟨rfl, hb1⟩)
  go_loop [5, 6] (fun x i => ∃ (k : Nat) (T : Int), k ≤ n ∧ i = .int .i64 k ∧ x = .int .i64 T) (fun _ i => n - (intOf i).toNat)
  case atStart => exact ⟨0, 0, by omega, rfl, rfl⟩
  case round =>
    obtain ⟨k, T, hk, rfl, rfl⟩ := hrel
    by_cases hlt : k < n
    · obtain ⟨ab, ao, rfl, _, hcz⟩ := (HN.out.below hb1 (Nat.le_refl _)) k hlt
      have hsz := HB.out k hlt
      go_wp2
      go_round
      case rel => exact ⟨k + 1, _, by omega, by go_num, rfl⟩
      case measure => simp [intOf]; omega
    · obtain rfl : k = n := by omega
      go_wp2
      go_ret
      exact ⟨rfl, hb1⟩

set_option maxRecDepth 100000 in
set_option maxHeartbeats 2000000 in
theorem lawW_sum (N : Int) (a : Option Addr) (n c : Nat) (f : Nat → ByteArray) {W : World} (hg : W.cell? ⟨0, 0, none⟩ = some (.iface 63 (.agg #[.pointer (some ⟨1, 25, none⟩)]))) (hN : StrRow W a n f) (hbd : ∀ i, i < n → (f i).size ≤ 140737488355328) (hn : n ≤ 50) (hs2 : 2000 < sumS f n) :
    Calls Tryd.prog 4 #[.int .i64 N, .slice a n c] W fun e w' => e = .returned (.bool true) ∧ Below W.heap.size W w' := by
  have HB := lhid hbd
  clear hbd
  have hg0 : (⟨0, 0, none⟩ : Addr).block < W.heap.size := block_lt_of_cell' hg
  have HG := lhid hg
  have HN := lhid hN
  clear hg hN
  go_enter Tryd.func4, Tryd.ntmps4
  go_wp2_with (go_at_call 5; refine (known_any HG.out).mono ?_; rintro e w1 ⟨rfl, hb1⟩)
  go_loop [5, 6] (fun x i => ∃ k : Nat, k ≤ n ∧ i = .int .i64 k ∧ x = .int .i64 (sumS f k : Int)) (fun _ i => n - (intOf i).toNat)
  case atStart => exact ⟨0, by omega, rfl, rfl⟩
  case round =>
    obtain ⟨k, hk, rfl, rfl⟩ := hrel
    have hs := sumS_bd f 140737488355328 n HB.out k hk
    by_cases hlt : k < n
    · obtain ⟨ab, ao, rfl, _, hcz⟩ := (HN.out.below hb1 (Nat.le_refl _)) k hlt
      have hsz := HB.out k hlt
      go_wp2
      go_round
      case rel => exact ⟨k + 1, by omega, by go_num, by rw [sumS]; go_num⟩
      case measure => simp [intOf]; omega
    · obtain rfl : k = n := by omega
      go_wp2
      go_ret
      exact ⟨rfl, hb1⟩

end Go.Proofs.YtccopcbemflemaaDoor
