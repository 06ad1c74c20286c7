/-
  The reference's Count, Most, Right, Votes.
-/
import Derived.Test.YtccopcbemflemaaQVotes
import Derived.Test.YtccopcbemflemaaQMeetsLaw
namespace Go.Proofs.Ytccopcbemflemaa
open Go Go.RowKit Go.Shelf

theorem index_m41 (m : Nat → Int) (k : Nat) (hk : k < 9) (w : World) : (Instr.index 41 (.agg #[.int .u8 (m 0), .int .u8 (m 1), .int .u8 (m 2), .int .u8 (m 3), .int .u8 (m 4), .int .u8 (m 5), .int .u8 (m 6), .int .u8 (m 7), .int .u8 (m 8)]) (.int .i64 k)).run Try.prog w = .ok (.int .u8 (m k)) w := by
  rcases (show k = 0 ∨ k = 1 ∨ k = 2 ∨ k = 3 ∨ k = 4 ∨ k = 5 ∨ k = 6 ∨ k = 7 ∨ k = 8 by omega) with rfl | rfl | rfl | rfl | rfl | rfl | rfl | rfl | rfl <;> kernel_rfl

set_option maxRecDepth 100000 in
set_option maxHeartbeats 1000000 in
theorem refCount_any (m : Nat → Int) (role : Int) (hm : ∀ k, k < 9 → 0 ≤ m k ∧ m k ≤ 255) (w : World) :
    Calls Try.prog 33 #[.agg #[.int .u8 (m 0), .int .u8 (m 1), .int .u8 (m 2), .int .u8 (m 3), .int .u8 (m 4), .int .u8 (m 5), .int .u8 (m 6), .int .u8 (m 7), .int .u8 (m 8)], .int .i64 role] w fun e w' => e = .returned (.int .i64 (cnt m role)) ∧ Below w.heap.size w w' := by
  have HM := lhid hm
  clear hm
  go_enter Try.func33, Try.ntmps33
  go_wp2
  refine wp_named (fun w' => ArrAt w' w.heap.size m ∧ Below w.heap.size w w') ⟨ArrAt.new w m 41 _ rfl, (Below.refl _ _).alloc (Nat.le_refl _) _⟩ ?_
  rintro w1 ⟨hA, HB⟩
  have HA := lhid hA
  clear hA
  go_loop [5, 6] (fun x i => ∃ k : Nat, k ≤ 9 ∧ i = .int .i64 k ∧ x = .int .i64 ((selK m role k).length : Int)) (fun _ i => 9 - (intOf i).toNat)
  case atStart => exact ⟨0, by omega, rfl, rfl⟩
  case round =>
    obtain ⟨k, hk, rfl, rfl⟩ := hrel
    have hsl := selK_length m role k
    by_cases hlt : k < 9
    · have hc := HA.out.1 k hlt
      have hmk0 := (HM.out k hlt).1
      have hmk1 := (HM.out k hlt).2
      by_cases hr : m k = role
      · have hb : (m k == role) = true := beq_iff_eq.2 hr
        have HR := lhid hr
        clear hr
        go_wp2
        go_round
        case rel => exact ⟨k + 1, by omega, by go_num, by rw [selK_yes m role k hlt HR.out]; simp⟩
        case measure => simp [intOf]; omega
      · have hb : (m k == role) = false := beq_eq_false_iff_ne.2 hr
        go_wp2
        go_round
        case rel => exact ⟨k + 1, by omega, by go_num, by rw [selK_no m role k hr]⟩
        case measure => simp [intOf]; omega
    · obtain rfl : k = 9 := by omega
      go_wp2
      go_ret
      exact ⟨rfl, HB⟩

set_option maxRecDepth 100000 in
set_option maxHeartbeats 1000000 in
theorem refMost_any (m : Nat → Int) (hm : ∀ k, k < 9 → 0 ≤ m k ∧ m k ≤ 255) (w : World) :
    Calls Try.prog 30 #[.agg #[.int .u8 (m 0), .int .u8 (m 1), .int .u8 (m 2), .int .u8 (m 3), .int .u8 (m 4), .int .u8 (m 5), .int .u8 (m 6), .int .u8 (m 7), .int .u8 (m 8)]] w fun e w' => e = .returned (.int .i64 (mst m)) ∧ Below w.heap.size w w' := by
  have HM := lhid hm
  clear hm
  obtain ⟨c, hc⟩ : ∃ c, c = cnt m 1 := ⟨_, rfl⟩
  have hb := cnt_bd m 1
  have hmst : mst m = c / 2 + 1 := by rw [hc]; rfl
  rw [← hc] at hb
  have HC := lhid hc
  have HD := lhid hmst
  clear hc hmst
  go_enter Try.func30, Try.ntmps30
  go_wp2_with (go_at_call 33; refine (refCount_any m 1 HM.out _).mono ?_; rintro e w1 ⟨rfl, hb1⟩; rw [← HC.out])
  go_ret
  exact ⟨by rw [HD.out]; rfl, ((Below.refl _ _).alloc (Nat.le_refl _) _).trans (hb1.mono (by simp))⟩

set_option maxRecDepth 100000 in
set_option maxHeartbeats 1000000 in
theorem refRight_any (m : Nat → Int) (hm : ∀ k, k < 9 → 0 ≤ m k ∧ m k ≤ 255) (w : World) :
    Calls Try.prog 27 #[.agg #[.int .u8 (m 0), .int .u8 (m 1), .int .u8 (m 2), .int .u8 (m 3), .int .u8 (m 4), .int .u8 (m 5), .int .u8 (m 6), .int .u8 (m 7), .int .u8 (m 8)]] w fun e w' => e = .returned (.bool (rightB m)) ∧ Below w.heap.size w w' := by
  have HM := lhid hm
  clear hm
  go_enter Try.func27, Try.ntmps27
  go_wp2
  refine wp_named (fun w' => ArrAt w' w.heap.size m ∧ Below w.heap.size w w') ⟨ArrAt.new w m 41 _ rfl, (Below.refl _ _).alloc (Nat.le_refl _) _⟩ ?_
  rintro w1 ⟨hA, HB⟩
  have HA := lhid hA
  clear hA
  go_loop [3] (fun i => ∃ k : Nat, k ≤ 9 ∧ i = .int .i64 k ∧ Hid (leK m k = true)) (fun i => 9 - (intOf i).toNat)
  case atStart => exact ⟨0, by omega, rfl, lhid rfl⟩
  case round =>
    obtain ⟨k, hk, rfl, HL⟩ := hrel
    by_cases hlt : k < 9
    · have hc := HA.out.1 k hlt
      have hmk0 := (HM.out k hlt).1
      have hmk1 := (HM.out k hlt).2
      by_cases h2 : m k ≤ 2
      · go_wp2
        go_round
        case rel => exact ⟨k + 1, by omega, by go_num, lhid (by rw [leK, HL.out]; simpa using h2)⟩
        case measure => simp [intOf]; omega
      · have h3 : 2 < m k := by omega
        clear h2
        go_wp2
        go_ret
        exact ⟨by rw [rightB, leK_no m k 9 hlt h3]; rfl, HB⟩
    · obtain rfl : k = 9 := by omega
      have c0 := HA.out.1 0 (by omega)
      have c1 := HA.out.1 1 (by omega)
      have c2 := HA.out.1 2 (by omega)
      have c3 := HA.out.1 3 (by omega)
      have c4 := HA.out.1 4 (by omega)
      have c5 := HA.out.1 5 (by omega)
      have c6 := HA.out.1 6 (by omega)
      have c7 := HA.out.1 7 (by omega)
      have c8 := HA.out.1 8 (by omega)
      go_wp2_with (go_at_call 33; refine (refCount_any m 1 HM.out _).mono ?_; rintro e w2 ⟨rfl, hb2⟩)
      go_ret
      exact ⟨by rw [rightB, HL.out]; rfl, HB.trans (hb2.mono HB.size)⟩

end Go.Proofs.Ytccopcbemflemaa
