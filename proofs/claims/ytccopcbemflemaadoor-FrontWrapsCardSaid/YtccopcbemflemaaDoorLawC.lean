/-
  The law FrontWraps: the whole way.
-/
import Derived.Test.YtccopcbemflemaaDoorLawB
namespace Go.Proofs.YtccopcbemflemaaDoor
open Go Go.RowKit Go.Extern.Stop Go.Stop Go.Extern

set_option maxRecDepth 100000 in
set_option maxHeartbeats 1000000 in
theorem lawW_said (N : Int) (a : Option Addr) (n c : Nat) (f : Nat → ByteArray) {W : World} (hg : W.cell? ⟨0, 0, none⟩ = some (.iface 63 (.agg #[.pointer (some ⟨1, 25, none⟩)]))) (hN : StrRow W a n f) (hbd : ∀ i, i < n → (f i).size ≤ 140737488355328) (hn : n ≤ 50) (hs2 : sumS f n ≤ 2000) (hz : 0 < n) :
    Calls Tryd.prog 4 #[.int .i64 N, .slice a n c] W fun e w' => e = .returned (.bool true) ∧ Below W.heap.size W w' := by
  have HB := lhid hbd
  have HZ := lhid hz
  clear hbd hz
  have hg0 : (⟨0, 0, none⟩ : Addr).block < W.heap.size := block_lt_of_cell' hg
  have HG := lhid hg
  have HN := lhid hN
  clear hg hN
  go_enter Tryd.func4, Tryd.ntmps4
  go_wp2_with (go_at_call 5; refine (known_any HG.out).mono ?_; rintro e w1 ⟨rfl, hb1⟩)
  go_loop [5, 6] (fun x i => ∃ k : Nat, k ≤ n ∧ i = .int .i64 k ∧ x = .int .i64 (sumS f k : Int)) (fun _ i => n - (intOf i).toNat)
  case atStart => exact ⟨0, by omega, rfl, rfl⟩
  case round =>
    obtain ⟨k, hk, rfl, rfl⟩ := hrel
    have hs := sumS_bd f 140737488355328 n HB.out k hk
    by_cases hlt : k < n
    · obtain ⟨ab, ao, rfl, _, hcz⟩ := (HN.out.below hb1 (Nat.le_refl _)) k hlt
      have hsz := HB.out k hlt
      go_wp2
      go_round
      case rel => exact ⟨k + 1, by omega, by go_num, by rw [sumS]; go_num⟩
      case measure => simp [intOf]; omega
    · obtain rfl : n = k := by omega
      go_wp2_with fail
      refine (wrap_any (.iface 29 (.int .i64 N)) ⟨_, _, rfl⟩ _ [] a n c (by omega) f .leaf (HN.out.below hb1 (Nat.le_refl _))).mono ?_
      rintro e w2 ⟨E1, rfl, hc1, hb2⟩
      rw [List.append_nil] at hc1
      obtain ⟨b1, rfl⟩ := saidN hc1 HZ.out
      have HC1 := lhid hc1
      have HB2 : Below W.heap.size W w2 := hb1.trans (hb2.mono hb1.size)
      clear hc1 hb2 hb1
      go_wp2_with fail
      go_loopw [8, 9] (fun E' i wr => ∃ j : Nat, j ≤ n ∧ i = .int .i64 ((n : Int) - 1 - (j : Int)) ∧ Chain wr (.iface 29 (.int .i64 N)) E' (sfx f n j) ∧ Below w2.heap.size w2 wr) (fun _ i _ => (intOf i + 1).toNat)
      case atStart => exact ⟨0, by omega, by simp, .leaf, Below.refl _ _⟩
      case round =>
        obtain ⟨j, hj, rfl, hc, hR2⟩ := hrel
        have HBr : Below W.heap.size W wr := HB2.trans (hR2.mono HB2.size)
        by_cases hlt : j < n
        · obtain ⟨u1, v1, rfl⟩ := hc.iface ⟨_, _, rfl⟩
          obtain ⟨ab, ao, rfl, _, hcz⟩ := (HN.out.below HBr (Nat.le_refl _)) (n - 1 - j) (by omega)
          obtain ⟨k, hk⟩ : ∃ k : Nat, k = n - 1 - j := ⟨_, rfl⟩
          have hki : (n : Int) - 1 - (j : Int) = (k : Int) := by omega
          rw [← hk] at hcz
          rw [hki]
          have hkn : k < n := by omega
          have HC2 := lhid hc
          have HK := lhid hk
          clear hc hk
          go_wp2_with fail
          refine (wrap_any (.iface 29 (.int .i64 N)) ⟨_, _, rfl⟩ _ (sfx f n j) _ 1 1 (by omega) (fun _ => f k) (HC2.out.kept ((Below.refl _ _).alloc (Nat.le_refl _) _)) ?_).mono ?_
          · intro i hi
            obtain rfl : i = 0 := by omega
            exact ⟨_, _, rfl, by simp, by go_simp⟩
          rintro e w4 ⟨E4, rfl, hc4, hb4⟩
          have HC4 : Hid (Chain w4 (.iface 29 (.int .i64 N)) E4 (sfx f n (j + 1))) := lhid (by rw [show sfx f n (j + 1) = f k :: sfx f n j from by rw [sfx, ← HK.out]]; exact hc4)
          have HR4 : Below w2.heap.size w2 w4 := (hR2.alloc hR2.size _).trans (hb4.mono (by have := hR2.size; simp; omega))
          clear hc4 hb4
          go_wp2_with fail
          go_roundw
          case rel => exact ⟨j + 1, by omega, by rw [← hki]; simp; omega, HC4.out, HR4⟩
          case measure => simp [intOf]
        · obtain rfl : n = j := by omega
          obtain ⟨T, hT⟩ : ∃ T, T = textOf (sfx f n n) (errI N) := ⟨_, rfl⟩
          have kT : Hid (∀ (b : Nat) (X : World), Chain X (.iface 29 (.int .i64 N)) (.iface 59 (.pointer (some ⟨b, 0, none⟩))) (sfx f n n) → Calls Tryd.prog 49 #[.pointer (some ⟨b, 0, none⟩)] X fun e w' => e = .returned (.string T) ∧ Below X.heap.size X w') := lhid (fun b X hX => by rw [hT]; exact text_any29 N _ b X hX (by rw [text_size_all]; have := errI_size N; omega))
          clear hT
          have HE1 := lhid (HC1.out.kept hR2)
          obtain ⟨b2, rfl⟩ := saidN hc HZ.out
          have HE2 := lhid hc
          clear hc
          have hR := Below.refl wr.heap.size wr
          have hneg : (n : Int) - 1 - (n : Int) = -1 := by omega
          rw [hneg]
          have mX := d_mError59
          go_wp2_with fail
          refine (kT.out b1 _ (HE1.out.kept hR)).mono ?_
          rintro e x0 ⟨rfl, hx0⟩
          have Hx0 := hR.trans (hx0.mono hR.size)
          clear hx0
          go_wp2_with fail
          refine (kT.out b2 _ (HE2.out.kept Hx0)).mono ?_
          rintro e x1 ⟨rfl, hx1⟩
          have Hx1 := Hx0.trans (hx1.mono Hx0.size)
          clear hx1
          go_wp2_with fail
          refine (sort_any29 N (((HBr.trans (Hx1.mono HBr.size)).cell hg0).trans HG.out) _ _ (HE1.out.kept Hx1)).mono ?_
          rintro e x2 ⟨rfl, hx2⟩
          have Hx2 := Hx1.trans (hx2.mono Hx1.size)
          clear hx2
          go_wp2_with fail
          refine (sort_any29 N (((HBr.trans (Hx2.mono HBr.size)).cell hg0).trans HG.out) _ _ (HE2.out.kept Hx2)).mono ?_
          rintro e x3 ⟨rfl, hx3⟩
          have Hx3 := Hx2.trans (hx3.mono Hx2.size)
          clear hx3
          go_wp2_with fail
          refine (code_any29 N (((HBr.trans (Hx3.mono HBr.size)).cell hg0).trans HG.out) _ _ (HE1.out.kept Hx3)).mono ?_
          rintro e x4 ⟨rfl, hx4⟩
          have Hx4 := Hx3.trans (hx4.mono Hx3.size)
          clear hx4
          go_wp2_with fail
          refine (code_any29 N (((HBr.trans (Hx4.mono HBr.size)).cell hg0).trans HG.out) _ _ (HE2.out.kept Hx4)).mono ?_
          rintro e x5 ⟨rfl, hx5⟩
          have Hx5 := Hx4.trans (hx5.mono Hx4.size)
          clear hx5
          go_wp2_with fail
          refine (wrap_any (.iface 29 (.int .i64 N)) ⟨_, _, rfl⟩ _ (sfx f n n) none 0 0 (by omega) f (HE1.out.kept Hx5) (fun i hi => absurd hi (Nat.not_lt_zero i))).mono ?_
          rintro e y0 ⟨E3, rfl, hc3, hy0⟩
          have hc3' : Chain y0 (.iface 29 (.int .i64 N)) E3 (sfx f n n) := hc3
          clear hc3
          obtain ⟨b3, rfl⟩ := saidN hc3' HZ.out
          have HE3y := lhid hc3'
          have Hy0 := Hx5.trans (hy0.mono Hx5.size)
          clear hy0 hc3'
          go_wp2_with fail
          refine (kT.out b3 _ HE3y.out).mono ?_
          rintro e y1 ⟨rfl, hy1⟩
          have Hy1 := Hy0.trans (hy1.mono Hy0.size)
          go_wp2_with fail
          refine (kT.out b1 _ (HE1.out.kept Hy1)).mono ?_
          rintro e y2 ⟨rfl, hy2⟩
          have Hy2 := Hy1.trans (hy2.mono Hy1.size)
          have HE3y2 := lhid ((HE3y.out.kept hy1).kept hy2)
          clear hy1 hy2
          have kI3 := is_any29 N N _ _ HE3y2.out
          have kI2 := is_any29 N N _ _ (HE2.out.kept Hy2)
          simp only [beq_self_eq_true] at kI3 kI2
          have KI3 := lhid kI3
          have KI2 := lhid kI2
          clear kI3 kI2
          go_wp2_with fail
          refine KI3.out.mono ?_
          rintro e y3 ⟨rfl, hy3⟩
          rw [hy3]
          clear hy3
          go_wp2_with fail
          refine KI2.out.mono ?_
          rintro e y4 ⟨rfl, hy4⟩
          rw [hy4]
          clear hy4
          go_wp2_with fail
          go_ret
          exact ⟨rfl, HBr.trans (Hy2.mono HBr.size)⟩

set_option maxRecDepth 100000 in
set_option maxHeartbeats 1000000 in
theorem lawW_leaf (N : Int) (a : Option Addr) (n c : Nat) (f : Nat → ByteArray) {W : World} (hg : W.cell? ⟨0, 0, none⟩ = some (.iface 63 (.agg #[.pointer (some ⟨1, 25, none⟩)]))) (hN : StrRow W a n f) (hbd : ∀ i, i < n → (f i).size ≤ 140737488355328) (hn : n ≤ 50) (hs2 : sumS f n ≤ 2000) (hz : n = 0) :
    Calls Tryd.prog 4 #[.int .i64 N, .slice a n c] W fun e w' => e = .returned (.bool true) ∧ Below W.heap.size W w' := by
  have HB := lhid hbd
  have HZ := lhid hz
  clear hbd hz
  have hg0 : (⟨0, 0, none⟩ : Addr).block < W.heap.size := block_lt_of_cell' hg
  have HG := lhid hg
  have HN := lhid hN
  clear hg hN
  go_enter Tryd.func4, Tryd.ntmps4
  go_wp2_with (go_at_call 5; refine (known_any HG.out).mono ?_; rintro e w1 ⟨rfl, hb1⟩)
  go_loop [5, 6] (fun x i => ∃ k : Nat, k ≤ n ∧ i = .int .i64 k ∧ x = .int .i64 (sumS f k : Int)) (fun _ i => n - (intOf i).toNat)
  case atStart => exact ⟨0, by omega, rfl, rfl⟩
  case round =>
    obtain ⟨k, hk, rfl, rfl⟩ := hrel
    have hs := sumS_bd f 140737488355328 n HB.out k hk
    by_cases hlt : k < n
    · obtain ⟨ab, ao, rfl, _, hcz⟩ := (HN.out.below hb1 (Nat.le_refl _)) k hlt
      have hsz := HB.out k hlt
      go_wp2
      go_round
      case rel => exact ⟨k + 1, by omega, by go_num, by rw [sumS]; go_num⟩
      case measure => simp [intOf]; omega
    · obtain rfl : n = k := by omega
      go_wp2_with fail
      refine (wrap_any (.iface 29 (.int .i64 N)) ⟨_, _, rfl⟩ _ [] a n c (by omega) f .leaf (HN.out.below hb1 (Nat.le_refl _))).mono ?_
      rintro e w2 ⟨E1, rfl, hc1, hb2⟩
      rw [List.append_nil] at hc1
      obtain rfl : E1 = .iface 29 (.int .i64 N) := leafN hc1 HZ.out
      have HC1 := lhid hc1
      have HB2 : Below W.heap.size W w2 := hb1.trans (hb2.mono hb1.size)
      clear hc1 hb2 hb1
      go_wp2_with fail
      go_loopw [8, 9] (fun E' i wr => ∃ j : Nat, j ≤ n ∧ i = .int .i64 ((n : Int) - 1 - (j : Int)) ∧ Chain wr (.iface 29 (.int .i64 N)) E' (sfx f n j) ∧ Below w2.heap.size w2 wr) (fun _ i _ => (intOf i + 1).toNat)
      case atStart => exact ⟨0, by omega, by simp, .leaf, Below.refl _ _⟩
      case round =>
        obtain ⟨j, hj, rfl, hc, hR2⟩ := hrel
        have HBr : Below W.heap.size W wr := HB2.trans (hR2.mono HB2.size)
        by_cases hlt : j < n
        · obtain ⟨u1, v1, rfl⟩ := hc.iface ⟨_, _, rfl⟩
          obtain ⟨ab, ao, rfl, _, hcz⟩ := (HN.out.below HBr (Nat.le_refl _)) (n - 1 - j) (by omega)
          obtain ⟨k, hk⟩ : ∃ k : Nat, k = n - 1 - j := ⟨_, rfl⟩
          have hki : (n : Int) - 1 - (j : Int) = (k : Int) := by omega
          rw [← hk] at hcz
          rw [hki]
          have hkn : k < n := by omega
          have HC2 := lhid hc
          have HK := lhid hk
          clear hc hk
          go_wp2_with fail
          refine (wrap_any (.iface 29 (.int .i64 N)) ⟨_, _, rfl⟩ _ (sfx f n j) _ 1 1 (by omega) (fun _ => f k) (HC2.out.kept ((Below.refl _ _).alloc (Nat.le_refl _) _)) ?_).mono ?_
          · intro i hi
            obtain rfl : i = 0 := by omega
            exact ⟨_, _, rfl, by simp, by go_simp⟩
          rintro e w4 ⟨E4, rfl, hc4, hb4⟩
          have HC4 : Hid (Chain w4 (.iface 29 (.int .i64 N)) E4 (sfx f n (j + 1))) := lhid (by rw [show sfx f n (j + 1) = f k :: sfx f n j from by rw [sfx, ← HK.out]]; exact hc4)
          have HR4 : Below w2.heap.size w2 w4 := (hR2.alloc hR2.size _).trans (hb4.mono (by have := hR2.size; simp; omega))
          clear hc4 hb4
          go_wp2_with fail
          go_roundw
          case rel => exact ⟨j + 1, by omega, by rw [← hki]; simp; omega, HC4.out, HR4⟩
          case measure => simp [intOf]
        · obtain rfl : n = j := by omega
          obtain ⟨T, hT⟩ : ∃ T, T = textOf (sfx f n n) (errI N) := ⟨_, rfl⟩
          have kT : Hid (∀ X : World, Calls Tryd.prog 9 #[.int .i64 N] X fun e w' => e = .returned (.string T) ∧ Below X.heap.size X w') := lhid (fun X => by rw [hT]; exact (errno_any N X).mono (fun e w' h => ⟨by rw [h.1, sfx0 HZ.out]; rfl, h.2 ▸ Below.refl _ _⟩))
          clear hT
          have HE1 := lhid (HC1.out.kept hR2)
          obtain rfl : u8 = .iface 29 (.int .i64 N) := leafN hc HZ.out
          have HE2 := lhid hc
          clear hc
          have hR := Below.refl wr.heap.size wr
          have hneg : (n : Int) - 1 - (n : Int) = -1 := by omega
          rw [hneg]
          have mX := d_mError29
          go_wp2_with fail
          refine (kT.out _).mono ?_
          rintro e x0 ⟨rfl, hx0⟩
          have Hx0 := hR.trans (hx0.mono hR.size)
          clear hx0
          go_wp2_with fail
          refine (kT.out _).mono ?_
          rintro e x1 ⟨rfl, hx1⟩
          have Hx1 := Hx0.trans (hx1.mono Hx0.size)
          clear hx1
          go_wp2_with fail
          refine (sort_any29 N (((HBr.trans (Hx1.mono HBr.size)).cell hg0).trans HG.out) _ _ (HE1.out.kept Hx1)).mono ?_
          rintro e x2 ⟨rfl, hx2⟩
          have Hx2 := Hx1.trans (hx2.mono Hx1.size)
          clear hx2
          go_wp2_with fail
          refine (sort_any29 N (((HBr.trans (Hx2.mono HBr.size)).cell hg0).trans HG.out) _ _ (HE2.out.kept Hx2)).mono ?_
          rintro e x3 ⟨rfl, hx3⟩
          have Hx3 := Hx2.trans (hx3.mono Hx2.size)
          clear hx3
          go_wp2_with fail
          refine (code_any29 N (((HBr.trans (Hx3.mono HBr.size)).cell hg0).trans HG.out) _ _ (HE1.out.kept Hx3)).mono ?_
          rintro e x4 ⟨rfl, hx4⟩
          have Hx4 := Hx3.trans (hx4.mono Hx3.size)
          clear hx4
          go_wp2_with fail
          refine (code_any29 N (((HBr.trans (Hx4.mono HBr.size)).cell hg0).trans HG.out) _ _ (HE2.out.kept Hx4)).mono ?_
          rintro e x5 ⟨rfl, hx5⟩
          have Hx5 := Hx4.trans (hx5.mono Hx4.size)
          clear hx5
          go_wp2_with fail
          refine (wrap_any (.iface 29 (.int .i64 N)) ⟨_, _, rfl⟩ _ (sfx f n n) none 0 0 (by omega) f (HE1.out.kept Hx5) (fun i hi => absurd hi (Nat.not_lt_zero i))).mono ?_
          rintro e y0 ⟨E3, rfl, hc3, hy0⟩
          have hc3' : Chain y0 (.iface 29 (.int .i64 N)) E3 (sfx f n n) := hc3
          clear hc3
          obtain rfl : E3 = .iface 29 (.int .i64 N) := leafN hc3' HZ.out
          have HE3y := lhid hc3'
          have Hy0 := Hx5.trans (hy0.mono Hx5.size)
          clear hy0 hc3'
          go_wp2_with fail
          refine (kT.out _).mono ?_
          rintro e y1 ⟨rfl, hy1⟩
          have Hy1 := Hy0.trans (hy1.mono Hy0.size)
          go_wp2_with fail
          refine (kT.out _).mono ?_
          rintro e y2 ⟨rfl, hy2⟩
          have Hy2 := Hy1.trans (hy2.mono Hy1.size)
          have HE3y2 := lhid ((HE3y.out.kept hy1).kept hy2)
          clear hy1 hy2
          have kI3 := is_any29 N N _ _ HE3y2.out
          have kI2 := is_any29 N N _ _ (HE2.out.kept Hy2)
          simp only [beq_self_eq_true] at kI3 kI2
          have KI3 := lhid kI3
          have KI2 := lhid kI2
          clear kI3 kI2
          go_wp2_with fail
          refine KI3.out.mono ?_
          rintro e y3 ⟨rfl, hy3⟩
          rw [hy3]
          clear hy3
          go_wp2_with fail
          refine KI2.out.mono ?_
          rintro e y4 ⟨rfl, hy4⟩
          rw [hy4]
          clear hy4
          go_wp2_with fail
          go_ret
          exact ⟨rfl, HBr.trans (Hy2.mono HBr.size)⟩

end Go.Proofs.YtccopcbemflemaaDoor
