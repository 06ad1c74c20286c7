/-
  The law FrontErrors: the whole way.
-/
import Derived.Test.YtccopcbemflemaaDoorLawA
namespace Go.Proofs.YtccopcbemflemaaDoor
open Go Go.RowKit Go.Extern.Stop Go.Stop Go.Extern

theorem leafN {w : World} {inn E : Value} {f : Nat → ByteArray} {n : Nat} (h : Chain w inn E (sfx f n n)) (hz : n = 0) : E = inn := by
  subst hz
  exact h.nil
theorem sfx0 {f : Nat → ByteArray} {n : Nat} (hz : n = 0) : sfx f n n = [] := by subst hz; rfl
theorem saidN {w : World} {inn E : Value} {f : Nat → ByteArray} {n : Nat} (h : Chain w inn E (sfx f n n)) (hz : 0 < n) : ∃ b, E = .iface 59 (.pointer (some ⟨b, 0, none⟩)) := by
  obtain ⟨m, rfl⟩ : ∃ m, n = m + 1 := ⟨n - 1, by omega⟩
  exact Chain.said (s := f (m + 1 - 1 - m)) (l := sfx f (m + 1) m) h

set_option maxRecDepth 100000 in
set_option maxHeartbeats 1000000 in
theorem lawE_29said (N : Int) (hN1 : (N == -1) = false) (hN2 : (N != -1) = true) (a : Option Addr) (n c : Nat) (f : Nat → ByteArray) (kind : Int) (S C : Int) (hS : S = sortI N) (hC : C = codeI N) {W : World} (hg : W.cell? ⟨0, 0, none⟩ = some (.iface 63 (.agg #[.pointer (some ⟨1, 25, none⟩)]))) (hN : StrRow W a n f) (hbd : ∀ i, i < n → (f i).size ≤ 140737488355328) (hn : n ≤ 50) (hs2 : sumS f n ≤ 2000) (hz : 0 < n) :
    Calls Tryd.prog 3 #[.int .i64 N, .slice a n c, .int .i64 kind] W fun e w' => e = .returned (.bool true) ∧ Below W.heap.size W w' := by
  have HB := lhid hbd
  have HZ := lhid hz
  clear hbd hz
  have hg0 : (⟨0, 0, none⟩ : Addr).block < W.heap.size := block_lt_of_cell' hg
  have HG := lhid hg
  have HN := lhid hN
  clear hg hN
  go_enter Tryd.func3, Tryd.ntmps3
  go_wp2_with (go_at_call 5; refine (known_any HG.out).mono ?_; rintro e w1 ⟨rfl, hb1⟩)
  go_loop [7, 8] (fun x i => ∃ k : Nat, k ≤ n ∧ i = .int .i64 k ∧ x = .int .i64 (sumS f k : Int)) (fun _ i => n - (intOf i).toNat)
  case atStart => exact ⟨0, by omega, rfl, rfl⟩
  case round =>
    obtain ⟨k, hk, rfl, rfl⟩ := hrel
    have hs := sumS_bd f 140737488355328 n HB.out k hk
    by_cases hlt : k < n
    · obtain ⟨ab, ao, rfl, _, hcz⟩ := (HN.out.below hb1 (Nat.le_refl _)) k hlt
      have hsz := HB.out k hlt
      go_wp2
      go_round
      case rel => exact ⟨k + 1, by omega, by go_num, by rw [sumS]; go_num⟩
      case measure => simp [intOf]; omega
    · obtain rfl : n = k := by omega
      go_wp2_with fail
      refine (wrapped_pos N hN1 a n c (by omega) f (HN.out.below hb1 (Nat.le_refl _))).mono ?_
      rintro e w2 ⟨E1, rfl, hc, hb2⟩
      obtain ⟨b, rfl⟩ := saidN hc HZ.out
      go_wp2_with fail
      have HC := lhid hc
      have HB2 : Below W.heap.size W w2 := hb1.trans (hb2.mono hb1.size)
      clear hc hb2 hb1
      obtain ⟨I, hI⟩ : ∃ I : ByteArray, I = errI N := ⟨_, rfl⟩
      have hIsz : I.size ≤ 10 := by rw [hI]; exact errI_size N
      obtain ⟨T, hT⟩ : ∃ T, T = textOf (sfx f n n) (errI N) := ⟨_, rfl⟩
      have hTsz : T.size ≤ 2200 := by rw [hT, text_size_all, ← hI]; omega
      have hPI : pfx f n ++ I = T := by rw [hT, hI]; exact text_pfx_all f n _
      have hPsz := pfx_size f n
      obtain ⟨P, hP⟩ : ∃ P, P = pfx f n := ⟨_, rfl⟩
      rw [← hP] at hPI hPsz
      have kT : Hid (∀ X : World, Below w2.heap.size w2 X → Calls Tryd.prog 49 #[.pointer (some ⟨b, 0, none⟩)] X fun e w' => e = .returned (.string T) ∧ Below X.heap.size X w') := lhid (fun X hX => by rw [hT]; exact text_any29 N _ b X (HC.out.kept hX) (by rw [← hT]; omega))
      have HI := lhid hI
      clear hI
      clear hT
      have hs2' := HB2.size
      have k10 : Hid (∀ X : World, Below w2.heap.size w2 X → Calls Tryd.prog 10 #[.iface 59 (.pointer (some ⟨b, 0, none⟩))] X fun e w' => e = .returned (.int .i64 S) ∧ Below X.heap.size X w') := lhid (fun X hX => by rw [hS]; exact sort_any29 N (((HB2.trans (hX.mono hs2')).cell hg0).trans HG.out) _ _ (HC.out.kept hX))
      have k11 : Hid (∀ X : World, Calls Tryd.prog 11 #[.int .i64 N] X fun e w' => e = .returned (.int .i64 S) ∧ w' = X) := lhid (fun X => by rw [hS]; exact refSort_any N X)
      have k12 : Hid (∀ X : World, Below w2.heap.size w2 X → Calls Tryd.prog 12 #[.iface 59 (.pointer (some ⟨b, 0, none⟩))] X fun e w' => e = .returned (.int .i64 C) ∧ Below X.heap.size X w') := lhid (fun X hX => by rw [hC]; exact code_any29 N (((HB2.trans (hX.mono hs2')).cell hg0).trans HG.out) _ _ (HC.out.kept hX))
      have k13 : Hid (∀ X : World, Calls Tryd.prog 13 #[.int .i64 N] X fun e w' => e = .returned (.int .i64 C) ∧ w' = X) := lhid (fun X => by rw [hC]; exact refCode_any N X)
      clear hS hC
      obtain ⟨nm, hnm⟩ : ∃ nm, nm = nameI kind := ⟨_, rfl⟩
      have HNM := lhid hnm
      refine (name_any kind _).mono ?_
      rintro e w3 ⟨rfl, hb3⟩
      have HB3 : Below W.heap.size W w3 := HB2.trans (hb3.mono HB2.size)
      rw [← hnm]
      clear hnm
      go_wp2_with fail
      refine (refName_any kind _).mono ?_
      rintro e w' ⟨rfl, rfl⟩
      rw [← HNM.out]
      go_wp2_with fail
      go_loop [11, 12] (fun x i => ∃ k : Nat, k ≤ n ∧ i = .int .i64 k ∧ x = .string (pfx f k)) (fun _ i => n - (intOf i).toNat)
      case atStart => exact ⟨0, by omega, rfl, rfl⟩
      case round =>
        obtain ⟨k, hk, rfl, rfl⟩ := hrel
        by_cases hlt : k < n
        · obtain ⟨ab, ao, rfl, _, hcz⟩ := (HN.out.below HB3 (Nat.le_refl _)) k hlt
          have hpk := pfx_size f k
          have hm := sumS_mono f (show k + 1 ≤ n from hlt)
          rw [sumS] at hm
          go_wp2
          go_round
          case rel => exact ⟨k + 1, by omega, by go_num, rfl⟩
          case measure => simp [intOf]; omega
        · obtain rfl : n = k := by omega
          rw [← hP]
          have HP := lhid hP
          clear hP
          have mX := d_mError59
          go_wp2_with fail
          refine (errno_any N _).mono ?_
          rintro e w' ⟨rfl, rfl⟩
          rw [← HI.out]
          go_wp2_with fail
          refine (kT.out _ hb3).mono ?_
          rintro e w4 ⟨rfl, hb4⟩
          have HC4 := hb3.trans (hb4.mono hb3.size)
          have HB4 := HB3.trans (hb4.mono HB3.size)
          clear hb4
          go_wp2_with fail
          refine (k10.out _ HC4).mono ?_
          rintro e w5 ⟨rfl, hb5⟩
          have HC5 := HC4.trans (hb5.mono HC4.size)
          have HB5 := HB4.trans (hb5.mono HB4.size)
          clear hb5
          go_wp2_with fail
          refine (k11.out _).mono ?_
          rintro e w' ⟨rfl, rfl⟩
          go_wp2_with fail
          refine (k12.out _ HC5).mono ?_
          rintro e w6 ⟨rfl, hb6⟩
          have HC6 := HC5.trans (hb6.mono HC5.size)
          have HB6 := HB5.trans (hb6.mono HB5.size)
          clear hb6
          go_wp2_with fail
          refine (k13.out _).mono ?_
          rintro e w9 ⟨rfl, hw9⟩
          rw [hw9]
          clear hw9
          go_wp2_with fail
          have HB6a : Below W.heap.size W (w6.alloc (.cells #[.int .i64 0] 29)) := HB6.alloc HB6.size _
          have HC6a : Below w2.heap.size w2 (w6.alloc (.cells #[.int .i64 0] 29)) := HC6.alloc HC6.size _
          refine (as_any29 N ⟨w6.heap.size, 0, none⟩ (.int .i64 0) ((HB6a.cell hg0).trans HG.out) (by simp) (by simp) _ _ (HC.out.kept HC6a)).mono ?_
          rintro e w8 ⟨w7, hb7, rfl, rfl⟩
          have ct : (w6.alloc (.cells #[.int .i64 0] 29)).cell? ⟨w6.heap.size, 0, none⟩ = some (.int .i64 0) := by simp
          have c7 := (hb7.cell (block_lt_of_cell' ct)).trans ct
          have hlt7 : w6.heap.size < w7.heap.size := block_lt_of_cell' c7
          have HB8 : Below W.heap.size W (w7.setCell ⟨w6.heap.size, 0, none⟩ (.int .i64 N)) := (HB6a.trans (hb7.mono HB6a.size)).setCell (p := ⟨w6.heap.size, 0, none⟩) HB6.size _
          have HC8 : Below w2.heap.size w2 (w7.setCell ⟨w6.heap.size, 0, none⟩ (.int .i64 N)) := (HC6a.trans (hb7.mono HC6a.size)).setCell (p := ⟨w6.heap.size, 0, none⟩) HC6.size _
          clear ct
          have kI := is_any29 N N _ _ (HC.out.kept HC8)
          simp only [beq_self_eq_true] at kI
          have KI := lhid kI
          clear kI
          go_wp2_with fail
          refine KI.out.mono ?_
          rintro e w9 ⟨rfl, rfl⟩
          go_wp2_with fail
          refine (wrap_nil _ _).mono ?_
          rintro e w' ⟨rfl, rfl⟩
          go_wp2_with fail
          refine (code_nil _).mono ?_
          rintro e w' ⟨rfl, rfl⟩
          go_wp2_with fail
          go_ret
          exact ⟨rfl, HB8⟩

set_option maxRecDepth 100000 in
set_option maxHeartbeats 1000000 in
theorem lawE_29leaf (N : Int) (hN1 : (N == -1) = false) (hN2 : (N != -1) = true) (a : Option Addr) (n c : Nat) (f : Nat → ByteArray) (kind : Int) (S C : Int) (hS : S = sortI N) (hC : C = codeI N) {W : World} (hg : W.cell? ⟨0, 0, none⟩ = some (.iface 63 (.agg #[.pointer (some ⟨1, 25, none⟩)]))) (hN : StrRow W a n f) (hbd : ∀ i, i < n → (f i).size ≤ 140737488355328) (hn : n ≤ 50) (hs2 : sumS f n ≤ 2000) (hz : n = 0) :
    Calls Tryd.prog 3 #[.int .i64 N, .slice a n c, .int .i64 kind] W fun e w' => e = .returned (.bool true) ∧ Below W.heap.size W w' := by
  have HB := lhid hbd
  have HZ := lhid hz
  clear hbd hz
  have hg0 : (⟨0, 0, none⟩ : Addr).block < W.heap.size := block_lt_of_cell' hg
  have HG := lhid hg
  have HN := lhid hN
  clear hg hN
  go_enter Tryd.func3, Tryd.ntmps3
  go_wp2_with (go_at_call 5; refine (known_any HG.out).mono ?_; rintro e w1 ⟨rfl, hb1⟩)
  go_loop [7, 8] (fun x i => ∃ k : Nat, k ≤ n ∧ i = .int .i64 k ∧ x = .int .i64 (sumS f k : Int)) (fun _ i => n - (intOf i).toNat)
  case atStart => exact ⟨0, by omega, rfl, rfl⟩
  case round =>
    obtain ⟨k, hk, rfl, rfl⟩ := hrel
    have hs := sumS_bd f 140737488355328 n HB.out k hk
    by_cases hlt : k < n
    · obtain ⟨ab, ao, rfl, _, hcz⟩ := (HN.out.below hb1 (Nat.le_refl _)) k hlt
      have hsz := HB.out k hlt
      go_wp2
      go_round
      case rel => exact ⟨k + 1, by omega, by go_num, by rw [sumS]; go_num⟩
      case measure => simp [intOf]; omega
    · obtain rfl : n = k := by omega
      go_wp2_with fail
      refine (wrapped_pos N hN1 a n c (by omega) f (HN.out.below hb1 (Nat.le_refl _))).mono ?_
      rintro e w2 ⟨E1, rfl, hc, hb2⟩
      obtain rfl : E1 = .iface 29 (.int .i64 N) := leafN hc HZ.out
      go_wp2_with fail
      have HC := lhid hc
      have HB2 : Below W.heap.size W w2 := hb1.trans (hb2.mono hb1.size)
      clear hc hb2 hb1
      obtain ⟨I, hI⟩ : ∃ I : ByteArray, I = errI N := ⟨_, rfl⟩
      have hIsz : I.size ≤ 10 := by rw [hI]; exact errI_size N
      obtain ⟨T, hT⟩ : ∃ T, T = textOf (sfx f n n) (errI N) := ⟨_, rfl⟩
      have hTsz : T.size ≤ 2200 := by rw [hT, text_size_all, ← hI]; omega
      have hPI : pfx f n ++ I = T := by rw [hT, hI]; exact text_pfx_all f n _
      have hPsz := pfx_size f n
      obtain ⟨P, hP⟩ : ∃ P, P = pfx f n := ⟨_, rfl⟩
      rw [← hP] at hPI hPsz
      have kT : Hid (∀ X : World, Below w2.heap.size w2 X → Calls Tryd.prog 9 #[.int .i64 N] X fun e w' => e = .returned (.string T) ∧ Below X.heap.size X w') := lhid (fun X hX => by rw [hT]; exact (errno_any N X).mono (fun e w' h => ⟨by rw [h.1, sfx0 HZ.out]; rfl, h.2 ▸ Below.refl _ _⟩))
      have HI := lhid hI
      clear hI
      clear hT
      have hs2' := HB2.size
      have k10 : Hid (∀ X : World, Below w2.heap.size w2 X → Calls Tryd.prog 10 #[.iface 29 (.int .i64 N)] X fun e w' => e = .returned (.int .i64 S) ∧ Below X.heap.size X w') := lhid (fun X hX => by rw [hS]; exact sort_any29 N (((HB2.trans (hX.mono hs2')).cell hg0).trans HG.out) _ _ (HC.out.kept hX))
      have k11 : Hid (∀ X : World, Calls Tryd.prog 11 #[.int .i64 N] X fun e w' => e = .returned (.int .i64 S) ∧ w' = X) := lhid (fun X => by rw [hS]; exact refSort_any N X)
      have k12 : Hid (∀ X : World, Below w2.heap.size w2 X → Calls Tryd.prog 12 #[.iface 29 (.int .i64 N)] X fun e w' => e = .returned (.int .i64 C) ∧ Below X.heap.size X w') := lhid (fun X hX => by rw [hC]; exact code_any29 N (((HB2.trans (hX.mono hs2')).cell hg0).trans HG.out) _ _ (HC.out.kept hX))
      have k13 : Hid (∀ X : World, Calls Tryd.prog 13 #[.int .i64 N] X fun e w' => e = .returned (.int .i64 C) ∧ w' = X) := lhid (fun X => by rw [hC]; exact refCode_any N X)
      clear hS hC
      obtain ⟨nm, hnm⟩ : ∃ nm, nm = nameI kind := ⟨_, rfl⟩
      have HNM := lhid hnm
      refine (name_any kind _).mono ?_
      rintro e w3 ⟨rfl, hb3⟩
      have HB3 : Below W.heap.size W w3 := HB2.trans (hb3.mono HB2.size)
      rw [← hnm]
      clear hnm
      go_wp2_with fail
      refine (refName_any kind _).mono ?_
      rintro e w' ⟨rfl, rfl⟩
      rw [← HNM.out]
      go_wp2_with fail
      go_loop [11, 12] (fun x i => ∃ k : Nat, k ≤ n ∧ i = .int .i64 k ∧ x = .string (pfx f k)) (fun _ i => n - (intOf i).toNat)
      case atStart => exact ⟨0, by omega, rfl, rfl⟩
      case round =>
        obtain ⟨k, hk, rfl, rfl⟩ := hrel
        by_cases hlt : k < n
        · obtain ⟨ab, ao, rfl, _, hcz⟩ := (HN.out.below HB3 (Nat.le_refl _)) k hlt
          have hpk := pfx_size f k
          have hm := sumS_mono f (show k + 1 ≤ n from hlt)
          rw [sumS] at hm
          go_wp2
          go_round
          case rel => exact ⟨k + 1, by omega, by go_num, rfl⟩
          case measure => simp [intOf]; omega
        · obtain rfl : n = k := by omega
          rw [← hP]
          have HP := lhid hP
          clear hP
          have mX := d_mError29
          go_wp2_with fail
          refine (errno_any N _).mono ?_
          rintro e w' ⟨rfl, rfl⟩
          rw [← HI.out]
          go_wp2_with fail
          refine (kT.out _ hb3).mono ?_
          rintro e w4 ⟨rfl, hb4⟩
          have HC4 := hb3.trans (hb4.mono hb3.size)
          have HB4 := HB3.trans (hb4.mono HB3.size)
          clear hb4
          go_wp2_with fail
          refine (k10.out _ HC4).mono ?_
          rintro e w5 ⟨rfl, hb5⟩
          have HC5 := HC4.trans (hb5.mono HC4.size)
          have HB5 := HB4.trans (hb5.mono HB4.size)
          clear hb5
          go_wp2_with fail
          refine (k11.out _).mono ?_
          rintro e w' ⟨rfl, rfl⟩
          go_wp2_with fail
          refine (k12.out _ HC5).mono ?_
          rintro e w6 ⟨rfl, hb6⟩
          have HC6 := HC5.trans (hb6.mono HC5.size)
          have HB6 := HB5.trans (hb6.mono HB5.size)
          clear hb6
          go_wp2_with fail
          refine (k13.out _).mono ?_
          rintro e w9 ⟨rfl, hw9⟩
          rw [hw9]
          clear hw9
          go_wp2_with fail
          have HB6a : Below W.heap.size W (w6.alloc (.cells #[.int .i64 0] 29)) := HB6.alloc HB6.size _
          have HC6a : Below w2.heap.size w2 (w6.alloc (.cells #[.int .i64 0] 29)) := HC6.alloc HC6.size _
          refine (as_any29 N ⟨w6.heap.size, 0, none⟩ (.int .i64 0) ((HB6a.cell hg0).trans HG.out) (by simp) (by simp) _ _ (HC.out.kept HC6a)).mono ?_
          rintro e w8 ⟨w7, hb7, rfl, rfl⟩
          have ct : (w6.alloc (.cells #[.int .i64 0] 29)).cell? ⟨w6.heap.size, 0, none⟩ = some (.int .i64 0) := by simp
          have c7 := (hb7.cell (block_lt_of_cell' ct)).trans ct
          have hlt7 : w6.heap.size < w7.heap.size := block_lt_of_cell' c7
          have HB8 : Below W.heap.size W (w7.setCell ⟨w6.heap.size, 0, none⟩ (.int .i64 N)) := (HB6a.trans (hb7.mono HB6a.size)).setCell (p := ⟨w6.heap.size, 0, none⟩) HB6.size _
          have HC8 : Below w2.heap.size w2 (w7.setCell ⟨w6.heap.size, 0, none⟩ (.int .i64 N)) := (HC6a.trans (hb7.mono HC6a.size)).setCell (p := ⟨w6.heap.size, 0, none⟩) HC6.size _
          clear ct
          have kI := is_any29 N N _ _ (HC.out.kept HC8)
          simp only [beq_self_eq_true] at kI
          have KI := lhid kI
          clear kI
          go_wp2_with fail
          refine KI.out.mono ?_
          rintro e w9 ⟨rfl, rfl⟩
          go_wp2_with fail
          refine (wrap_nil _ _).mono ?_
          rintro e w' ⟨rfl, rfl⟩
          go_wp2_with fail
          refine (code_nil _).mono ?_
          rintro e w' ⟨rfl, rfl⟩
          go_wp2_with fail
          go_ret
          exact ⟨rfl, HB8⟩

set_option maxRecDepth 100000 in
set_option maxHeartbeats 1000000 in
theorem lawE_41said (a : Option Addr) (n c : Nat) (f : Nat → ByteArray) (kind : Int) (S C : Int) (hS : S = 4) (hC : C = 500) {W : World} (hg : W.cell? ⟨0, 0, none⟩ = some (.iface 63 (.agg #[.pointer (some ⟨1, 25, none⟩)]))) (hN : StrRow W a n f) (hbd : ∀ i, i < n → (f i).size ≤ 140737488355328) (hn : n ≤ 50) (hs2 : sumS f n ≤ 2000) (hz : 0 < n) :
    Calls Tryd.prog 3 #[.int .i64 (-1), .slice a n c, .int .i64 kind] W fun e w' => e = .returned (.bool true) ∧ Below W.heap.size W w' := by
  have HB := lhid hbd
  have HZ := lhid hz
  clear hbd hz
  have hg0 : (⟨0, 0, none⟩ : Addr).block < W.heap.size := block_lt_of_cell' hg
  have HG := lhid hg
  have HN := lhid hN
  clear hg hN
  go_enter Tryd.func3, Tryd.ntmps3
  go_wp2_with (go_at_call 5; refine (known_any HG.out).mono ?_; rintro e w1 ⟨rfl, hb1⟩)
  go_loop [7, 8] (fun x i => ∃ k : Nat, k ≤ n ∧ i = .int .i64 k ∧ x = .int .i64 (sumS f k : Int)) (fun _ i => n - (intOf i).toNat)
  case atStart => exact ⟨0, by omega, rfl, rfl⟩
  case round =>
    obtain ⟨k, hk, rfl, rfl⟩ := hrel
    have hs := sumS_bd f 140737488355328 n HB.out k hk
    by_cases hlt : k < n
    · obtain ⟨ab, ao, rfl, _, hcz⟩ := (HN.out.below hb1 (Nat.le_refl _)) k hlt
      have hsz := HB.out k hlt
      go_wp2
      go_round
      case rel => exact ⟨k + 1, by omega, by go_num, by rw [sumS]; go_num⟩
      case measure => simp [intOf]; omega
    · obtain rfl : n = k := by omega
      go_wp2_with fail
      refine (wrapped_neg a n c (by omega) f (HN.out.below hb1 (Nat.le_refl _))).mono ?_
      rintro e w2 ⟨E1, rfl, hc, hb2⟩
      obtain ⟨b, rfl⟩ := saidN hc HZ.out
      go_wp2_with fail
      have HC := lhid hc
      have HB2 : Below W.heap.size W w2 := hb1.trans (hb2.mono hb1.size)
      clear hc hb2 hb1
      obtain ⟨I, hI⟩ : ∃ I : ByteArray, I = ⟨#[120]⟩ := ⟨_, rfl⟩
      have hIsz : I.size ≤ 10 := by rw [hI]; exact (by decide)
      obtain ⟨T, hT⟩ : ∃ T, T = textOf (sfx f n n) (⟨#[120]⟩) := ⟨_, rfl⟩
      have hTsz : T.size ≤ 2200 := by rw [hT, text_size_all, ← hI]; omega
      have hPI : pfx f n ++ I = T := by rw [hT, hI]; exact text_pfx_all f n _
      have hPsz := pfx_size f n
      obtain ⟨P, hP⟩ : ∃ P, P = pfx f n := ⟨_, rfl⟩
      rw [← hP] at hPI hPsz
      have kT : Hid (∀ X : World, Below w2.heap.size w2 X → Calls Tryd.prog 49 #[.pointer (some ⟨b, 0, none⟩)] X fun e w' => e = .returned (.string T) ∧ Below X.heap.size X w') := lhid (fun X hX => by rw [hT]; exact text_any41 _ _ b X (HC.out.kept hX) (by rw [← hT]; omega))
      subst hI
      clear hT
      have hs2' := HB2.size
      have k10 : Hid (∀ X : World, Below w2.heap.size w2 X → Calls Tryd.prog 10 #[.iface 59 (.pointer (some ⟨b, 0, none⟩))] X fun e w' => e = .returned (.int .i64 S) ∧ Below X.heap.size X w') := lhid (fun X hX => by rw [hS]; exact sort_any41 (.string ⟨#[120]⟩) (((HB2.trans (hX.mono hs2')).cell hg0).trans HG.out) _ _ (HC.out.kept hX))
      have k11 : Hid (∀ X : World, Calls Tryd.prog 11 #[.int .i64 (-1)] X fun e w' => e = .returned (.int .i64 S) ∧ w' = X) := lhid (fun X => by rw [hS]; exact refSort_any (-1) X)
      have k12 : Hid (∀ X : World, Below w2.heap.size w2 X → Calls Tryd.prog 12 #[.iface 59 (.pointer (some ⟨b, 0, none⟩))] X fun e w' => e = .returned (.int .i64 C) ∧ Below X.heap.size X w') := lhid (fun X hX => by rw [hC]; exact code_any41 (.string ⟨#[120]⟩) (((HB2.trans (hX.mono hs2')).cell hg0).trans HG.out) _ _ (HC.out.kept hX))
      have k13 : Hid (∀ X : World, Calls Tryd.prog 13 #[.int .i64 (-1)] X fun e w' => e = .returned (.int .i64 C) ∧ w' = X) := lhid (fun X => by rw [hC]; exact refCode_any (-1) X)
      clear hS hC
      obtain ⟨nm, hnm⟩ : ∃ nm, nm = nameI kind := ⟨_, rfl⟩
      have HNM := lhid hnm
      refine (name_any kind _).mono ?_
      rintro e w3 ⟨rfl, hb3⟩
      have HB3 : Below W.heap.size W w3 := HB2.trans (hb3.mono HB2.size)
      rw [← hnm]
      clear hnm
      go_wp2_with fail
      refine (refName_any kind _).mono ?_
      rintro e w' ⟨rfl, rfl⟩
      rw [← HNM.out]
      go_wp2_with fail
      go_loop [11, 12] (fun x i => ∃ k : Nat, k ≤ n ∧ i = .int .i64 k ∧ x = .string (pfx f k)) (fun _ i => n - (intOf i).toNat)
      case atStart => exact ⟨0, by omega, rfl, rfl⟩
      case round =>
        obtain ⟨k, hk, rfl, rfl⟩ := hrel
        by_cases hlt : k < n
        · obtain ⟨ab, ao, rfl, _, hcz⟩ := (HN.out.below HB3 (Nat.le_refl _)) k hlt
          have hpk := pfx_size f k
          have hm := sumS_mono f (show k + 1 ≤ n from hlt)
          rw [sumS] at hm
          go_wp2
          go_round
          case rel => exact ⟨k + 1, by omega, by go_num, rfl⟩
          case measure => simp [intOf]; omega
        · obtain rfl : n = k := by omega
          rw [← hP]
          have HP := lhid hP
          clear hP
          have mX := d_mError59
          go_wp2_with fail

          refine (kT.out _ hb3).mono ?_
          rintro e w4 ⟨rfl, hb4⟩
          have HC4 := hb3.trans (hb4.mono hb3.size)
          have HB4 := HB3.trans (hb4.mono HB3.size)
          clear hb4
          go_wp2_with fail
          refine (k10.out _ HC4).mono ?_
          rintro e w5 ⟨rfl, hb5⟩
          have HC5 := HC4.trans (hb5.mono HC4.size)
          have HB5 := HB4.trans (hb5.mono HB4.size)
          clear hb5
          go_wp2_with fail
          refine (k11.out _).mono ?_
          rintro e w' ⟨rfl, rfl⟩
          go_wp2_with fail
          refine (k12.out _ HC5).mono ?_
          rintro e w6 ⟨rfl, hb6⟩
          have HC6 := HC5.trans (hb6.mono HC5.size)
          have HB6 := HB5.trans (hb6.mono HB5.size)
          clear hb6
          go_wp2_with fail
          refine (k13.out _).mono ?_
          rintro e w9 ⟨rfl, hw9⟩
          rw [hw9]
          clear hw9
          go_wp2_with fail
          have HB6a : Below W.heap.size W (w6.alloc (.cells #[.int .i64 0] 29)) := HB6.alloc HB6.size _
          have HC6a : Below w2.heap.size w2 (w6.alloc (.cells #[.int .i64 0] 29)) := HC6.alloc HC6.size _
          refine (as_any41 (.string ⟨#[120]⟩) ⟨w6.heap.size, 0, none⟩ (.int .i64 0) ((HB6a.cell hg0).trans HG.out) (by simp) (by simp) _ _ (HC.out.kept HC6a)).mono ?_
          rintro e w8 ⟨rfl, hb8⟩
          have HB8 : Below W.heap.size W w8 := HB6a.trans (hb8.mono HB6a.size)
          go_wp2_with fail
          refine (wrap_nil _ _).mono ?_
          rintro e w' ⟨rfl, rfl⟩
          go_wp2_with fail
          refine (code_nil _).mono ?_
          rintro e w' ⟨rfl, rfl⟩
          go_wp2_with fail
          go_ret
          exact ⟨rfl, HB8⟩

set_option maxRecDepth 100000 in
set_option maxHeartbeats 1000000 in
theorem lawE_41leaf (a : Option Addr) (n c : Nat) (f : Nat → ByteArray) (kind : Int) (S C : Int) (hS : S = 4) (hC : C = 500) {W : World} (hg : W.cell? ⟨0, 0, none⟩ = some (.iface 63 (.agg #[.pointer (some ⟨1, 25, none⟩)]))) (hN : StrRow W a n f) (hbd : ∀ i, i < n → (f i).size ≤ 140737488355328) (hn : n ≤ 50) (hs2 : sumS f n ≤ 2000) (hz : n = 0) :
    Calls Tryd.prog 3 #[.int .i64 (-1), .slice a n c, .int .i64 kind] W fun e w' => e = .returned (.bool true) ∧ Below W.heap.size W w' := by
  have HB := lhid hbd
  have HZ := lhid hz
  clear hbd hz
  have hg0 : (⟨0, 0, none⟩ : Addr).block < W.heap.size := block_lt_of_cell' hg
  have HG := lhid hg
  have HN := lhid hN
  clear hg hN
  go_enter Tryd.func3, Tryd.ntmps3
  go_wp2_with (go_at_call 5; refine (known_any HG.out).mono ?_; rintro e w1 ⟨rfl, hb1⟩)
  go_loop [7, 8] (fun x i => ∃ k : Nat, k ≤ n ∧ i = .int .i64 k ∧ x = .int .i64 (sumS f k : Int)) (fun _ i => n - (intOf i).toNat)
  case atStart => exact ⟨0, by omega, rfl, rfl⟩
  case round =>
    obtain ⟨k, hk, rfl, rfl⟩ := hrel
    have hs := sumS_bd f 140737488355328 n HB.out k hk
    by_cases hlt : k < n
    · obtain ⟨ab, ao, rfl, _, hcz⟩ := (HN.out.below hb1 (Nat.le_refl _)) k hlt
      have hsz := HB.out k hlt
      go_wp2
      go_round
      case rel => exact ⟨k + 1, by omega, by go_num, by rw [sumS]; go_num⟩
      case measure => simp [intOf]; omega
    · obtain rfl : n = k := by omega
      go_wp2_with fail
      refine (wrapped_neg a n c (by omega) f (HN.out.below hb1 (Nat.le_refl _))).mono ?_
      rintro e w2 ⟨E1, rfl, hc, hb2⟩
      obtain rfl : E1 = .iface 41 (.string ⟨#[120]⟩) := leafN hc HZ.out
      go_wp2_with fail
      have HC := lhid hc
      have HB2 : Below W.heap.size W w2 := hb1.trans (hb2.mono hb1.size)
      clear hc hb2 hb1
      obtain ⟨I, hI⟩ : ∃ I : ByteArray, I = ⟨#[120]⟩ := ⟨_, rfl⟩
      have hIsz : I.size ≤ 10 := by rw [hI]; exact (by decide)
      obtain ⟨T, hT⟩ : ∃ T, T = textOf (sfx f n n) (⟨#[120]⟩) := ⟨_, rfl⟩
      have hTsz : T.size ≤ 2200 := by rw [hT, text_size_all, ← hI]; omega
      have hPI : pfx f n ++ I = T := by rw [hT, hI]; exact text_pfx_all f n _
      have hPsz := pfx_size f n
      obtain ⟨P, hP⟩ : ∃ P, P = pfx f n := ⟨_, rfl⟩
      rw [← hP] at hPI hPsz
      have kT : Hid (∀ X : World, Below w2.heap.size w2 X → Calls Tryd.prog 45 #[.string ⟨#[120]⟩] X fun e w' => e = .returned (.string T) ∧ Below X.heap.size X w') := lhid (fun X hX => by rw [hT]; exact (plain_any _ X).mono (fun e w' h => ⟨by rw [h.1, sfx0 HZ.out]; rfl, h.2 ▸ Below.refl _ _⟩))
      subst hI
      clear hT
      have hs2' := HB2.size
      have k10 : Hid (∀ X : World, Below w2.heap.size w2 X → Calls Tryd.prog 10 #[.iface 41 (.string ⟨#[120]⟩)] X fun e w' => e = .returned (.int .i64 S) ∧ Below X.heap.size X w') := lhid (fun X hX => by rw [hS]; exact sort_any41 (.string ⟨#[120]⟩) (((HB2.trans (hX.mono hs2')).cell hg0).trans HG.out) _ _ (HC.out.kept hX))
      have k11 : Hid (∀ X : World, Calls Tryd.prog 11 #[.int .i64 (-1)] X fun e w' => e = .returned (.int .i64 S) ∧ w' = X) := lhid (fun X => by rw [hS]; exact refSort_any (-1) X)
      have k12 : Hid (∀ X : World, Below w2.heap.size w2 X → Calls Tryd.prog 12 #[.iface 41 (.string ⟨#[120]⟩)] X fun e w' => e = .returned (.int .i64 C) ∧ Below X.heap.size X w') := lhid (fun X hX => by rw [hC]; exact code_any41 (.string ⟨#[120]⟩) (((HB2.trans (hX.mono hs2')).cell hg0).trans HG.out) _ _ (HC.out.kept hX))
      have k13 : Hid (∀ X : World, Calls Tryd.prog 13 #[.int .i64 (-1)] X fun e w' => e = .returned (.int .i64 C) ∧ w' = X) := lhid (fun X => by rw [hC]; exact refCode_any (-1) X)
      clear hS hC
      obtain ⟨nm, hnm⟩ : ∃ nm, nm = nameI kind := ⟨_, rfl⟩
      have HNM := lhid hnm
      refine (name_any kind _).mono ?_
      rintro e w3 ⟨rfl, hb3⟩
      have HB3 : Below W.heap.size W w3 := HB2.trans (hb3.mono HB2.size)
      rw [← hnm]
      clear hnm
      go_wp2_with fail
      refine (refName_any kind _).mono ?_
      rintro e w' ⟨rfl, rfl⟩
      rw [← HNM.out]
      go_wp2_with fail
      go_loop [11, 12] (fun x i => ∃ k : Nat, k ≤ n ∧ i = .int .i64 k ∧ x = .string (pfx f k)) (fun _ i => n - (intOf i).toNat)
      case atStart => exact ⟨0, by omega, rfl, rfl⟩
      case round =>
        obtain ⟨k, hk, rfl, rfl⟩ := hrel
        by_cases hlt : k < n
        · obtain ⟨ab, ao, rfl, _, hcz⟩ := (HN.out.below HB3 (Nat.le_refl _)) k hlt
          have hpk := pfx_size f k
          have hm := sumS_mono f (show k + 1 ≤ n from hlt)
          rw [sumS] at hm
          go_wp2
          go_round
          case rel => exact ⟨k + 1, by omega, by go_num, rfl⟩
          case measure => simp [intOf]; omega
        · obtain rfl : n = k := by omega
          rw [← hP]
          have HP := lhid hP
          clear hP
          have mX := d_mError41
          go_wp2_with fail

          refine (kT.out _ hb3).mono ?_
          rintro e w4 ⟨rfl, hb4⟩
          have HC4 := hb3.trans (hb4.mono hb3.size)
          have HB4 := HB3.trans (hb4.mono HB3.size)
          clear hb4
          go_wp2_with fail
          refine (k10.out _ HC4).mono ?_
          rintro e w5 ⟨rfl, hb5⟩
          have HC5 := HC4.trans (hb5.mono HC4.size)
          have HB5 := HB4.trans (hb5.mono HB4.size)
          clear hb5
          go_wp2_with fail
          refine (k11.out _).mono ?_
          rintro e w' ⟨rfl, rfl⟩
          go_wp2_with fail
          refine (k12.out _ HC5).mono ?_
          rintro e w6 ⟨rfl, hb6⟩
          have HC6 := HC5.trans (hb6.mono HC5.size)
          have HB6 := HB5.trans (hb6.mono HB5.size)
          clear hb6
          go_wp2_with fail
          refine (k13.out _).mono ?_
          rintro e w9 ⟨rfl, hw9⟩
          rw [hw9]
          clear hw9
          go_wp2_with fail
          have HB6a : Below W.heap.size W (w6.alloc (.cells #[.int .i64 0] 29)) := HB6.alloc HB6.size _
          have HC6a : Below w2.heap.size w2 (w6.alloc (.cells #[.int .i64 0] 29)) := HC6.alloc HC6.size _
          refine (as_any41 (.string ⟨#[120]⟩) ⟨w6.heap.size, 0, none⟩ (.int .i64 0) ((HB6a.cell hg0).trans HG.out) (by simp) (by simp) _ _ (HC.out.kept HC6a)).mono ?_
          rintro e w8 ⟨rfl, hb8⟩
          have HB8 : Below W.heap.size W w8 := HB6a.trans (hb8.mono HB6a.size)
          go_wp2_with fail
          refine (wrap_nil _ _).mono ?_
          rintro e w' ⟨rfl, rfl⟩
          go_wp2_with fail
          refine (code_nil _).mono ?_
          rintro e w' ⟨rfl, rfl⟩
          go_wp2_with fail
          go_ret
          exact ⟨rfl, HB8⟩

end Go.Proofs.YtccopcbemflemaaDoor
