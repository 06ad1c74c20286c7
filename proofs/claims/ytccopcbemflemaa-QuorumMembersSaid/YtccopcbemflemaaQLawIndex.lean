/-
  The walk of the law QuorumIndex.
-/
import Derived.Test.YtccopcbemflemaaQIndexLaw
namespace Go.Proofs.Ytccopcbemflemaa
open Go Go.RowKit Go.Shelf

theorem rightB_cnt {m : Nat → Int} (h : rightB m = true) : 0 < cnt m 1 := by
  unfold rightB at h
  rw [Bool.and_eq_true, decide_eq_true_iff] at h
  exact h.2

set_option maxRecDepth 100000 in
set_option maxHeartbeats 1000000 in
theorem lawIndex_out (m : Nat → Int) (hm : ∀ k, k < 9 → 0 ≤ m k ∧ m k ≤ 255) (a : Option Addr) (n c : Nat) (w : World) (h : rightB m = false ∨ (rightB m = true ∧ 100 < n)) :
    Calls Try.prog 6 #[.agg #[.int .u8 (m 0), .int .u8 (m 1), .int .u8 (m 2), .int .u8 (m 3), .int .u8 (m 4), .int .u8 (m 5), .int .u8 (m 6), .int .u8 (m 7), .int .u8 (m 8)], .slice a n c] w fun e w' => e = .returned (.bool true) ∧ Below w.heap.size w w' := by
  have HM := lhid hm
  clear hm
  rcases h with h | ⟨h0, h⟩
  all_goals
    go_enter Try.func6, Try.ntmps6
    go_wp2_with (first | (go_at_call 17; refine (knownQ_any _).mono ?_; rintro e w1 ⟨rfl, hb1⟩; have hc := (bcell hb1).1; have hlt : w.heap.size < w1.heap.size := (by have := hb1.size; simp at this; omega)) | (go_at_call 20; refine (right_any m HM.out _).mono ?_; rintro e w2 ⟨rfl, hb2⟩))
    go_ret
    exact ⟨rfl, (((Below.refl _ _).alloc (Nat.le_refl _) _).trans (hb1.mono (by simp))).trans (hb2.mono (by omega))⟩

set_option maxRecDepth 100000 in
set_option maxHeartbeats 4000000 in
theorem lawIndex_in (m : Nat → Int) (hm : ∀ k, k < 9 → 0 ≤ m k ∧ m k ≤ 255) (a : Option Addr) (n c : Nat) (z : List Int) (w : World) (hN : Nums w a n z) (hr : rightB m = true) (hn : n ≤ 100) :
    Calls Try.prog 6 #[.agg #[.int .u8 (m 0), .int .u8 (m 1), .int .u8 (m 2), .int .u8 (m 3), .int .u8 (m 4), .int .u8 (m 5), .int .u8 (m 6), .int .u8 (m 7), .int .u8 (m 8)], .slice a n c] w fun e w' => e = .returned (.bool true) ∧ Below w.heap.size w w' := by
  have HM := lhid hm
  have HN := lhid hN
  have HL := lhid (index_law m z n (rightB_cnt hr))
  clear hm hN
  obtain ⟨I, hI⟩ : ∃ I, I = idxL m z n (selK m 1 9) := ⟨_, rfl⟩
  have kI : Hid (∀ X : World, Below w.heap.size w X → Calls Try.prog 21 #[.agg #[.int .u8 (m 0), .int .u8 (m 1), .int .u8 (m 2), .int .u8 (m 3), .int .u8 (m 4), .int .u8 (m 5), .int .u8 (m 6), .int .u8 (m 7), .int .u8 (m 8)], .slice a n c] X fun e w' => e = .returned (.int .i64 I) ∧ Below X.heap.size X w') := fun X hX => by rw [hI]; exact index_any m HM.out a n c z X (HN.out.below hX (Nat.le_refl _))
  rw [← hI] at HL
  clear hI
  go_enter Try.func6, Try.ntmps6
  go_wp2_with (first | (go_at_call 17; refine (knownQ_any _).mono ?_; rintro e w1 ⟨rfl, hb1⟩; have hc := (bcell hb1).1; have hlt : w.heap.size < w1.heap.size := (by have := hb1.size; simp at this; omega)) | (go_at_call 21; fail))
  have HB1 : Below w.heap.size w w1 := ((Below.refl _ _).alloc (Nat.le_refl _) _).trans (hb1.mono (by simp))
  have HA1 : Hid (ArrAt w1 w.heap.size m) := (ArrAt.new w m 42 _ rfl).below hb1 (by simp)
  clear hb1 hc
  have hlt1 := HB1.size
  refine (right_any m HM.out _).mono ?_
  rintro e w2 ⟨rfl, hb2⟩
  have HB2 := HB1.trans (hb2.mono hlt1)
  have hA2 := HA1.out.below hb2 hlt
  have c0 := hA2.1 0 (by omega)
  have c1 := hA2.1 1 (by omega)
  have c2 := hA2.1 2 (by omega)
  have c3 := hA2.1 3 (by omega)
  have c4 := hA2.1 4 (by omega)
  have c5 := hA2.1 5 (by omega)
  have c6 := hA2.1 6 (by omega)
  have c7 := hA2.1 7 (by omega)
  have c8 := hA2.1 8 (by omega)
  clear hb2 HB1 hlt hlt1 HA1
  have HA2 := lhid hA2
  clear hA2
  go_wp2_with fail
  refine (kI.out _ HB2).mono ?_
  rintro e w3 ⟨rfl, hb3⟩
  have HB3 := HB2.trans (hb3.mono HB2.size)
  have HA3 := lhid (HA2.out.below hb3 HA2.out.lt)
  clear hb3 HB2 HA2 c0 c1 c2 c3 c4 c5 c6 c7 c8
  go_wp2_with fail
  go_loop [6, 7, 8] (fun x y i => ∃ k : Nat, k ≤ 9 ∧ x = .int .i64 (atF m I (vOf z n) k) ∧ y = .int .i64 (moF m I (vOf z n) k) ∧ i = .int .i64 k) (fun _ _ i => 9 - (intOf i).toNat)
  case atStart => exact ⟨0, by omega, rfl, rfl, rfl⟩
  case round =>
    obtain ⟨k, hk, rfl, rfl, rfl⟩ := hrel
    have b1 := atF_le m I (vOf z n) k
    have b2 := moF_le m I (vOf z n) k
    by_cases hlt : k < 9
    · have hck := HA3.out.1 k hlt
      by_cases hkn : k < n
      · obtain ⟨ab, off, rfl, _, hcz⟩ := (HN.out.below HB3 (Nat.le_refl _)) k hkn
        by_cases hpos : 0 < z[k]?.getD 0
        · have HV := lhid (vOf_yes z n k hkn hpos)
          by_cases hr : m k = 1
          · have hb : (m k == 1) = true := beq_iff_eq.2 hr
            have HR := lhid hr
            clear hr
            by_cases ha : I ≤ z[k]?.getD 0
            · have HA := lhid ha
              by_cases hm : I < z[k]?.getD 0
              · have HB := lhid hm
                go_wp2
                go_round
                case rel => exact ⟨k + 1, by omega, by rw [atF_yes m I (vOf z n) k hlt HR.out (by rw [HV.out]; exact HA.out)]; go_num, by rw [moF_yes m I (vOf z n) k hlt HR.out (by rw [HV.out]; exact HB.out)]; go_num, by go_num⟩
                case measure => simp [intOf]; omega
              · have HB := lhid hm
                have hm' : z[k]?.getD 0 ≤ I := by omega
                clear hm
                go_wp2
                go_round
                case rel => exact ⟨k + 1, by omega, by rw [atF_yes m I (vOf z n) k hlt HR.out (by rw [HV.out]; exact HA.out)]; go_num, by rw [moF_no m I (vOf z n) k hlt HR.out (by rw [HV.out]; have := HB.out; omega)], by go_num⟩
                case measure => simp [intOf]; omega
            · have HA := lhid ha
              have ha' : z[k]?.getD 0 < I := by omega
              have HB : Hid (¬ I < z[k]?.getD 0) := by have := HA.out; show ¬ I < z[k]?.getD 0; omega
              clear ha
              go_wp2
              go_round
              case rel => exact ⟨k + 1, by omega, by rw [atF_no m I (vOf z n) k hlt HR.out (by rw [HV.out]; have := HA.out; omega)], by rw [moF_no m I (vOf z n) k hlt HR.out (by rw [HV.out]; have := HB.out; omega)], by go_num⟩
              case measure => simp [intOf]; omega
          · have hb : (m k == 1) = false := beq_eq_false_iff_ne.2 hr
            have HR := lhid hr
            clear hr
            go_wp2
            go_round
            case rel => exact ⟨k + 1, by omega, by rw [atF_other m I (vOf z n) k HR.out], by rw [moF_other m I (vOf z n) k HR.out], by go_num⟩
            case measure => simp [intOf]; omega
        · have HV := lhid (vOf_no z n k (fun h => hpos h.2))
          have hpos' : z[k]?.getD 0 ≤ 0 := by omega
          clear hpos
          by_cases hr : m k = 1
          · have hb : (m k == 1) = true := beq_iff_eq.2 hr
            have HR := lhid hr
            clear hr
            by_cases ha : I ≤ 0
            · have HA := lhid ha
              by_cases hm : I < 0
              · have HB := lhid hm
                go_wp2
                go_round
                case rel => exact ⟨k + 1, by omega, by rw [atF_yes m I (vOf z n) k hlt HR.out (by rw [HV.out]; exact HA.out)]; go_num, by rw [moF_yes m I (vOf z n) k hlt HR.out (by rw [HV.out]; exact HB.out)]; go_num, by go_num⟩
                case measure => simp [intOf]; omega
              · have HB := lhid hm
                have hm' : 0 ≤ I := by omega
                clear hm
                go_wp2
                go_round
                case rel => exact ⟨k + 1, by omega, by rw [atF_yes m I (vOf z n) k hlt HR.out (by rw [HV.out]; exact HA.out)]; go_num, by rw [moF_no m I (vOf z n) k hlt HR.out (by rw [HV.out]; have := HB.out; omega)], by go_num⟩
                case measure => simp [intOf]; omega
            · have HA := lhid ha
              have ha' : 0 < I := by omega
              have HB : Hid (¬ I < 0) := by have := HA.out; show ¬ I < 0; omega
              clear ha
              go_wp2
              go_round
              case rel => exact ⟨k + 1, by omega, by rw [atF_no m I (vOf z n) k hlt HR.out (by rw [HV.out]; have := HA.out; omega)], by rw [moF_no m I (vOf z n) k hlt HR.out (by rw [HV.out]; have := HB.out; omega)], by go_num⟩
              case measure => simp [intOf]; omega
          · have hb : (m k == 1) = false := beq_eq_false_iff_ne.2 hr
            have HR := lhid hr
            clear hr
            go_wp2
            go_round
            case rel => exact ⟨k + 1, by omega, by rw [atF_other m I (vOf z n) k HR.out], by rw [moF_other m I (vOf z n) k HR.out], by go_num⟩
            case measure => simp [intOf]; omega
      · have HV := lhid (vOf_no z n k (fun h => hkn h.1))
        have hkn' : n ≤ k := by omega
        clear hkn
        by_cases hr : m k = 1
        · have hb : (m k == 1) = true := beq_iff_eq.2 hr
          have HR := lhid hr
          clear hr
          by_cases ha : I ≤ 0
          · have HA := lhid ha
            by_cases hm : I < 0
            · have HB := lhid hm
              go_wp2
              go_round
              case rel => exact ⟨k + 1, by omega, by rw [atF_yes m I (vOf z n) k hlt HR.out (by rw [HV.out]; exact HA.out)]; go_num, by rw [moF_yes m I (vOf z n) k hlt HR.out (by rw [HV.out]; exact HB.out)]; go_num, by go_num⟩
              case measure => simp [intOf]; omega
            · have HB := lhid hm
              have hm' : 0 ≤ I := by omega
              clear hm
              go_wp2
              go_round
              case rel => exact ⟨k + 1, by omega, by rw [atF_yes m I (vOf z n) k hlt HR.out (by rw [HV.out]; exact HA.out)]; go_num, by rw [moF_no m I (vOf z n) k hlt HR.out (by rw [HV.out]; have := HB.out; omega)], by go_num⟩
              case measure => simp [intOf]; omega
          · have HA := lhid ha
            have ha' : 0 < I := by omega
            have HB : Hid (¬ I < 0) := by have := HA.out; show ¬ I < 0; omega
            clear ha
            go_wp2
            go_round
            case rel => exact ⟨k + 1, by omega, by rw [atF_no m I (vOf z n) k hlt HR.out (by rw [HV.out]; have := HA.out; omega)], by rw [moF_no m I (vOf z n) k hlt HR.out (by rw [HV.out]; have := HB.out; omega)], by go_num⟩
            case measure => simp [intOf]; omega
        · have hb : (m k == 1) = false := beq_eq_false_iff_ne.2 hr
          have HR := lhid hr
          clear hr
          go_wp2
          go_round
          case rel => exact ⟨k + 1, by omega, by rw [atF_other m I (vOf z n) k HR.out], by rw [moF_other m I (vOf z n) k HR.out], by go_num⟩
          case measure => simp [intOf]; omega
    · obtain rfl : k = 9 := by omega
      have c0 := HA3.out.1 0 (by omega)
      have c1 := HA3.out.1 1 (by omega)
      have c2 := HA3.out.1 2 (by omega)
      have c3 := HA3.out.1 3 (by omega)
      have c4 := HA3.out.1 4 (by omega)
      have c5 := HA3.out.1 5 (by omega)
      have c6 := HA3.out.1 6 (by omega)
      have c7 := HA3.out.1 7 (by omega)
      have c8 := HA3.out.1 8 (by omega)
      obtain ⟨A, hA⟩ : ∃ A : Nat, A = atF m I (vOf z n) 9 := ⟨_, rfl⟩
      obtain ⟨Mo, hMo⟩ : ∃ Mo : Nat, Mo = moF m I (vOf z n) 9 := ⟨_, rfl⟩
      obtain ⟨M, hM⟩ : ∃ M, M = mst m := ⟨_, rfl⟩
      have l1 := HL.out.1
      have l2 := HL.out.2.1
      have l3 := HL.out.2.2
      rw [← hA, ← hM] at l2
      rw [← hMo, ← hM] at l3
      rw [← hA, ← hMo]
      have kM : Hid (∀ X : World, Calls Try.prog 22 #[.agg #[.int .u8 (m 0), .int .u8 (m 1), .int .u8 (m 2), .int .u8 (m 3), .int .u8 (m 4), .int .u8 (m 5), .int .u8 (m 6), .int .u8 (m 7), .int .u8 (m 8)]] X fun e w' => e = .returned (.int .i64 M) ∧ Below X.heap.size X w') := fun X => by rw [hM]; exact most_of_any m HM.out X
      have hlb : w.heap.size < w3.heap.size := HA3.out.lt
      clear hA hMo hM b1 b2 hlt hk
      go_wp2_with fail
      refine (kM.out _).mono ?_
      rintro e w4 ⟨rfl, hb4⟩
      have hc4 := (bcell hb4).1
      have HB4 := HB3.trans (hb4.mono HB3.size)
      clear hb4
      go_wp2_with fail
      refine (kM.out _).mono ?_
      rintro e w5 ⟨rfl, hb5⟩
      go_wp2_with fail
      go_ret
      exact ⟨rfl, HB4.trans (hb5.mono HB4.size)⟩

theorem lawIndex_all (m : Nat → Int) (hm : ∀ k, k < 9 → 0 ≤ m k ∧ m k ≤ 255) (a : Option Addr) (n c : Nat) (z : List Int) (w : World) (hN : Nums w a n z) :
    Calls Try.prog 6 #[.agg #[.int .u8 (m 0), .int .u8 (m 1), .int .u8 (m 2), .int .u8 (m 3), .int .u8 (m 4), .int .u8 (m 5), .int .u8 (m 6), .int .u8 (m 7), .int .u8 (m 8)], .slice a n c] w fun e w' => e = .returned (.bool true) ∧ Below w.heap.size w w' := by
  cases hr : rightB m
  · exact lawIndex_out m hm a n c w (.inl hr)
  · by_cases h : 100 < n
    · exact lawIndex_out m hm a n c w (.inr ⟨hr, h⟩)
    · exact lawIndex_in m hm a n c z w hN hr (by omega)

end Go.Proofs.Ytccopcbemflemaa
