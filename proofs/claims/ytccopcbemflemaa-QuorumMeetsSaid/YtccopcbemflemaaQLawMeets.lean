/-
  The walk of the law QuorumMeets.
-/
import Derived.Test.YtccopcbemflemaaQMeetsLaw
namespace Go.Proofs.Ytccopcbemflemaa
open Go Go.RowKit Go.Shelf

set_option maxRecDepth 100000 in
set_option maxHeartbeats 1000000 in
theorem lawMeets_out (m : Nat → Int) (hm : ∀ k, k < 9 → 0 ≤ m k ∧ m k ≤ 255) (node role : Int) (a0 a1 : Option Addr) (n0 c0 n1 c1 : Nat) (w : World) (h : rightB m = false ∨ (rightB m = true ∧ ((n0 : Int) != 9) = true) ∨ (rightB m = true ∧ ((n0 : Int) != 9) = false ∧ ((n1 : Int) != 9) = true)) :
    Calls Try.prog 8 #[.agg #[.int .u8 (m 0), .int .u8 (m 1), .int .u8 (m 2), .int .u8 (m 3), .int .u8 (m 4), .int .u8 (m 5), .int .u8 (m 6), .int .u8 (m 7), .int .u8 (m 8)], .int .i64 node, .int .i64 role, .slice a0 n0 c0, .slice a1 n1 c1] w fun e w' => e = .returned (.bool true) ∧ Below w.heap.size w w' := by
  have HM := lhid hm
  clear hm
  rcases h with h | ⟨h0, h⟩ | ⟨h0, h1, h⟩
  all_goals
    go_enter Try.func8, Try.ntmps8
    go_wp2_with (first | (go_at_call 17; refine (knownQ_any _).mono ?_; rintro e w1 ⟨rfl, hb1⟩; have hc := (bcell hb1).1; have hlt : w.heap.size < w1.heap.size := (by have := hb1.size; simp at this; omega)) | (go_at_call 20; refine (right_any m HM.out _).mono ?_; rintro e w2 ⟨rfl, hb2⟩))
    go_ret
    exact ⟨rfl, (((Below.refl _ _).alloc (Nat.le_refl _) _).trans (hb1.mono (by simp))).trans (hb2.mono (by omega))⟩

set_option maxRecDepth 100000 in
set_option maxHeartbeats 4000000 in
theorem lawMeets_new (m g : Nat → Int) (E : Int) (hm : ∀ k, k < 9 → 0 ≤ m k ∧ m k ≤ 255) (node role : Int) (a0 a1 : Option Addr) (c0 c1 : Nat) (fa fb : Nat → Bool) (w : World) (hNA : Bools w a0 9 fa) (hNB : Bools w a1 9 fb) (hr : rightB m = true) (hE : E = 0)
    (hC : ∀ X : World, Calls Try.prog 24 #[.agg #[.int .u8 (m 0), .int .u8 (m 1), .int .u8 (m 2), .int .u8 (m 3), .int .u8 (m 4), .int .u8 (m 5), .int .u8 (m 6), .int .u8 (m 7), .int .u8 (m 8)], .int .i64 node, .int .i64 role] X fun e w' => e = .returned (.tuple #[.agg #[.int .u8 (g 0), .int .u8 (g 1), .int .u8 (g 2), .int .u8 (g 3), .int .u8 (g 4), .int .u8 (g 5), .int .u8 (g 6), .int .u8 (g 7), .int .u8 (g 8)], .int .i64 E]) ∧ Below X.heap.size X w')
    (hR : ∀ X : World, Calls Try.prog 20 #[.agg #[.int .u8 (g 0), .int .u8 (g 1), .int .u8 (g 2), .int .u8 (g 3), .int .u8 (g 4), .int .u8 (g 5), .int .u8 (g 6), .int .u8 (g 7), .int .u8 (g 8)]] X fun e w' => e = .returned (.bool true) ∧ Below X.heap.size X w')
    (WA LA WB LB : Bool)
    (hA : ∀ X : World, Bools X a0 9 fa → Calls Try.prog 23 #[.agg #[.int .u8 (m 0), .int .u8 (m 1), .int .u8 (m 2), .int .u8 (m 3), .int .u8 (m 4), .int .u8 (m 5), .int .u8 (m 6), .int .u8 (m 7), .int .u8 (m 8)], .slice a0 9 c0] X fun e w' => e = .returned (.tuple #[.bool WA, .bool LA]) ∧ Below X.heap.size X w')
    (hB : ∀ X : World, Bools X a1 9 fb → Calls Try.prog 23 #[.agg #[.int .u8 (g 0), .int .u8 (g 1), .int .u8 (g 2), .int .u8 (g 3), .int .u8 (g 4), .int .u8 (g 5), .int .u8 (g 6), .int .u8 (g 7), .int .u8 (g 8)], .slice a1 9 c1] X fun e w' => e = .returned (.tuple #[.bool WB, .bool LB]) ∧ Below X.heap.size X w')
    (hw : WA = false ∨ (WA = true ∧ WB = false) ∨ (WA = true ∧ WB = true ∧ ∃ j, j < 9 ∧ fa j = true ∧ fb j = true ∧ m j = 1 ∧ g j = 1)) :
    Calls Try.prog 8 #[.agg #[.int .u8 (m 0), .int .u8 (m 1), .int .u8 (m 2), .int .u8 (m 3), .int .u8 (m 4), .int .u8 (m 5), .int .u8 (m 6), .int .u8 (m 7), .int .u8 (m 8)], .int .i64 node, .int .i64 role, .slice a0 9 c0, .slice a1 9 c1] w fun e w' => e = .returned (.bool true) ∧ Below w.heap.size w w' := by
  have HM := lhid hm
  have HNA := lhid hNA
  have HNB := lhid hNB
  have kC := lhid hC
  have kR := lhid hR
  have kA := lhid hA
  have kB := lhid hB
  clear hm hNA hNB hC hR hA hB
  subst hE
  go_enter Try.func8, Try.ntmps8
  go_wp2_with (first | (go_at_call 17; refine (knownQ_any _).mono ?_; rintro e w1 ⟨rfl, hb1⟩; have hc := (bcell hb1).1; have hlt : w.heap.size < w1.heap.size := (by have := hb1.size; simp at this; omega)) | (go_at_call 24; fail))
  have HB1 : Below w.heap.size w w1 := ((Below.refl _ _).alloc (Nat.le_refl _) _).trans (hb1.mono (by simp))
  have HA1 : Hid (ArrAt w1 w.heap.size m) := (ArrAt.new w m 42 _ rfl).below hb1 (by simp)
  clear hb1 hc
  refine (right_any m HM.out _).mono ?_
  rintro e w2 ⟨rfl, hb2⟩
  have HB2 := HB1.trans (hb2.mono HB1.size)
  have HA2 := lhid (HA1.out.below hb2 HA1.out.lt)
  have c0 := HA2.out.1 0 (by omega)
  have c1 := HA2.out.1 1 (by omega)
  have c2 := HA2.out.1 2 (by omega)
  have c3 := HA2.out.1 3 (by omega)
  have c4 := HA2.out.1 4 (by omega)
  have c5 := HA2.out.1 5 (by omega)
  have c6 := HA2.out.1 6 (by omega)
  have c7 := HA2.out.1 7 (by omega)
  have c8 := HA2.out.1 8 (by omega)
  clear hb2 HB1 hlt HA1
  go_wp2_with fail
  refine (kC.out _).mono ?_
  rintro e w3 ⟨rfl, hb3⟩
  have HB3 := HB2.trans (hb3.mono HB2.size)
  have HA3 := lhid (HA2.out.below hb3 HA2.out.lt)
  clear hb3 HB2 HA2 c0 c1 c2 c3 c4 c5 c6 c7 c8
  have hs3 := HB3.size
  have hl3 : w.heap.size < w3.heap.size := HA3.out.lt
  have c0 := HA3.out.1 0 (by omega)
  have c1 := HA3.out.1 1 (by omega)
  have c2 := HA3.out.1 2 (by omega)
  have c3 := HA3.out.1 3 (by omega)
  have c4 := HA3.out.1 4 (by omega)
  have c5 := HA3.out.1 5 (by omega)
  have c6 := HA3.out.1 6 (by omega)
  have c7 := HA3.out.1 7 (by omega)
  have c8 := HA3.out.1 8 (by omega)
  go_wp2_with fail
  refine (kR.out _).mono ?_
  rintro e w4 ⟨rfl, hb4⟩
  have HX4 : Hid (ArrAt w4 w3.heap.size g) := lhid ((ArrAt.new w3 g 42 _ rfl).below hb4 (by simp))
  have HA4 : Hid (ArrAt w4 w.heap.size m) := lhid ((HA3.out.alloc _).below hb4 (by simp; omega))
  have HB4 : Below w.heap.size w w4 := (HB3.alloc hs3 _).trans (hb4.mono (by simp; omega))
  clear hb4 HA3 c0 c1 c2 c3 c4 c5 c6 c7 c8
  have hs4 := HB4.size
  have hx4 := HX4.out.lt
  have c0 := HA4.out.1 0 (by omega)
  have c1 := HA4.out.1 1 (by omega)
  have c2 := HA4.out.1 2 (by omega)
  have c3 := HA4.out.1 3 (by omega)
  have c4 := HA4.out.1 4 (by omega)
  have c5 := HA4.out.1 5 (by omega)
  have c6 := HA4.out.1 6 (by omega)
  have c7 := HA4.out.1 7 (by omega)
  have c8 := HA4.out.1 8 (by omega)
  go_wp2_with fail
  refine (kA.out _ (HNA.out.below HB4 (Nat.le_refl _))).mono ?_
  rintro e w5 ⟨rfl, hb5⟩
  have HX5 := lhid (HX4.out.below hb5 hx4)
  have HA5 := lhid (HA4.out.below hb5 HA4.out.lt)
  have HB5 := HB4.trans (hb5.mono hs4)
  clear hb5 HX4 HA4 c0 c1 c2 c3 c4 c5 c6 c7 c8 hx4
  have hs5 := HB5.size
  have c0 := HX5.out.1 0 (by omega)
  have c1 := HX5.out.1 1 (by omega)
  have c2 := HX5.out.1 2 (by omega)
  have c3 := HX5.out.1 3 (by omega)
  have c4 := HX5.out.1 4 (by omega)
  have c5 := HX5.out.1 5 (by omega)
  have c6 := HX5.out.1 6 (by omega)
  have c7 := HX5.out.1 7 (by omega)
  have c8 := HX5.out.1 8 (by omega)
  go_wp2_with fail
  refine (kB.out _ (HNB.out.below HB5 (Nat.le_refl _))).mono ?_
  rintro e w6 ⟨rfl, hb6⟩
  have HX6 := lhid (HX5.out.below hb6 HX5.out.lt)
  have HA6 := lhid (HA5.out.below hb6 HA5.out.lt)
  have HB6 := HB5.trans (hb6.mono hs5)
  clear hb6 HX5 HA5 c0 c1 c2 c3 c4 c5 c6 c7 c8
  rcases hw with rfl | ⟨rfl, rfl⟩ | ⟨rfl, rfl, hex⟩
  · go_wp2_with fail
    go_ret
    exact ⟨rfl, HB6⟩
  · go_wp2_with fail
    go_ret
    exact ⟨rfl, HB6⟩
  · have HEX := lhid hex
    clear hex
    go_wp2_with fail
    go_loop [17] (fun i => ∃ k : Nat, k ≤ 9 ∧ i = .int .i64 k ∧ Hid (∀ j, j < k → ¬ (fa j = true ∧ fb j = true ∧ m j = 1 ∧ g j = 1))) (fun i => 9 - (intOf i).toNat)
    case atStart => exact ⟨0, by omega, rfl, lhid (fun j hj => by omega)⟩
    case round =>
      obtain ⟨k, hk, rfl, HQ⟩ := hrel
      by_cases hlt : k < 9
      · have hcm := HA6.out.1 k hlt
        have hcn := HX6.out.1 k hlt
        obtain ⟨ab, ao, rfl, _, hca⟩ := (HNA.out.below HB6 (Nat.le_refl _)) k hlt
        obtain ⟨bb, bo, rfl, _, hcb⟩ := (HNB.out.below HB6 (Nat.le_refl _)) k hlt
        by_cases h1 : fa k = true
        · rw [h1] at hca
          have G1 := lhid h1
          clear h1
          by_cases h2 : fb k = true
          · rw [h2] at hcb
            have G2 := lhid h2
            clear h2
            by_cases h3 : m k = 1
            · have b3 : (m k == 1) = true := beq_iff_eq.2 h3
              have G3 := lhid h3
              clear h3
              by_cases h4 : g k = 1
              · have b4 : (g k == 1) = true := beq_iff_eq.2 h4
                clear h4
                go_wp2
                go_ret
                exact ⟨rfl, HB6⟩
              · have b4 : (g k == 1) = false := beq_eq_false_iff_ne.2 h4
                have G4 := lhid h4
                clear h4
                go_wp2
                go_round
                case rel => exact ⟨k + 1, by omega, by go_num, lhid (fun j hj => by
                  by_cases e : j = k
                  · subst e; exact fun h => G4.out h.2.2.2
                  · exact HQ.out j (by omega))⟩
                case measure => simp [intOf]; omega
            · have b3 : (m k == 1) = false := beq_eq_false_iff_ne.2 h3
              have G3 := lhid h3
              clear h3
              go_wp2
              go_round
              case rel => exact ⟨k + 1, by omega, by go_num, lhid (fun j hj => by
                by_cases e : j = k
                · subst e; exact fun h => G3.out h.2.2.1
                · exact HQ.out j (by omega))⟩
              case measure => simp [intOf]; omega
          · have h2' : fb k = false := by simpa using h2
            rw [h2'] at hcb
            have G2 := lhid h2
            clear h2 h2'
            go_wp2
            go_round
            case rel => exact ⟨k + 1, by omega, by go_num, lhid (fun j hj => by
              by_cases e : j = k
              · subst e; exact fun h => G2.out h.2.1
              · exact HQ.out j (by omega))⟩
            case measure => simp [intOf]; omega
        · have h1' : fa k = false := by simpa using h1
          rw [h1'] at hca
          have G1 := lhid h1
          clear h1 h1'
          go_wp2
          go_round
          case rel => exact ⟨k + 1, by omega, by go_num, lhid (fun j hj => by
            by_cases e : j = k
            · subst e; exact fun h => G1.out h.1
            · exact HQ.out j (by omega))⟩
          case measure => simp [intOf]; omega
      · obtain rfl : k = 9 := by omega
        obtain ⟨j, hj, hh⟩ := HEX.out
        exact absurd hh (HQ.out j hj)


set_option maxRecDepth 100000 in
set_option maxHeartbeats 4000000 in
theorem lawMeets_old (m g : Nat → Int) (E : Int) (hm : ∀ k, k < 9 → 0 ≤ m k ∧ m k ≤ 255) (node role : Int) (a0 a1 : Option Addr) (c0 c1 : Nat) (fa fb : Nat → Bool) (w : World) (hNA : Bools w a0 9 fa) (hNB : Bools w a1 9 fb) (hr : rightB m = true) (hE : (E != 0) = true)
    (hC : ∀ X : World, Calls Try.prog 24 #[.agg #[.int .u8 (m 0), .int .u8 (m 1), .int .u8 (m 2), .int .u8 (m 3), .int .u8 (m 4), .int .u8 (m 5), .int .u8 (m 6), .int .u8 (m 7), .int .u8 (m 8)], .int .i64 node, .int .i64 role] X fun e w' => e = .returned (.tuple #[.agg #[.int .u8 (g 0), .int .u8 (g 1), .int .u8 (g 2), .int .u8 (g 3), .int .u8 (g 4), .int .u8 (g 5), .int .u8 (g 6), .int .u8 (g 7), .int .u8 (g 8)], .int .i64 E]) ∧ Below X.heap.size X w')
    (hR : ∀ X : World, Calls Try.prog 20 #[.agg #[.int .u8 (m 0), .int .u8 (m 1), .int .u8 (m 2), .int .u8 (m 3), .int .u8 (m 4), .int .u8 (m 5), .int .u8 (m 6), .int .u8 (m 7), .int .u8 (m 8)]] X fun e w' => e = .returned (.bool true) ∧ Below X.heap.size X w')
    (WA LA WB LB : Bool)
    (hA : ∀ X : World, Bools X a0 9 fa → Calls Try.prog 23 #[.agg #[.int .u8 (m 0), .int .u8 (m 1), .int .u8 (m 2), .int .u8 (m 3), .int .u8 (m 4), .int .u8 (m 5), .int .u8 (m 6), .int .u8 (m 7), .int .u8 (m 8)], .slice a0 9 c0] X fun e w' => e = .returned (.tuple #[.bool WA, .bool LA]) ∧ Below X.heap.size X w')
    (hB : ∀ X : World, Bools X a1 9 fb → Calls Try.prog 23 #[.agg #[.int .u8 (m 0), .int .u8 (m 1), .int .u8 (m 2), .int .u8 (m 3), .int .u8 (m 4), .int .u8 (m 5), .int .u8 (m 6), .int .u8 (m 7), .int .u8 (m 8)], .slice a1 9 c1] X fun e w' => e = .returned (.tuple #[.bool WB, .bool LB]) ∧ Below X.heap.size X w')
    (hw : WA = false ∨ (WA = true ∧ WB = false) ∨ (WA = true ∧ WB = true ∧ ∃ j, j < 9 ∧ fa j = true ∧ fb j = true ∧ m j = 1 ∧ m j = 1)) :
    Calls Try.prog 8 #[.agg #[.int .u8 (m 0), .int .u8 (m 1), .int .u8 (m 2), .int .u8 (m 3), .int .u8 (m 4), .int .u8 (m 5), .int .u8 (m 6), .int .u8 (m 7), .int .u8 (m 8)], .int .i64 node, .int .i64 role, .slice a0 9 c0, .slice a1 9 c1] w fun e w' => e = .returned (.bool true) ∧ Below w.heap.size w w' := by
  have HM := lhid hm
  have HNA := lhid hNA
  have HNB := lhid hNB
  have kC := lhid hC
  have kR := lhid hR
  have kA := lhid hA
  have kB := lhid hB
  clear hm hNA hNB hC hR hA hB
  go_enter Try.func8, Try.ntmps8
  go_wp2_with (first | (go_at_call 17; refine (knownQ_any _).mono ?_; rintro e w1 ⟨rfl, hb1⟩; have hc := (bcell hb1).1; have hlt : w.heap.size < w1.heap.size := (by have := hb1.size; simp at this; omega)) | (go_at_call 24; fail))
  have HB1 : Below w.heap.size w w1 := ((Below.refl _ _).alloc (Nat.le_refl _) _).trans (hb1.mono (by simp))
  have HA1 : Hid (ArrAt w1 w.heap.size m) := (ArrAt.new w m 42 _ rfl).below hb1 (by simp)
  clear hb1 hc
  refine (right_any m HM.out _).mono ?_
  rintro e w2 ⟨rfl, hb2⟩
  have HB2 := HB1.trans (hb2.mono HB1.size)
  have HA2 := lhid (HA1.out.below hb2 HA1.out.lt)
  have c0 := HA2.out.1 0 (by omega)
  have c1 := HA2.out.1 1 (by omega)
  have c2 := HA2.out.1 2 (by omega)
  have c3 := HA2.out.1 3 (by omega)
  have c4 := HA2.out.1 4 (by omega)
  have c5 := HA2.out.1 5 (by omega)
  have c6 := HA2.out.1 6 (by omega)
  have c7 := HA2.out.1 7 (by omega)
  have c8 := HA2.out.1 8 (by omega)
  clear hb2 HB1 hlt HA1
  go_wp2_with fail
  refine (kC.out _).mono ?_
  rintro e w3 ⟨rfl, hb3⟩
  have HB3 := HB2.trans (hb3.mono HB2.size)
  have HA3 := lhid (HA2.out.below hb3 HA2.out.lt)
  clear hb3 HB2 HA2 c0 c1 c2 c3 c4 c5 c6 c7 c8
  have hs3 := HB3.size
  have hl3 : w.heap.size < w3.heap.size := HA3.out.lt
  have c0 := HA3.out.1 0 (by omega)
  have c1 := HA3.out.1 1 (by omega)
  have c2 := HA3.out.1 2 (by omega)
  have c3 := HA3.out.1 3 (by omega)
  have c4 := HA3.out.1 4 (by omega)
  have c5 := HA3.out.1 5 (by omega)
  have c6 := HA3.out.1 6 (by omega)
  have c7 := HA3.out.1 7 (by omega)
  have c8 := HA3.out.1 8 (by omega)
  go_wp2_with fail
  refine (kR.out _).mono ?_
  rintro e w4 ⟨rfl, hb4⟩
  have HX4 : Hid (ArrAt w4 w3.heap.size m) := lhid ((ArrAt.new w3 m 42 _ rfl).below hb4 (by simp))
  have HA4 : Hid (ArrAt w4 w.heap.size m) := lhid ((HA3.out.alloc _).below hb4 (by simp; omega))
  have HB4 : Below w.heap.size w w4 := (HB3.alloc hs3 _).trans (hb4.mono (by simp; omega))
  clear hb4 HA3 c0 c1 c2 c3 c4 c5 c6 c7 c8
  have hs4 := HB4.size
  have hx4 := HX4.out.lt
  have c0 := HA4.out.1 0 (by omega)
  have c1 := HA4.out.1 1 (by omega)
  have c2 := HA4.out.1 2 (by omega)
  have c3 := HA4.out.1 3 (by omega)
  have c4 := HA4.out.1 4 (by omega)
  have c5 := HA4.out.1 5 (by omega)
  have c6 := HA4.out.1 6 (by omega)
  have c7 := HA4.out.1 7 (by omega)
  have c8 := HA4.out.1 8 (by omega)
  go_wp2_with fail
  refine (kA.out _ (HNA.out.below HB4 (Nat.le_refl _))).mono ?_
  rintro e w5 ⟨rfl, hb5⟩
  have HX5 := lhid (HX4.out.below hb5 hx4)
  have HA5 := lhid (HA4.out.below hb5 HA4.out.lt)
  have HB5 := HB4.trans (hb5.mono hs4)
  clear hb5 HX4 HA4 c0 c1 c2 c3 c4 c5 c6 c7 c8 hx4
  have hs5 := HB5.size
  have c0 := HX5.out.1 0 (by omega)
  have c1 := HX5.out.1 1 (by omega)
  have c2 := HX5.out.1 2 (by omega)
  have c3 := HX5.out.1 3 (by omega)
  have c4 := HX5.out.1 4 (by omega)
  have c5 := HX5.out.1 5 (by omega)
  have c6 := HX5.out.1 6 (by omega)
  have c7 := HX5.out.1 7 (by omega)
  have c8 := HX5.out.1 8 (by omega)
  go_wp2_with fail
  refine (kB.out _ (HNB.out.below HB5 (Nat.le_refl _))).mono ?_
  rintro e w6 ⟨rfl, hb6⟩
  have HX6 := lhid (HX5.out.below hb6 HX5.out.lt)
  have HA6 := lhid (HA5.out.below hb6 HA5.out.lt)
  have HB6 := HB5.trans (hb6.mono hs5)
  clear hb6 HX5 HA5 c0 c1 c2 c3 c4 c5 c6 c7 c8
  rcases hw with rfl | ⟨rfl, rfl⟩ | ⟨rfl, rfl, hex⟩
  · go_wp2_with fail
    go_ret
    exact ⟨rfl, HB6⟩
  · go_wp2_with fail
    go_ret
    exact ⟨rfl, HB6⟩
  · have HEX := lhid hex
    clear hex
    go_wp2_with fail
    go_loop [17] (fun i => ∃ k : Nat, k ≤ 9 ∧ i = .int .i64 k ∧ Hid (∀ j, j < k → ¬ (fa j = true ∧ fb j = true ∧ m j = 1 ∧ m j = 1))) (fun i => 9 - (intOf i).toNat)
    case atStart => exact ⟨0, by omega, rfl, lhid (fun j hj => by omega)⟩
    case round =>
      obtain ⟨k, hk, rfl, HQ⟩ := hrel
      by_cases hlt : k < 9
      · have hcm := HA6.out.1 k hlt
        have hcn := HX6.out.1 k hlt
        obtain ⟨ab, ao, rfl, _, hca⟩ := (HNA.out.below HB6 (Nat.le_refl _)) k hlt
        obtain ⟨bb, bo, rfl, _, hcb⟩ := (HNB.out.below HB6 (Nat.le_refl _)) k hlt
        by_cases h1 : fa k = true
        · rw [h1] at hca
          have G1 := lhid h1
          clear h1
          by_cases h2 : fb k = true
          · rw [h2] at hcb
            have G2 := lhid h2
            clear h2
            by_cases h3 : m k = 1
            · have b3 : (m k == 1) = true := beq_iff_eq.2 h3
              have G3 := lhid h3
              clear h3
              by_cases h4 : m k = 1
              · have b4 : (m k == 1) = true := beq_iff_eq.2 h4
                clear h4
                go_wp2
                go_ret
                exact ⟨rfl, HB6⟩
              · exact absurd G3.out h4
            · have b3 : (m k == 1) = false := beq_eq_false_iff_ne.2 h3
              have G3 := lhid h3
              clear h3
              go_wp2
              go_round
              case rel => exact ⟨k + 1, by omega, by go_num, lhid (fun j hj => by
                by_cases e : j = k
                · subst e; exact fun h => G3.out h.2.2.1
                · exact HQ.out j (by omega))⟩
              case measure => simp [intOf]; omega
          · have h2' : fb k = false := by simpa using h2
            rw [h2'] at hcb
            have G2 := lhid h2
            clear h2 h2'
            go_wp2
            go_round
            case rel => exact ⟨k + 1, by omega, by go_num, lhid (fun j hj => by
              by_cases e : j = k
              · subst e; exact fun h => G2.out h.2.1
              · exact HQ.out j (by omega))⟩
            case measure => simp [intOf]; omega
        · have h1' : fa k = false := by simpa using h1
          rw [h1'] at hca
          have G1 := lhid h1
          clear h1 h1'
          go_wp2
          go_round
          case rel => exact ⟨k + 1, by omega, by go_num, lhid (fun j hj => by
            by_cases e : j = k
            · subst e; exact fun h => G1.out h.1
            · exact HQ.out j (by omega))⟩
          case measure => simp [intOf]; omega
      · obtain rfl : k = 9 := by omega
        obtain ⟨j, hj, hh⟩ := HEX.out
        exact absurd hh (HQ.out j hj)

theorem lawMeets_all (m : Nat → Int) (hm : ∀ k, k < 9 → 0 ≤ m k ∧ m k ≤ 255) (node role : Int) (a0 a1 : Option Addr) (n0 c0 n1 c1 : Nat) (fa fb : Nat → Bool) (w : World) (hNA : Bools w a0 n0 fa) (hNB : Bools w a1 n1 fb) :
    Calls Try.prog 8 #[.agg #[.int .u8 (m 0), .int .u8 (m 1), .int .u8 (m 2), .int .u8 (m 3), .int .u8 (m 4), .int .u8 (m 5), .int .u8 (m 6), .int .u8 (m 7), .int .u8 (m 8)], .int .i64 node, .int .i64 role, .slice a0 n0 c0, .slice a1 n1 c1] w fun e w' => e = .returned (.bool true) ∧ Below w.heap.size w w' := by
  cases hr : rightB m
  · exact lawMeets_out m hm node role a0 a1 n0 c0 n1 c1 w (.inl hr)
  by_cases h0 : n0 = 9
  · by_cases h1 : n1 = 9
    · subst h0 h1
      have hN := nextM_bd m hm node role
      have hR := next_right m node role hr
      have hW : wonB m fa 9 = false ∨ (wonB m fa 9 = true ∧ wonB (nextM m node role) fb 9 = false) ∨ (wonB m fa 9 = true ∧ wonB (nextM m node role) fb 9 = true ∧ ∃ j, j < 9 ∧ fa j = true ∧ fb j = true ∧ m j = 1 ∧ nextM m node role j = 1) := by
        cases e1 : wonB m fa 9
        · exact .inl rfl
        · cases e2 : wonB (nextM m node role) fb 9
          · exact .inr (.inl ⟨rfl, rfl⟩)
          · exact .inr (.inr ⟨rfl, rfl, next_meets m node role fa fb e1 e2⟩)
      by_cases hE : (changeM m node role).2 = 0
      · have en : nextM m node role = (changeM m node role).1 := if_pos hE
        rw [en] at hN hR hW
        exact lawMeets_new m (changeM m node role).1 (changeM m node role).2 hm node role a0 a1 c0 c1 fa fb w hNA hNB hr hE (fun X => change_any m hm node role X) (fun X => by rw [← hR]; exact right_any _ hN X) _ (lostB m fa 9) _ (lostB (changeM m node role).1 fb 9)
          (fun X h => votes_any m hm a0 9 c0 fa X h) (fun X h => votes_any _ hN a1 9 c1 fb X h) hW
      · have en : nextM m node role = m := if_neg hE
        rw [en] at hW
        exact lawMeets_old m (changeM m node role).1 (changeM m node role).2 hm node role a0 a1 c0 c1 fa fb w hNA hNB hr (by rw [bne_iff_ne]; exact hE) (fun X => change_any m hm node role X) (fun X => by have h := right_any m hm X; rw [hr] at h; exact h) _ (lostB m fa 9) _ (lostB m fb 9)
          (fun X h => votes_any m hm a0 9 c0 fa X h) (fun X h => votes_any m hm a1 9 c1 fb X h) hW
    · exact lawMeets_out m hm node role a0 a1 n0 c0 n1 c1 w (.inr (.inr ⟨hr, by subst h0; rfl, by rw [bne_iff_ne]; omega⟩))
  · exact lawMeets_out m hm node role a0 a1 n0 c0 n1 c1 w (.inr (.inl ⟨hr, by rw [bne_iff_ne]; omega⟩))

end Go.Proofs.Ytccopcbemflemaa
