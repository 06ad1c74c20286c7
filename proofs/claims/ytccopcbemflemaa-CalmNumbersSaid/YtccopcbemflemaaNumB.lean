/-
  The walk of the law CalmNumbers, where the numbers are in range.
-/
import Derived.Test.YtccopcbemflemaaNumA
namespace Go.Proofs.Ytccopcbemflemaa
open Go Go.RowKit

set_option maxRecDepth 100000 in
set_option maxHeartbeats 2000000 in
theorem numbers_in (hi g c l d : Int) (a0 a1 : Option Addr) (n0 c0 n1 c1 : Nat) (z0 z1 : List Int) (is : Bool) (w : World)
    (h0 : 0 ≤ hi) (h1 : hi ≤ 1048576) (h2 : 0 ≤ g) (h3 : g ≤ 1048576) (h4 : n0 ≤ 200) (h5 : n1 ≤ 200) (hN0 : Nums w a0 n0 z0) (hN1 : Nums w a1 n1 z1) :
    Calls Try.prog 3 #[.int .i64 hi, .int .i64 g, .agg #[.int .i64 c, .int .i64 l, .int .i64 d], .slice a0 n0 c0, .slice a1 n1 c1, .bool is] w fun e w' => e = .returned (.bool true) ∧ Below w.heap.size w w' := by
  have HN0 := lhid hN0
  have HN1 := lhid hN1
  clear hN0 hN1
  go_enter Try.func3, Try.ntmps3
  go_wp2_with (first | (go_at_call 10; refine (known_any _).mono ?_; rintro e w1 ⟨rfl, hb1⟩; have hc := (bcell hb1).1; have hlt : w.heap.size < w1.heap.size := (by have := hb1.size; simp at this; omega)) | (go_at_call 11; fail))
  have HB1 : Below w.heap.size w w1 := ((Below.refl _ _).alloc (Nat.le_refl _) _).trans (hb1.mono (by simp))
  have e3 := cl_bd c
  have e4 := cl_bd l
  have e5 := cl_bd d
  refine wp_named (fun w' => Below w1.heap.size w1 w' ∧ w1.heap.size < w'.heap.size ∧ w'.cell? ⟨w1.heap.size, 0, none⟩ = some (.int .i64 0) ∧ w'.cell? ⟨w1.heap.size, 1, none⟩ = some (.int .i64 0) ∧ w'.cell? ⟨w1.heap.size, 2, none⟩ = some (.int .i64 g) ∧ w'.cell? ⟨w1.heap.size, 3, none⟩ = some (.int .i64 0) ∧ w'.cell? ⟨w1.heap.size, 4, none⟩ = some (.int .i64 0) ∧ w'.cell? ⟨w1.heap.size, 5, none⟩ = some (.int .i64 hi) ∧ w'.cell? ⟨w1.heap.size, 6, none⟩ = some (.int .i64 0) ∧ w'.cell? ⟨w1.heap.size, 7, none⟩ = some (.int .i64 0) ∧ w'.cell? ⟨w1.heap.size, 8, none⟩ = some (.int .i64 0) ∧ w'.cell? ⟨w1.heap.size, 9, none⟩ = some (.int .u64 0) ∧ w'.cell? ⟨w.heap.size, 0, none⟩ = some (.int .i64 c) ∧ w'.cell? ⟨w.heap.size, 1, none⟩ = some (.int .i64 l) ∧ w'.cell? ⟨w.heap.size, 2, none⟩ = some (.int .i64 d)) ?_ ?_
  · refine ⟨(Below.refl _ _).alloc (Nat.le_refl _) _, by simp, ?_⟩
    go_simp
  · rintro w2 ⟨hb2, hz2, q0, q1, q2, q3, q4, q5, q6, q7, q8, q9, l0, l1, l2⟩
    have hlt2 : w.heap.size < w2.heap.size := by omega
    refine wp_region_fam w2.heap.size (by kernel_rfl) (by kernel_rfl) ?_
    have q0' := Fam.cell hz2 q0
    have q1' := Fam.cell hz2 q1
    have q2' := Fam.cell hz2 q2
    have q3' := Fam.cell hz2 q3
    have q4' := Fam.cell hz2 q4
    have q5' := Fam.cell hz2 q5
    have q6' := Fam.cell hz2 q6
    have q7' := Fam.cell hz2 q7
    have q8' := Fam.cell hz2 q8
    have q9' := Fam.cell hz2 q9
    have l0' := Fam.cell hlt2 l0
    have l1' := Fam.cell hlt2 l1
    have l2' := Fam.cell hlt2 l2
    clear q0 q1 q2 q3 q4 q5 q6 q7 q8 q9
    clear hc hb1 hlt hz2
    repeat (go_big_quiet_step (first | (go_at_call 11; with_reducible exact Calls.fam (Nat.le_refl _) (elect_any _ _ _ _ _ _ _ _ _ _ _ (by omega) (by omega))) | (go_at_call 12; with_reducible exact Calls.fam (Nat.le_refl _) (bound_any _ _ _ _ _ _ _ _ _ _ _ _ _ _ (by omega) (by omega) (by omega) (by omega))) | (go_at_call 13; with_reducible exact Calls.fam (Nat.le_refl _) (clamp_any _ _))))
    refine wpQuiet_nil ?_
    intro t
    have hb3 := t.below
    have k0 := l0' t
    have k1 := l1' t
    have k2 := l2' t
    generalize t.at = w3 at *
    clear q0' q1' q2' q3' q4' q5' q6' q7' q8' q9' l0' l1' l2' l0 l1 l2
    have HB3 : Below w.heap.size w w3 := (HB1.trans (hb2.mono HB1.size)).trans (hb3.mono (Nat.le_of_lt hlt2))
    clear HB1 hb2 hb3 hlt2 e3 e4 e5 t
    have hN0 := HN0.out.below HB3 (Nat.le_refl _)
    have hN1 := HN1.out.below HB3 (Nat.le_refl _)
    have HM0 := lhid hN0
    have HM1 := lhid hN1
    have hs3 := HB3.size
    have hl3 : w.heap.size < w3.heap.size := block_lt_of_cell k0
    clear hN0 hN1 HN0 HN1
    go_wp2_with fail
    refine (most_row a0 n0 c0 z0 _ (by omega) HM0.out).mono ?_
    rintro e w4 ⟨rfl, hb4⟩
    have HK0 := lhid (HM0.out.below hb4 (Nat.le_refl _))
    have HK1 := lhid (HM1.out.below hb4 (Nat.le_refl _))
    clear HM0 HM1
    have k0' := (hb4.cell (p := ⟨w.heap.size, 0, none⟩) hl3).trans k0
    have k1' := (hb4.cell (p := ⟨w.heap.size, 1, none⟩) hl3).trans k1
    have k2' := (hb4.cell (p := ⟨w.heap.size, 2, none⟩) hl3).trans k2
    have HB4 : Below w.heap.size w w4 := HB3.trans (hb4.mono hs3)
    clear k0 k1 k2 hl3 HB3 hb4 hs3
    obtain ⟨M0, hM0⟩ : ∃ M, M = mostK z0 n0 := ⟨_, rfl⟩
    rw [← hM0]
    have HM0 := lhid hM0
    clear hM0
    go_wp2_with fail
    refine (most64_row a1 n1 c1 z1 _ (by omega) HK1.out).mono ?_
    rintro e w5 ⟨rfl, hb5⟩
    have HL0 := lhid (HK0.out.below hb5 (Nat.le_refl _))
    have HL1 := lhid (HK1.out.below hb5 (Nat.le_refl _))
    clear HK0 HK1
    have hl4 := block_lt_of_cell k0'
    have hs4 := HB4.size
    have k0 := (hb5.cell (p := ⟨w.heap.size, 0, none⟩) hl4).trans k0'
    have k1 := (hb5.cell (p := ⟨w.heap.size, 1, none⟩) hl4).trans k1'
    have k2 := (hb5.cell (p := ⟨w.heap.size, 2, none⟩) hl4).trans k2'
    have HB5 : Below w.heap.size w w5 := HB4.trans (hb5.mono hs4)
    clear k0' k1' k2' hl4 HB4 hb5 hs4
    obtain ⟨M1, hM1⟩ : ∃ M, M = mostK z1 n1 := ⟨_, rfl⟩
    rw [← hM1]
    have HM1 := lhid hM1
    clear hM1
    go_wp2_with fail
    refine (quiet_held _ _).mono ?_
    rintro e w6 ⟨rfl, hb6⟩
    have HQ0 := lhid (HL0.out.below hb6 (Nat.le_refl _))
    have HQ1 := lhid (HL1.out.below hb6 (Nat.le_refl _))
    clear HL0 HL1
    have hl5 := block_lt_of_cell k0
    have hs5 := HB5.size
    have k0' := (hb6.cell (p := ⟨w.heap.size, 0, none⟩) hl5).trans k0
    have k1' := (hb6.cell (p := ⟨w.heap.size, 1, none⟩) hl5).trans k1
    have k2' := (hb6.cell (p := ⟨w.heap.size, 2, none⟩) hl5).trans k2
    have HB6 : Below w.heap.size w w6 := HB5.trans (hb6.mono hs5)
    clear k0 k1 k2 hl5 HB5 hb6 hs5
    go_wp2_with fail
    refine (quiet_nil _).mono ?_
    rintro e w7 ⟨rfl, hb7⟩
    have HL0 := lhid (HQ0.out.below hb7 (Nat.le_refl _))
    have HL1 := lhid (HQ1.out.below hb7 (Nat.le_refl _))
    clear HQ0 HQ1
    have hl6 := block_lt_of_cell k0'
    have hs6 := HB6.size
    have k0 := (hb7.cell (p := ⟨w.heap.size, 0, none⟩) hl6).trans k0'
    have k1 := (hb7.cell (p := ⟨w.heap.size, 1, none⟩) hl6).trans k1'
    have k2 := (hb7.cell (p := ⟨w.heap.size, 2, none⟩) hl6).trans k2'
    have HB7 : Below w.heap.size w w7 := HB6.trans (hb7.mono hs6)
    clear k0' k1' k2' hl6 HB6 hb7 hs6
    go_wp2_with fail
    refine (quiet_load _ _).mono ?_
    rintro e w8 ⟨rfl, hb8⟩
    have HQ0 := lhid (HL0.out.below hb8 (Nat.le_refl _))
    have HQ1 := lhid (HL1.out.below hb8 (Nat.le_refl _))
    clear HL0 HL1
    have hs7 := HB7.size
    have HB8 : Below w.heap.size w w8 := HB7.trans (hb8.mono hs7)
    clear k0 k1 k2 HB7 hb8 hs7
    go_wp2_with fail
    go_loop [19, 20] (fun f i => ∃ k : Nat, k ≤ n0 ∧ i = .int .i64 k ∧ f = .bool (hasK z0 M0 k)) (fun _ i => n0 - (intOf i).toNat)
    case atStart => exact ⟨0, by omega, rfl, rfl⟩
    case round =>
      obtain ⟨k, hk, rfl, rfl⟩ := hrel
      by_cases hlt : k < n0
      · obtain ⟨b, off, rfl, _, hcell⟩ := HQ0.out k hlt
        have hle : z0[k]?.getD 0 ≤ M0 := by rw [HM0.out]; exact mostK_ge z0 n0 k hlt
        have hsucc : hasK z0 M0 (k + 1) = (hasK z0 M0 k || z0[k]?.getD 0 == M0) := rfl
        have HS := lhid hsucc
        clear hsucc
        cases hh : hasK z0 M0 k
        · rw [hh] at HS
          go_wp2
          go_round
          case rel => exact ⟨k + 1, by omega, by go_num, by rw [HS.out]; simp⟩
          case measure => simp [intOf]; omega
        · rw [hh] at HS
          go_wp2
          go_round
          case rel => exact ⟨k + 1, by omega, by go_num, by rw [HS.out]; simp⟩
          case measure => simp [intOf]; omega
      · obtain rfl : n0 = k := by omega
        have hf : hasK z0 M0 n0 = decide (0 < n0) := by
          by_cases hz : n0 = 0
          · subst hz; rfl
          · rw [HM0.out, hasK_most z0 n0 (by omega)]; simp; omega
        rw [hf]
        clear hf
        go_wp2_with fail
        go_loop [21] (fun i => ∃ k : Nat, k ≤ n1 ∧ i = .int .i64 k) (fun i => n1 - (intOf i).toNat)
        case atStart => exact ⟨0, by omega, rfl⟩
        case round =>
          obtain ⟨j, hj, rfl⟩ := hrel
          by_cases hlj : j < n1
          · obtain ⟨b, off, rfl, _, hcell⟩ := HQ1.out j hlj
            have hle : z1[j]?.getD 0 ≤ M1 := by rw [HM1.out]; exact mostK_ge z1 n1 j hlj
            go_wp2
            go_round
            case rel => exact ⟨j + 1, by omega, by go_num⟩
            case measure => simp [intOf]; omega
          · obtain rfl : n1 = j := by omega
            by_cases y0 : n0 = 0
            · have hm0 : M0 = 0 := by rw [HM0.out, y0]; rfl
              subst y0 hm0
              by_cases y1 : n1 = 0
              · have hm1 : M1 = 0 := by rw [HM1.out, y1]; rfl
                subst y1 hm1
                go_wp2_with fail
                go_ret
                exact ⟨rfl, HB8⟩
              · have y1' : 0 < n1 := by omega
                clear y1
                go_wp2_with fail
                go_ret
                exact ⟨rfl, HB8⟩
            · have y0' : 0 < n0 := by omega
              clear y0
              by_cases y1 : n1 = 0
              · have hm1 : M1 = 0 := by rw [HM1.out, y1]; rfl
                subst y1 hm1
                go_wp2_with fail
                go_ret
                exact ⟨rfl, HB8⟩
              · have y1' : 0 < n1 := by omega
                clear y1
                go_wp2_with fail
                go_ret
                exact ⟨rfl, HB8⟩

end Go.Proofs.Ytccopcbemflemaa
