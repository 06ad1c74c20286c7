/-
  The reference's Change.
-/
import Derived.Test.YtccopcbemflemaaRefB
import Derived.Test.YtccopcbemflemaaQChange
namespace Go.Proofs.Ytccopcbemflemaa
open Go Go.RowKit Go.Shelf

set_option maxRecDepth 100000 in
set_option maxHeartbeats 1000000 in
theorem refChange_out (m : Nat → Int) (node role : Int) (w : World) (h : node < 0 ∨ (0 ≤ node ∧ 9 ≤ node) ∨ ((0 ≤ node ∧ node < 9) ∧ role < 0) ∨ ((0 ≤ node ∧ node < 9) ∧ 0 ≤ role ∧ 2 < role)) :
    Calls Try.prog 29 #[.agg #[.int .u8 (m 0), .int .u8 (m 1), .int .u8 (m 2), .int .u8 (m 3), .int .u8 (m 4), .int .u8 (m 5), .int .u8 (m 6), .int .u8 (m 7), .int .u8 (m 8)], .int .i64 node, .int .i64 role] w fun e w' => e = .returned (.tuple #[.agg #[.int .u8 ((changeM m node role).1 0), .int .u8 ((changeM m node role).1 1), .int .u8 ((changeM m node role).1 2), .int .u8 ((changeM m node role).1 3), .int .u8 ((changeM m node role).1 4), .int .u8 ((changeM m node role).1 5), .int .u8 ((changeM m node role).1 6), .int .u8 ((changeM m node role).1 7), .int .u8 ((changeM m node role).1 8)], .int .i64 (changeM m node role).2]) ∧ Below w.heap.size w w' := by
  have hc : Hid (changeM m node role = (zeroM, 1)) := changeM_out (by omega)
  rcases h with h | ⟨h0, h⟩ | ⟨⟨h0, h1⟩, h⟩ | ⟨⟨h0, h1⟩, h2, h⟩
  all_goals
    go_enter Try.func29, Try.ntmps29
    go_wp2
    refine bodyPost_ret (v := .tuple #[.agg #[.int .u8 0, .int .u8 0, .int .u8 0, .int .u8 0, .int .u8 0, .int .u8 0, .int .u8 0, .int .u8 0, .int .u8 0], .int .i64 1]) (by simp [results, Try.results29, go_sem]) rfl ⟨?_, ?_⟩
    · rw [hc.out]; rfl
    · exact ((Below.refl _ _).alloc (Nat.le_refl _) _).alloc (by simp) _

set_option maxRecDepth 100000 in
set_option maxHeartbeats 2000000 in
theorem refChange_in (m : Nat → Int) (hm : ∀ k, k < 9 → 0 ≤ m k ∧ m k ≤ 255) (k : Nat) (role : Int) (hk : k < 9) (h0 : 0 ≤ role) (h2 : role ≤ 2) (w : World) :
    Calls Try.prog 29 #[.agg #[.int .u8 (m 0), .int .u8 (m 1), .int .u8 (m 2), .int .u8 (m 3), .int .u8 (m 4), .int .u8 (m 5), .int .u8 (m 6), .int .u8 (m 7), .int .u8 (m 8)], .int .i64 k, .int .i64 role] w fun e w' => e = .returned (.tuple #[.agg #[.int .u8 ((changeM m k role).1 0), .int .u8 ((changeM m k role).1 1), .int .u8 ((changeM m k role).1 2), .int .u8 ((changeM m k role).1 3), .int .u8 ((changeM m k role).1 4), .int .u8 ((changeM m k role).1 5), .int .u8 ((changeM m k role).1 6), .int .u8 ((changeM m k role).1 7), .int .u8 ((changeM m k role).1 8)], .int .i64 (changeM m k role).2]) ∧ Below w.heap.size w w' := by
  have HM := lhid hm
  clear hm
  have hmk0 := (HM.out k hk).1
  have hmk1 := (HM.out k hk).2
  have HC := lhid (changeM_in (m := m) hk h0 h2)
  rcases (show role = 0 ∨ role = 1 ∨ role = 2 by omega) with rfl | rfl | rfl
  · by_cases e0x : m k = 0
    · have tb0 : (m k == 0) = true := beq_iff_eq.2 e0x
      have tb1 : (m k == 1) = false := beq_eq_false_iff_ne.2 (by omega)
      have tb2 : (m k == 2) = false := beq_eq_false_iff_ne.2 (by omega)
      have HE : Hid (m k = 0) := lhid (by omega)
      have HR : Hid (changeM m k 0 = (zeroM, 3)) := by show changeM m k 0 = (zeroM, 3); rw [HC.out, if_pos HE.out]
      clear HC
      try clear e0x
      try clear e1x
      try clear e2x
      obtain ⟨g, hg⟩ : ∃ g, g = upd m k 0 := ⟨_, rfl⟩
      have HG := lhid hg
      clear hg
      go_enter Try.func29, Try.ntmps29
      go_upto_region 1 with (fail)
      refine wp_named (fun w' => (ArrAt w' w.heap.size m ∧ ArrAt w' (w.heap.size + 1) zeroM) ∧ Below w.heap.size w w') ?_ ?_
      · exact ⟨⟨(ArrAt.new w m 41 _ rfl).alloc _, ArrAt.new _ zeroM 41 _ (by simp)⟩, ((Below.refl _ _).alloc (Nat.le_refl _) _).alloc (by simp) _⟩
      rintro w1 ⟨⟨HX, HY⟩, HB1⟩
      have cmk := HX.1 k hk
      have y0 := HY.1 0 (by omega)
      have y1 := HY.1 1 (by omega)
      have y2 := HY.1 2 (by omega)
      have y3 := HY.1 3 (by omega)
      have y4 := HY.1 4 (by omega)
      have y5 := HY.1 5 (by omega)
      have y6 := HY.1 6 (by omega)
      have y7 := HY.1 7 (by omega)
      have y8 := HY.1 8 (by omega)
      have x0 := HY.2 0 (by omega)
      have x1 := HY.2 1 (by omega)
      have x2 := HY.2 2 (by omega)
      have x3 := HY.2 3 (by omega)
      have x4 := HY.2 4 (by omega)
      have x5 := HY.2 5 (by omega)
      have x6 := HY.2 6 (by omega)
      have x7 := HY.2 7 (by omega)
      have x8 := HY.2 8 (by omega)
      clear HX HY
      go_wp2
      refine bodyPost_ret (v := .tuple #[.agg #[.int .u8 0, .int .u8 0, .int .u8 0, .int .u8 0, .int .u8 0, .int .u8 0, .int .u8 0, .int .u8 0, .int .u8 0], .int .i64 3]) (by simp [results, Try.results29, go_sem, y0, y1, y2, y3, y4, y5, y6, y7, y8]) rfl ⟨?_, ?_⟩
      · rw [HR.out]; rfl
      · have HB := HB1
        exact (((((((((HB).setCell (p := ⟨w.heap.size + 1, 0, none⟩) (by simp) _).setCell (p := ⟨w.heap.size + 1, 1, none⟩) (by simp) _).setCell (p := ⟨w.heap.size + 1, 2, none⟩) (by simp) _).setCell (p := ⟨w.heap.size + 1, 3, none⟩) (by simp) _).setCell (p := ⟨w.heap.size + 1, 4, none⟩) (by simp) _).setCell (p := ⟨w.heap.size + 1, 5, none⟩) (by simp) _).setCell (p := ⟨w.heap.size + 1, 6, none⟩) (by simp) _).setCell (p := ⟨w.heap.size + 1, 7, none⟩) (by simp) _).setCell (p := ⟨w.heap.size + 1, 8, none⟩) (by simp) _
    · by_cases e1x : m k = 1
      · by_cases hcn : cnt m 1 = 1
        · have tb0 : (m k == 0) = false := beq_eq_false_iff_ne.2 (by omega)
          have tb1 : (m k == 1) = true := beq_iff_eq.2 e1x
          have tb2 : (m k == 2) = false := beq_eq_false_iff_ne.2 (by omega)
          have HE : Hid (¬ m k = 0) := lhid (by omega)
          have HCN : Hid (1 = cnt m 1) := lhid hcn.symm
          have HR : Hid (changeM m k 0 = (zeroM, 6)) := by show changeM m k 0 = (zeroM, 6); rw [HC.out, if_neg HE.out, if_pos (by omega)]
          clear HC
          try clear hcn
          try clear e0x
          try clear e1x
          try clear e2x
          obtain ⟨g, hg⟩ : ∃ g, g = upd m k 0 := ⟨_, rfl⟩
          have HG := lhid hg
          clear hg
          go_enter Try.func29, Try.ntmps29
          go_upto_region 1 with (fail)
          refine wp_named (fun w' => (ArrAt w' w.heap.size m ∧ ArrAt w' (w.heap.size + 1) zeroM) ∧ Below w.heap.size w w') ?_ ?_
          · exact ⟨⟨(ArrAt.new w m 41 _ rfl).alloc _, ArrAt.new _ zeroM 41 _ (by simp)⟩, ((Below.refl _ _).alloc (Nat.le_refl _) _).alloc (by simp) _⟩
          rintro w1 ⟨⟨HX, HY⟩, HB1⟩
          have cmk := HX.1 k hk
          have c0 := HX.1 0 (by omega)
          have c1 := HX.1 1 (by omega)
          have c2 := HX.1 2 (by omega)
          have c3 := HX.1 3 (by omega)
          have c4 := HX.1 4 (by omega)
          have c5 := HX.1 5 (by omega)
          have c6 := HX.1 6 (by omega)
          have c7 := HX.1 7 (by omega)
          have c8 := HX.1 8 (by omega)
          have HX1 := lhid HX
          have HY1 := lhid HY
          clear HX HY
          go_wp2_with (go_at_call 33; refine (refCount_any m 1 HM.out _).mono ?_; rintro e w3 ⟨rfl, hb3⟩; rw [← HCN.out]; have HX := (HX1.out.below hb3 HX1.out.lt); have HY := (HY1.out.below hb3 HY1.out.lt); have ck3 := HX.1 k hk; have y0 := HY.1 0 (by omega); have y1 := HY.1 1 (by omega); have y2 := HY.1 2 (by omega); have y3 := HY.1 3 (by omega); have y4 := HY.1 4 (by omega); have y5 := HY.1 5 (by omega); have y6 := HY.1 6 (by omega); have y7 := HY.1 7 (by omega); have y8 := HY.1 8 (by omega); have x0 := HY.2 0 (by omega); have x1 := HY.2 1 (by omega); have x2 := HY.2 2 (by omega); have x3 := HY.2 3 (by omega); have x4 := HY.2 4 (by omega); have x5 := HY.2 5 (by omega); have x6 := HY.2 6 (by omega); have x7 := HY.2 7 (by omega); have x8 := HY.2 8 (by omega); clear HX HY)
          refine bodyPost_ret (v := .tuple #[.agg #[.int .u8 0, .int .u8 0, .int .u8 0, .int .u8 0, .int .u8 0, .int .u8 0, .int .u8 0, .int .u8 0, .int .u8 0], .int .i64 6]) (by simp [results, Try.results29, go_sem, y0, y1, y2, y3, y4, y5, y6, y7, y8]) rfl ⟨?_, ?_⟩
          · rw [HR.out]; rfl
          · have HB := (HB1.trans (hb3.mono HB1.size))
            exact (((((((((HB).setCell (p := ⟨w.heap.size + 1, 0, none⟩) (by simp) _).setCell (p := ⟨w.heap.size + 1, 1, none⟩) (by simp) _).setCell (p := ⟨w.heap.size + 1, 2, none⟩) (by simp) _).setCell (p := ⟨w.heap.size + 1, 3, none⟩) (by simp) _).setCell (p := ⟨w.heap.size + 1, 4, none⟩) (by simp) _).setCell (p := ⟨w.heap.size + 1, 5, none⟩) (by simp) _).setCell (p := ⟨w.heap.size + 1, 6, none⟩) (by simp) _).setCell (p := ⟨w.heap.size + 1, 7, none⟩) (by simp) _).setCell (p := ⟨w.heap.size + 1, 8, none⟩) (by simp) _
        · have tb0 : (m k == 0) = false := beq_eq_false_iff_ne.2 (by omega)
          have tb1 : (m k == 1) = true := beq_iff_eq.2 e1x
          have tb2 : (m k == 2) = false := beq_eq_false_iff_ne.2 (by omega)
          have HE : Hid (¬ m k = 0) := lhid (by omega)
          obtain ⟨cn, hcc⟩ : ∃ cn, cn = cnt m 1 := ⟨_, rfl⟩
          have tcn : (cn == 1) = false := beq_eq_false_iff_ne.2 (by rw [hcc]; exact hcn)
          have HCN := lhid hcc
          clear hcc
          have HR : Hid (changeM m k 0 = (upd m k 0, 0)) := by show changeM m k 0 = (upd m k 0, 0); rw [HC.out, if_neg HE.out, if_neg (by omega)]
          clear HC
          try clear hcn
          try clear e0x
          try clear e1x
          try clear e2x
          obtain ⟨g, hg⟩ : ∃ g, g = upd m k 0 := ⟨_, rfl⟩
          have HG := lhid hg
          clear hg
          go_enter Try.func29, Try.ntmps29
          go_upto_region 1 with (fail)
          refine wp_named (fun w' => (ArrAt w' w.heap.size m ∧ ArrAt w' (w.heap.size + 1) zeroM) ∧ Below w.heap.size w w') ?_ ?_
          · exact ⟨⟨(ArrAt.new w m 41 _ rfl).alloc _, ArrAt.new _ zeroM 41 _ (by simp)⟩, ((Below.refl _ _).alloc (Nat.le_refl _) _).alloc (by simp) _⟩
          rintro w1 ⟨⟨HX, HY⟩, HB1⟩
          have cmk := HX.1 k hk
          have c0 := HX.1 0 (by omega)
          have c1 := HX.1 1 (by omega)
          have c2 := HX.1 2 (by omega)
          have c3 := HX.1 3 (by omega)
          have c4 := HX.1 4 (by omega)
          have c5 := HX.1 5 (by omega)
          have c6 := HX.1 6 (by omega)
          have c7 := HX.1 7 (by omega)
          have c8 := HX.1 8 (by omega)
          have HX1 := lhid HX
          have HY1 := lhid HY
          clear HX HY
          go_wp2_with (go_at_call 33; refine (refCount_any m 1 HM.out _).mono ?_; rintro e w3 ⟨rfl, hb3⟩; rw [← HCN.out]; have HX := (HX1.out.below hb3 HX1.out.lt); have HY := (HY1.out.below hb3 HY1.out.lt); have ck3 := HX.1 k hk; have HD : ArrAt (w3.setCell ⟨w.heap.size, k, none⟩ (.int .u8 0)) w.heap.size g := (by rw [HG.out]; exact HX.set k hk 0); have HZ : ArrAt (w3.setCell ⟨w.heap.size, k, none⟩ (.int .u8 0)) (w.heap.size + 1) zeroM := HY.other (by omega) _; have fst_ := HX.2 k hk; have d0 := HD.1 0 (by omega); have d1 := HD.1 1 (by omega); have d2 := HD.1 2 (by omega); have d3 := HD.1 3 (by omega); have d4 := HD.1 4 (by omega); have d5 := HD.1 5 (by omega); have d6 := HD.1 6 (by omega); have d7 := HD.1 7 (by omega); have d8 := HD.1 8 (by omega); have y0 := HZ.1 0 (by omega); have y1 := HZ.1 1 (by omega); have y2 := HZ.1 2 (by omega); have y3 := HZ.1 3 (by omega); have y4 := HZ.1 4 (by omega); have y5 := HZ.1 5 (by omega); have y6 := HZ.1 6 (by omega); have y7 := HZ.1 7 (by omega); have y8 := HZ.1 8 (by omega); have x0 := HZ.2 0 (by omega); have x1 := HZ.2 1 (by omega); have x2 := HZ.2 2 (by omega); have x3 := HZ.2 3 (by omega); have x4 := HZ.2 4 (by omega); have x5 := HZ.2 5 (by omega); have x6 := HZ.2 6 (by omega); have x7 := HZ.2 7 (by omega); have x8 := HZ.2 8 (by omega); clear HD HZ HX HY)
          refine bodyPost_ret (v := .tuple #[.agg #[.int .u8 (g 0), .int .u8 (g 1), .int .u8 (g 2), .int .u8 (g 3), .int .u8 (g 4), .int .u8 (g 5), .int .u8 (g 6), .int .u8 (g 7), .int .u8 (g 8)], .int .i64 0]) (by simp [results, Try.results29, go_sem, y0, y1, y2, y3, y4, y5, y6, y7, y8]) rfl ⟨?_, ?_⟩
          · rw [HR.out, HG.out]
          · have HB := (HB1.trans (hb3.mono HB1.size)).setCell (p := ⟨w.heap.size, k, none⟩) (by simp) (.int .u8 0)
            exact (((((((((HB).setCell (p := ⟨w.heap.size + 1, 0, none⟩) (by simp) _).setCell (p := ⟨w.heap.size + 1, 1, none⟩) (by simp) _).setCell (p := ⟨w.heap.size + 1, 2, none⟩) (by simp) _).setCell (p := ⟨w.heap.size + 1, 3, none⟩) (by simp) _).setCell (p := ⟨w.heap.size + 1, 4, none⟩) (by simp) _).setCell (p := ⟨w.heap.size + 1, 5, none⟩) (by simp) _).setCell (p := ⟨w.heap.size + 1, 6, none⟩) (by simp) _).setCell (p := ⟨w.heap.size + 1, 7, none⟩) (by simp) _).setCell (p := ⟨w.heap.size + 1, 8, none⟩) (by simp) _
      · have tb0 : (m k == 0) = false := beq_eq_false_iff_ne.2 (by omega)
        have tb1 : (m k == 1) = false := beq_eq_false_iff_ne.2 (by omega)
        have HE : Hid (¬ m k = 0) := lhid (by omega)
        have HR : Hid (changeM m k 0 = (upd m k 0, 0)) := by show changeM m k 0 = (upd m k 0, 0); rw [HC.out, if_neg HE.out, if_neg (by omega)]
        clear HC
        try clear e0x
        try clear e1x
        try clear e2x
        obtain ⟨g, hg⟩ : ∃ g, g = upd m k 0 := ⟨_, rfl⟩
        have HG := lhid hg
        clear hg
        go_enter Try.func29, Try.ntmps29
        go_upto_region 1 with (fail)
        refine wp_named (fun w' => (ArrAt w' w.heap.size m ∧ ArrAt w' (w.heap.size + 1) zeroM) ∧ Below w.heap.size w w') ?_ ?_
        · exact ⟨⟨(ArrAt.new w m 41 _ rfl).alloc _, ArrAt.new _ zeroM 41 _ (by simp)⟩, ((Below.refl _ _).alloc (Nat.le_refl _) _).alloc (by simp) _⟩
        rintro w1 ⟨⟨HX, HY⟩, HB1⟩
        have cmk := HX.1 k hk
        have HD : ArrAt (w1.setCell ⟨w.heap.size, k, none⟩ (.int .u8 0)) w.heap.size g := (by rw [HG.out]; exact HX.set k hk 0)
        have HZ : ArrAt (w1.setCell ⟨w.heap.size, k, none⟩ (.int .u8 0)) (w.heap.size + 1) zeroM := HY.other (by omega) _
        have fst_ := HX.2 k hk
        have d0 := HD.1 0 (by omega)
        have d1 := HD.1 1 (by omega)
        have d2 := HD.1 2 (by omega)
        have d3 := HD.1 3 (by omega)
        have d4 := HD.1 4 (by omega)
        have d5 := HD.1 5 (by omega)
        have d6 := HD.1 6 (by omega)
        have d7 := HD.1 7 (by omega)
        have d8 := HD.1 8 (by omega)
        have y0 := HZ.1 0 (by omega)
        have y1 := HZ.1 1 (by omega)
        have y2 := HZ.1 2 (by omega)
        have y3 := HZ.1 3 (by omega)
        have y4 := HZ.1 4 (by omega)
        have y5 := HZ.1 5 (by omega)
        have y6 := HZ.1 6 (by omega)
        have y7 := HZ.1 7 (by omega)
        have y8 := HZ.1 8 (by omega)
        have x0 := HZ.2 0 (by omega)
        have x1 := HZ.2 1 (by omega)
        have x2 := HZ.2 2 (by omega)
        have x3 := HZ.2 3 (by omega)
        have x4 := HZ.2 4 (by omega)
        have x5 := HZ.2 5 (by omega)
        have x6 := HZ.2 6 (by omega)
        have x7 := HZ.2 7 (by omega)
        have x8 := HZ.2 8 (by omega)
        clear HD HZ HX HY
        go_wp2
        refine bodyPost_ret (v := .tuple #[.agg #[.int .u8 (g 0), .int .u8 (g 1), .int .u8 (g 2), .int .u8 (g 3), .int .u8 (g 4), .int .u8 (g 5), .int .u8 (g 6), .int .u8 (g 7), .int .u8 (g 8)], .int .i64 0]) (by simp [results, Try.results29, go_sem, y0, y1, y2, y3, y4, y5, y6, y7, y8]) rfl ⟨?_, ?_⟩
        · rw [HR.out, HG.out]
        · have HB := HB1.setCell (p := ⟨w.heap.size, k, none⟩) (by simp) (.int .u8 0)
          exact (((((((((HB).setCell (p := ⟨w.heap.size + 1, 0, none⟩) (by simp) _).setCell (p := ⟨w.heap.size + 1, 1, none⟩) (by simp) _).setCell (p := ⟨w.heap.size + 1, 2, none⟩) (by simp) _).setCell (p := ⟨w.heap.size + 1, 3, none⟩) (by simp) _).setCell (p := ⟨w.heap.size + 1, 4, none⟩) (by simp) _).setCell (p := ⟨w.heap.size + 1, 5, none⟩) (by simp) _).setCell (p := ⟨w.heap.size + 1, 6, none⟩) (by simp) _).setCell (p := ⟨w.heap.size + 1, 7, none⟩) (by simp) _).setCell (p := ⟨w.heap.size + 1, 8, none⟩) (by simp) _
  · by_cases e0x : m k = 0
    · have tb0 : (m k == 0) = true := beq_iff_eq.2 e0x
      have tb1 : (m k == 1) = false := beq_eq_false_iff_ne.2 (by omega)
      have tb2 : (m k == 2) = false := beq_eq_false_iff_ne.2 (by omega)
      have HE : Hid (¬ m k = 1) := lhid (by omega)
      have HR : Hid (changeM m k 1 = (zeroM, 6)) := by show changeM m k 1 = (zeroM, 6); rw [HC.out, if_neg HE.out, if_pos (by omega)]
      clear HC
      try clear e0x
      try clear e1x
      try clear e2x
      obtain ⟨g, hg⟩ : ∃ g, g = upd m k 1 := ⟨_, rfl⟩
      have HG := lhid hg
      clear hg
      go_enter Try.func29, Try.ntmps29
      go_upto_region 1 with (fail)
      refine wp_named (fun w' => (ArrAt w' w.heap.size m ∧ ArrAt w' (w.heap.size + 1) zeroM) ∧ Below w.heap.size w w') ?_ ?_
      · exact ⟨⟨(ArrAt.new w m 41 _ rfl).alloc _, ArrAt.new _ zeroM 41 _ (by simp)⟩, ((Below.refl _ _).alloc (Nat.le_refl _) _).alloc (by simp) _⟩
      rintro w1 ⟨⟨HX, HY⟩, HB1⟩
      have cmk := HX.1 k hk
      have y0 := HY.1 0 (by omega)
      have y1 := HY.1 1 (by omega)
      have y2 := HY.1 2 (by omega)
      have y3 := HY.1 3 (by omega)
      have y4 := HY.1 4 (by omega)
      have y5 := HY.1 5 (by omega)
      have y6 := HY.1 6 (by omega)
      have y7 := HY.1 7 (by omega)
      have y8 := HY.1 8 (by omega)
      have x0 := HY.2 0 (by omega)
      have x1 := HY.2 1 (by omega)
      have x2 := HY.2 2 (by omega)
      have x3 := HY.2 3 (by omega)
      have x4 := HY.2 4 (by omega)
      have x5 := HY.2 5 (by omega)
      have x6 := HY.2 6 (by omega)
      have x7 := HY.2 7 (by omega)
      have x8 := HY.2 8 (by omega)
      clear HX HY
      go_wp2
      refine bodyPost_ret (v := .tuple #[.agg #[.int .u8 0, .int .u8 0, .int .u8 0, .int .u8 0, .int .u8 0, .int .u8 0, .int .u8 0, .int .u8 0, .int .u8 0], .int .i64 6]) (by simp [results, Try.results29, go_sem, y0, y1, y2, y3, y4, y5, y6, y7, y8]) rfl ⟨?_, ?_⟩
      · rw [HR.out]; rfl
      · have HB := HB1
        exact (((((((((HB).setCell (p := ⟨w.heap.size + 1, 0, none⟩) (by simp) _).setCell (p := ⟨w.heap.size + 1, 1, none⟩) (by simp) _).setCell (p := ⟨w.heap.size + 1, 2, none⟩) (by simp) _).setCell (p := ⟨w.heap.size + 1, 3, none⟩) (by simp) _).setCell (p := ⟨w.heap.size + 1, 4, none⟩) (by simp) _).setCell (p := ⟨w.heap.size + 1, 5, none⟩) (by simp) _).setCell (p := ⟨w.heap.size + 1, 6, none⟩) (by simp) _).setCell (p := ⟨w.heap.size + 1, 7, none⟩) (by simp) _).setCell (p := ⟨w.heap.size + 1, 8, none⟩) (by simp) _
    · by_cases e1x : m k = 1
      · have tb0 : (m k == 0) = false := beq_eq_false_iff_ne.2 (by omega)
        have tb1 : (m k == 1) = true := beq_iff_eq.2 e1x
        have tb2 : (m k == 2) = false := beq_eq_false_iff_ne.2 (by omega)
        have HE : Hid (m k = 1) := lhid (by omega)
        have HR : Hid (changeM m k 1 = (zeroM, 3)) := by show changeM m k 1 = (zeroM, 3); rw [HC.out, if_pos HE.out]
        clear HC
        try clear e0x
        try clear e1x
        try clear e2x
        obtain ⟨g, hg⟩ : ∃ g, g = upd m k 1 := ⟨_, rfl⟩
        have HG := lhid hg
        clear hg
        go_enter Try.func29, Try.ntmps29
        go_upto_region 1 with (fail)
        refine wp_named (fun w' => (ArrAt w' w.heap.size m ∧ ArrAt w' (w.heap.size + 1) zeroM) ∧ Below w.heap.size w w') ?_ ?_
        · exact ⟨⟨(ArrAt.new w m 41 _ rfl).alloc _, ArrAt.new _ zeroM 41 _ (by simp)⟩, ((Below.refl _ _).alloc (Nat.le_refl _) _).alloc (by simp) _⟩
        rintro w1 ⟨⟨HX, HY⟩, HB1⟩
        have cmk := HX.1 k hk
        have y0 := HY.1 0 (by omega)
        have y1 := HY.1 1 (by omega)
        have y2 := HY.1 2 (by omega)
        have y3 := HY.1 3 (by omega)
        have y4 := HY.1 4 (by omega)
        have y5 := HY.1 5 (by omega)
        have y6 := HY.1 6 (by omega)
        have y7 := HY.1 7 (by omega)
        have y8 := HY.1 8 (by omega)
        have x0 := HY.2 0 (by omega)
        have x1 := HY.2 1 (by omega)
        have x2 := HY.2 2 (by omega)
        have x3 := HY.2 3 (by omega)
        have x4 := HY.2 4 (by omega)
        have x5 := HY.2 5 (by omega)
        have x6 := HY.2 6 (by omega)
        have x7 := HY.2 7 (by omega)
        have x8 := HY.2 8 (by omega)
        clear HX HY
        go_wp2
        refine bodyPost_ret (v := .tuple #[.agg #[.int .u8 0, .int .u8 0, .int .u8 0, .int .u8 0, .int .u8 0, .int .u8 0, .int .u8 0, .int .u8 0, .int .u8 0], .int .i64 3]) (by simp [results, Try.results29, go_sem, y0, y1, y2, y3, y4, y5, y6, y7, y8]) rfl ⟨?_, ?_⟩
        · rw [HR.out]; rfl
        · have HB := HB1
          exact (((((((((HB).setCell (p := ⟨w.heap.size + 1, 0, none⟩) (by simp) _).setCell (p := ⟨w.heap.size + 1, 1, none⟩) (by simp) _).setCell (p := ⟨w.heap.size + 1, 2, none⟩) (by simp) _).setCell (p := ⟨w.heap.size + 1, 3, none⟩) (by simp) _).setCell (p := ⟨w.heap.size + 1, 4, none⟩) (by simp) _).setCell (p := ⟨w.heap.size + 1, 5, none⟩) (by simp) _).setCell (p := ⟨w.heap.size + 1, 6, none⟩) (by simp) _).setCell (p := ⟨w.heap.size + 1, 7, none⟩) (by simp) _).setCell (p := ⟨w.heap.size + 1, 8, none⟩) (by simp) _
      · have tb0 : (m k == 0) = false := beq_eq_false_iff_ne.2 (by omega)
        have tb1 : (m k == 1) = false := beq_eq_false_iff_ne.2 (by omega)
        have HE : Hid (¬ m k = 1) := lhid (by omega)
        have HR : Hid (changeM m k 1 = (upd m k 1, 0)) := by show changeM m k 1 = (upd m k 1, 0); rw [HC.out, if_neg HE.out, if_neg (by omega)]
        clear HC
        try clear e0x
        try clear e1x
        try clear e2x
        obtain ⟨g, hg⟩ : ∃ g, g = upd m k 1 := ⟨_, rfl⟩
        have HG := lhid hg
        clear hg
        go_enter Try.func29, Try.ntmps29
        go_upto_region 1 with (fail)
        refine wp_named (fun w' => (ArrAt w' w.heap.size m ∧ ArrAt w' (w.heap.size + 1) zeroM) ∧ Below w.heap.size w w') ?_ ?_
        · exact ⟨⟨(ArrAt.new w m 41 _ rfl).alloc _, ArrAt.new _ zeroM 41 _ (by simp)⟩, ((Below.refl _ _).alloc (Nat.le_refl _) _).alloc (by simp) _⟩
        rintro w1 ⟨⟨HX, HY⟩, HB1⟩
        have cmk := HX.1 k hk
        have HD : ArrAt (w1.setCell ⟨w.heap.size, k, none⟩ (.int .u8 1)) w.heap.size g := (by rw [HG.out]; exact HX.set k hk 1)
        have HZ : ArrAt (w1.setCell ⟨w.heap.size, k, none⟩ (.int .u8 1)) (w.heap.size + 1) zeroM := HY.other (by omega) _
        have fst_ := HX.2 k hk
        have d0 := HD.1 0 (by omega)
        have d1 := HD.1 1 (by omega)
        have d2 := HD.1 2 (by omega)
        have d3 := HD.1 3 (by omega)
        have d4 := HD.1 4 (by omega)
        have d5 := HD.1 5 (by omega)
        have d6 := HD.1 6 (by omega)
        have d7 := HD.1 7 (by omega)
        have d8 := HD.1 8 (by omega)
        have y0 := HZ.1 0 (by omega)
        have y1 := HZ.1 1 (by omega)
        have y2 := HZ.1 2 (by omega)
        have y3 := HZ.1 3 (by omega)
        have y4 := HZ.1 4 (by omega)
        have y5 := HZ.1 5 (by omega)
        have y6 := HZ.1 6 (by omega)
        have y7 := HZ.1 7 (by omega)
        have y8 := HZ.1 8 (by omega)
        have x0 := HZ.2 0 (by omega)
        have x1 := HZ.2 1 (by omega)
        have x2 := HZ.2 2 (by omega)
        have x3 := HZ.2 3 (by omega)
        have x4 := HZ.2 4 (by omega)
        have x5 := HZ.2 5 (by omega)
        have x6 := HZ.2 6 (by omega)
        have x7 := HZ.2 7 (by omega)
        have x8 := HZ.2 8 (by omega)
        clear HD HZ HX HY
        go_wp2
        refine bodyPost_ret (v := .tuple #[.agg #[.int .u8 (g 0), .int .u8 (g 1), .int .u8 (g 2), .int .u8 (g 3), .int .u8 (g 4), .int .u8 (g 5), .int .u8 (g 6), .int .u8 (g 7), .int .u8 (g 8)], .int .i64 0]) (by simp [results, Try.results29, go_sem, y0, y1, y2, y3, y4, y5, y6, y7, y8]) rfl ⟨?_, ?_⟩
        · rw [HR.out, HG.out]
        · have HB := HB1.setCell (p := ⟨w.heap.size, k, none⟩) (by simp) (.int .u8 1)
          exact (((((((((HB).setCell (p := ⟨w.heap.size + 1, 0, none⟩) (by simp) _).setCell (p := ⟨w.heap.size + 1, 1, none⟩) (by simp) _).setCell (p := ⟨w.heap.size + 1, 2, none⟩) (by simp) _).setCell (p := ⟨w.heap.size + 1, 3, none⟩) (by simp) _).setCell (p := ⟨w.heap.size + 1, 4, none⟩) (by simp) _).setCell (p := ⟨w.heap.size + 1, 5, none⟩) (by simp) _).setCell (p := ⟨w.heap.size + 1, 6, none⟩) (by simp) _).setCell (p := ⟨w.heap.size + 1, 7, none⟩) (by simp) _).setCell (p := ⟨w.heap.size + 1, 8, none⟩) (by simp) _
  · by_cases e0x : m k = 0
    · have tb0 : (m k == 0) = true := beq_iff_eq.2 e0x
      have tb1 : (m k == 1) = false := beq_eq_false_iff_ne.2 (by omega)
      have tb2 : (m k == 2) = false := beq_eq_false_iff_ne.2 (by omega)
      have HE : Hid (¬ m k = 2) := lhid (by omega)
      have HR : Hid (changeM m k 2 = (upd m k 2, 0)) := by show changeM m k 2 = (upd m k 2, 0); rw [HC.out, if_neg HE.out, if_neg (by omega)]
      clear HC
      try clear e0x
      try clear e1x
      try clear e2x
      obtain ⟨g, hg⟩ : ∃ g, g = upd m k 2 := ⟨_, rfl⟩
      have HG := lhid hg
      clear hg
      go_enter Try.func29, Try.ntmps29
      go_upto_region 1 with (fail)
      refine wp_named (fun w' => (ArrAt w' w.heap.size m ∧ ArrAt w' (w.heap.size + 1) zeroM) ∧ Below w.heap.size w w') ?_ ?_
      · exact ⟨⟨(ArrAt.new w m 41 _ rfl).alloc _, ArrAt.new _ zeroM 41 _ (by simp)⟩, ((Below.refl _ _).alloc (Nat.le_refl _) _).alloc (by simp) _⟩
      rintro w1 ⟨⟨HX, HY⟩, HB1⟩
      have cmk := HX.1 k hk
      have HD : ArrAt (w1.setCell ⟨w.heap.size, k, none⟩ (.int .u8 2)) w.heap.size g := (by rw [HG.out]; exact HX.set k hk 2)
      have HZ : ArrAt (w1.setCell ⟨w.heap.size, k, none⟩ (.int .u8 2)) (w.heap.size + 1) zeroM := HY.other (by omega) _
      have fst_ := HX.2 k hk
      have d0 := HD.1 0 (by omega)
      have d1 := HD.1 1 (by omega)
      have d2 := HD.1 2 (by omega)
      have d3 := HD.1 3 (by omega)
      have d4 := HD.1 4 (by omega)
      have d5 := HD.1 5 (by omega)
      have d6 := HD.1 6 (by omega)
      have d7 := HD.1 7 (by omega)
      have d8 := HD.1 8 (by omega)
      have y0 := HZ.1 0 (by omega)
      have y1 := HZ.1 1 (by omega)
      have y2 := HZ.1 2 (by omega)
      have y3 := HZ.1 3 (by omega)
      have y4 := HZ.1 4 (by omega)
      have y5 := HZ.1 5 (by omega)
      have y6 := HZ.1 6 (by omega)
      have y7 := HZ.1 7 (by omega)
      have y8 := HZ.1 8 (by omega)
      have x0 := HZ.2 0 (by omega)
      have x1 := HZ.2 1 (by omega)
      have x2 := HZ.2 2 (by omega)
      have x3 := HZ.2 3 (by omega)
      have x4 := HZ.2 4 (by omega)
      have x5 := HZ.2 5 (by omega)
      have x6 := HZ.2 6 (by omega)
      have x7 := HZ.2 7 (by omega)
      have x8 := HZ.2 8 (by omega)
      clear HD HZ HX HY
      go_wp2
      refine bodyPost_ret (v := .tuple #[.agg #[.int .u8 (g 0), .int .u8 (g 1), .int .u8 (g 2), .int .u8 (g 3), .int .u8 (g 4), .int .u8 (g 5), .int .u8 (g 6), .int .u8 (g 7), .int .u8 (g 8)], .int .i64 0]) (by simp [results, Try.results29, go_sem, y0, y1, y2, y3, y4, y5, y6, y7, y8]) rfl ⟨?_, ?_⟩
      · rw [HR.out, HG.out]
      · have HB := HB1.setCell (p := ⟨w.heap.size, k, none⟩) (by simp) (.int .u8 2)
        exact (((((((((HB).setCell (p := ⟨w.heap.size + 1, 0, none⟩) (by simp) _).setCell (p := ⟨w.heap.size + 1, 1, none⟩) (by simp) _).setCell (p := ⟨w.heap.size + 1, 2, none⟩) (by simp) _).setCell (p := ⟨w.heap.size + 1, 3, none⟩) (by simp) _).setCell (p := ⟨w.heap.size + 1, 4, none⟩) (by simp) _).setCell (p := ⟨w.heap.size + 1, 5, none⟩) (by simp) _).setCell (p := ⟨w.heap.size + 1, 6, none⟩) (by simp) _).setCell (p := ⟨w.heap.size + 1, 7, none⟩) (by simp) _).setCell (p := ⟨w.heap.size + 1, 8, none⟩) (by simp) _
    · by_cases e1x : m k = 1
      · have tb0 : (m k == 0) = false := beq_eq_false_iff_ne.2 (by omega)
        have tb1 : (m k == 1) = true := beq_iff_eq.2 e1x
        have tb2 : (m k == 2) = false := beq_eq_false_iff_ne.2 (by omega)
        have HE : Hid (¬ m k = 2) := lhid (by omega)
        have HR : Hid (changeM m k 2 = (zeroM, 6)) := by show changeM m k 2 = (zeroM, 6); rw [HC.out, if_neg HE.out, if_pos (by omega)]
        clear HC
        try clear e0x
        try clear e1x
        try clear e2x
        obtain ⟨g, hg⟩ : ∃ g, g = upd m k 2 := ⟨_, rfl⟩
        have HG := lhid hg
        clear hg
        go_enter Try.func29, Try.ntmps29
        go_upto_region 1 with (fail)
        refine wp_named (fun w' => (ArrAt w' w.heap.size m ∧ ArrAt w' (w.heap.size + 1) zeroM) ∧ Below w.heap.size w w') ?_ ?_
        · exact ⟨⟨(ArrAt.new w m 41 _ rfl).alloc _, ArrAt.new _ zeroM 41 _ (by simp)⟩, ((Below.refl _ _).alloc (Nat.le_refl _) _).alloc (by simp) _⟩
        rintro w1 ⟨⟨HX, HY⟩, HB1⟩
        have cmk := HX.1 k hk
        have y0 := HY.1 0 (by omega)
        have y1 := HY.1 1 (by omega)
        have y2 := HY.1 2 (by omega)
        have y3 := HY.1 3 (by omega)
        have y4 := HY.1 4 (by omega)
        have y5 := HY.1 5 (by omega)
        have y6 := HY.1 6 (by omega)
        have y7 := HY.1 7 (by omega)
        have y8 := HY.1 8 (by omega)
        have x0 := HY.2 0 (by omega)
        have x1 := HY.2 1 (by omega)
        have x2 := HY.2 2 (by omega)
        have x3 := HY.2 3 (by omega)
        have x4 := HY.2 4 (by omega)
        have x5 := HY.2 5 (by omega)
        have x6 := HY.2 6 (by omega)
        have x7 := HY.2 7 (by omega)
        have x8 := HY.2 8 (by omega)
        clear HX HY
        go_wp2
        refine bodyPost_ret (v := .tuple #[.agg #[.int .u8 0, .int .u8 0, .int .u8 0, .int .u8 0, .int .u8 0, .int .u8 0, .int .u8 0, .int .u8 0, .int .u8 0], .int .i64 6]) (by simp [results, Try.results29, go_sem, y0, y1, y2, y3, y4, y5, y6, y7, y8]) rfl ⟨?_, ?_⟩
        · rw [HR.out]; rfl
        · have HB := HB1
          exact (((((((((HB).setCell (p := ⟨w.heap.size + 1, 0, none⟩) (by simp) _).setCell (p := ⟨w.heap.size + 1, 1, none⟩) (by simp) _).setCell (p := ⟨w.heap.size + 1, 2, none⟩) (by simp) _).setCell (p := ⟨w.heap.size + 1, 3, none⟩) (by simp) _).setCell (p := ⟨w.heap.size + 1, 4, none⟩) (by simp) _).setCell (p := ⟨w.heap.size + 1, 5, none⟩) (by simp) _).setCell (p := ⟨w.heap.size + 1, 6, none⟩) (by simp) _).setCell (p := ⟨w.heap.size + 1, 7, none⟩) (by simp) _).setCell (p := ⟨w.heap.size + 1, 8, none⟩) (by simp) _
      · by_cases e2x : m k = 2
        · have tb0 : (m k == 0) = false := beq_eq_false_iff_ne.2 (by omega)
          have tb1 : (m k == 1) = false := beq_eq_false_iff_ne.2 (by omega)
          have tb2 : (m k == 2) = true := beq_iff_eq.2 e2x
          have HE : Hid (m k = 2) := lhid (by omega)
          have HR : Hid (changeM m k 2 = (zeroM, 3)) := by show changeM m k 2 = (zeroM, 3); rw [HC.out, if_pos HE.out]
          clear HC
          try clear e0x
          try clear e1x
          try clear e2x
          obtain ⟨g, hg⟩ : ∃ g, g = upd m k 2 := ⟨_, rfl⟩
          have HG := lhid hg
          clear hg
          go_enter Try.func29, Try.ntmps29
          go_upto_region 1 with (fail)
          refine wp_named (fun w' => (ArrAt w' w.heap.size m ∧ ArrAt w' (w.heap.size + 1) zeroM) ∧ Below w.heap.size w w') ?_ ?_
          · exact ⟨⟨(ArrAt.new w m 41 _ rfl).alloc _, ArrAt.new _ zeroM 41 _ (by simp)⟩, ((Below.refl _ _).alloc (Nat.le_refl _) _).alloc (by simp) _⟩
          rintro w1 ⟨⟨HX, HY⟩, HB1⟩
          have cmk := HX.1 k hk
          have y0 := HY.1 0 (by omega)
          have y1 := HY.1 1 (by omega)
          have y2 := HY.1 2 (by omega)
          have y3 := HY.1 3 (by omega)
          have y4 := HY.1 4 (by omega)
          have y5 := HY.1 5 (by omega)
          have y6 := HY.1 6 (by omega)
          have y7 := HY.1 7 (by omega)
          have y8 := HY.1 8 (by omega)
          have x0 := HY.2 0 (by omega)
          have x1 := HY.2 1 (by omega)
          have x2 := HY.2 2 (by omega)
          have x3 := HY.2 3 (by omega)
          have x4 := HY.2 4 (by omega)
          have x5 := HY.2 5 (by omega)
          have x6 := HY.2 6 (by omega)
          have x7 := HY.2 7 (by omega)
          have x8 := HY.2 8 (by omega)
          clear HX HY
          go_wp2
          refine bodyPost_ret (v := .tuple #[.agg #[.int .u8 0, .int .u8 0, .int .u8 0, .int .u8 0, .int .u8 0, .int .u8 0, .int .u8 0, .int .u8 0, .int .u8 0], .int .i64 3]) (by simp [results, Try.results29, go_sem, y0, y1, y2, y3, y4, y5, y6, y7, y8]) rfl ⟨?_, ?_⟩
          · rw [HR.out]; rfl
          · have HB := HB1
            exact (((((((((HB).setCell (p := ⟨w.heap.size + 1, 0, none⟩) (by simp) _).setCell (p := ⟨w.heap.size + 1, 1, none⟩) (by simp) _).setCell (p := ⟨w.heap.size + 1, 2, none⟩) (by simp) _).setCell (p := ⟨w.heap.size + 1, 3, none⟩) (by simp) _).setCell (p := ⟨w.heap.size + 1, 4, none⟩) (by simp) _).setCell (p := ⟨w.heap.size + 1, 5, none⟩) (by simp) _).setCell (p := ⟨w.heap.size + 1, 6, none⟩) (by simp) _).setCell (p := ⟨w.heap.size + 1, 7, none⟩) (by simp) _).setCell (p := ⟨w.heap.size + 1, 8, none⟩) (by simp) _
        · have tb0 : (m k == 0) = false := beq_eq_false_iff_ne.2 (by omega)
          have tb1 : (m k == 1) = false := beq_eq_false_iff_ne.2 (by omega)
          have tb2 : (m k == 2) = false := beq_eq_false_iff_ne.2 e2x
          have HE : Hid (¬ m k = 2) := lhid (by omega)
          have HR : Hid (changeM m k 2 = (upd m k 2, 0)) := by show changeM m k 2 = (upd m k 2, 0); rw [HC.out, if_neg HE.out, if_neg (by omega)]
          clear HC
          try clear e0x
          try clear e1x
          try clear e2x
          obtain ⟨g, hg⟩ : ∃ g, g = upd m k 2 := ⟨_, rfl⟩
          have HG := lhid hg
          clear hg
          go_enter Try.func29, Try.ntmps29
          go_upto_region 1 with (fail)
          refine wp_named (fun w' => (ArrAt w' w.heap.size m ∧ ArrAt w' (w.heap.size + 1) zeroM) ∧ Below w.heap.size w w') ?_ ?_
          · exact ⟨⟨(ArrAt.new w m 41 _ rfl).alloc _, ArrAt.new _ zeroM 41 _ (by simp)⟩, ((Below.refl _ _).alloc (Nat.le_refl _) _).alloc (by simp) _⟩
          rintro w1 ⟨⟨HX, HY⟩, HB1⟩
          have cmk := HX.1 k hk
          have HD : ArrAt (w1.setCell ⟨w.heap.size, k, none⟩ (.int .u8 2)) w.heap.size g := (by rw [HG.out]; exact HX.set k hk 2)
          have HZ : ArrAt (w1.setCell ⟨w.heap.size, k, none⟩ (.int .u8 2)) (w.heap.size + 1) zeroM := HY.other (by omega) _
          have fst_ := HX.2 k hk
          have d0 := HD.1 0 (by omega)
          have d1 := HD.1 1 (by omega)
          have d2 := HD.1 2 (by omega)
          have d3 := HD.1 3 (by omega)
          have d4 := HD.1 4 (by omega)
          have d5 := HD.1 5 (by omega)
          have d6 := HD.1 6 (by omega)
          have d7 := HD.1 7 (by omega)
          have d8 := HD.1 8 (by omega)
          have y0 := HZ.1 0 (by omega)
          have y1 := HZ.1 1 (by omega)
          have y2 := HZ.1 2 (by omega)
          have y3 := HZ.1 3 (by omega)
          have y4 := HZ.1 4 (by omega)
          have y5 := HZ.1 5 (by omega)
          have y6 := HZ.1 6 (by omega)
          have y7 := HZ.1 7 (by omega)
          have y8 := HZ.1 8 (by omega)
          have x0 := HZ.2 0 (by omega)
          have x1 := HZ.2 1 (by omega)
          have x2 := HZ.2 2 (by omega)
          have x3 := HZ.2 3 (by omega)
          have x4 := HZ.2 4 (by omega)
          have x5 := HZ.2 5 (by omega)
          have x6 := HZ.2 6 (by omega)
          have x7 := HZ.2 7 (by omega)
          have x8 := HZ.2 8 (by omega)
          clear HD HZ HX HY
          go_wp2
          refine bodyPost_ret (v := .tuple #[.agg #[.int .u8 (g 0), .int .u8 (g 1), .int .u8 (g 2), .int .u8 (g 3), .int .u8 (g 4), .int .u8 (g 5), .int .u8 (g 6), .int .u8 (g 7), .int .u8 (g 8)], .int .i64 0]) (by simp [results, Try.results29, go_sem, y0, y1, y2, y3, y4, y5, y6, y7, y8]) rfl ⟨?_, ?_⟩
          · rw [HR.out, HG.out]
          · have HB := HB1.setCell (p := ⟨w.heap.size, k, none⟩) (by simp) (.int .u8 2)
            exact (((((((((HB).setCell (p := ⟨w.heap.size + 1, 0, none⟩) (by simp) _).setCell (p := ⟨w.heap.size + 1, 1, none⟩) (by simp) _).setCell (p := ⟨w.heap.size + 1, 2, none⟩) (by simp) _).setCell (p := ⟨w.heap.size + 1, 3, none⟩) (by simp) _).setCell (p := ⟨w.heap.size + 1, 4, none⟩) (by simp) _).setCell (p := ⟨w.heap.size + 1, 5, none⟩) (by simp) _).setCell (p := ⟨w.heap.size + 1, 6, none⟩) (by simp) _).setCell (p := ⟨w.heap.size + 1, 7, none⟩) (by simp) _).setCell (p := ⟨w.heap.size + 1, 8, none⟩) (by simp) _

theorem refChange_any (m : Nat → Int) (hm : ∀ k, k < 9 → 0 ≤ m k ∧ m k ≤ 255) (node role : Int) (w : World) :
    Calls Try.prog 29 #[.agg #[.int .u8 (m 0), .int .u8 (m 1), .int .u8 (m 2), .int .u8 (m 3), .int .u8 (m 4), .int .u8 (m 5), .int .u8 (m 6), .int .u8 (m 7), .int .u8 (m 8)], .int .i64 node, .int .i64 role] w fun e w' => e = .returned (.tuple #[.agg #[.int .u8 ((changeM m node role).1 0), .int .u8 ((changeM m node role).1 1), .int .u8 ((changeM m node role).1 2), .int .u8 ((changeM m node role).1 3), .int .u8 ((changeM m node role).1 4), .int .u8 ((changeM m node role).1 5), .int .u8 ((changeM m node role).1 6), .int .u8 ((changeM m node role).1 7), .int .u8 ((changeM m node role).1 8)], .int .i64 (changeM m node role).2]) ∧ Below w.heap.size w w' := by
  by_cases h : node < 0 ∨ 9 ≤ node ∨ role < 0 ∨ 2 < role
  · exact refChange_out m node role w (by omega)
  · obtain ⟨k, rfl⟩ : ∃ k : Nat, node = k := ⟨node.toNat, by omega⟩
    exact refChange_in m hm k role (by omega) (by omega) (by omega) w

end Go.Proofs.Ytccopcbemflemaa
