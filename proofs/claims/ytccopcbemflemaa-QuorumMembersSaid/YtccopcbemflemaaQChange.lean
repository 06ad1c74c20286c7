/-
  quorum.Change.
-/
import Derived.Test.YtccopcbemflemaaQMost
import Derived.Test.YtccopcbemflemaaQPlain
import Derived.Test.YtccopcbemflemaaArrEq
import Derived.Deep.Cut
namespace Go.Proofs.Ytccopcbemflemaa
open Go Go.RowKit Go.Shelf

/-- What a change makes of members; an error's number. -/
def changeM (m : Nat → Int) (node role : Int) : (Nat → Int) × Int :=
  if node < 0 ∨ 9 ≤ node ∨ role < 0 ∨ 2 < role then (zeroM, 1)
  else if m node.toNat = role then (zeroM, 3)
  else if (m node.toNat = 0 ∧ role = 1) ∨ (m node.toNat = 1 ∧ role = 2) ∨ (m node.toNat = 1 ∧ cnt m 1 = 1) then (zeroM, 6)
  else (upd m node.toNat role, 0)
theorem changeM_out {m : Nat → Int} {node role : Int} (h : node < 0 ∨ 9 ≤ node ∨ role < 0 ∨ 2 < role) : changeM m node role = (zeroM, 1) := if_pos h
theorem changeM_in {m : Nat → Int} {k : Nat} {role : Int} (hk : k < 9) (h0 : 0 ≤ role) (h2 : role ≤ 2) : changeM m k role =
    if m k = role then (zeroM, 3) else if (m k = 0 ∧ role = 1) ∨ (m k = 1 ∧ role = 2) ∨ (m k = 1 ∧ cnt m 1 = 1) then (zeroM, 6) else (upd m k role, 0) := by
  unfold changeM
  rw [if_neg (by omega)]
  simp
theorem allEq_upd_same {m : Nat → Int} {k : Nat} {r : Int} (h : m k = r) : allEq (upd m k r) m = true := by
  rw [allEq_iff]
  intro i _
  unfold upd
  split
  · rename_i e; subst e; exact h.symm
  · rfl
theorem allEq_upd_other {m : Nat → Int} {k : Nat} {r : Int} (hk : k < 9) (h : ¬ m k = r) : allEq (upd m k r) m = false := by
  cases e : allEq (upd m k r) m
  · rfl
  · rw [allEq_iff] at e
    have := e k hk
    simp [upd] at this
    exact absurd this.symm h

set_option maxRecDepth 100000 in
set_option maxHeartbeats 1000000 in
theorem change_out (m : Nat → Int) (node role : Int) (w : World) (h : node < 0 ∨ (0 ≤ node ∧ 9 ≤ node) ∨ ((0 ≤ node ∧ node < 9) ∧ role < 0) ∨ ((0 ≤ node ∧ node < 9) ∧ 0 ≤ role ∧ 2 < role)) :
    Calls Try.prog 24 #[.agg #[.int .u8 (m 0), .int .u8 (m 1), .int .u8 (m 2), .int .u8 (m 3), .int .u8 (m 4), .int .u8 (m 5), .int .u8 (m 6), .int .u8 (m 7), .int .u8 (m 8)], .int .i64 node, .int .i64 role] w fun e w' => e = .returned (.tuple #[.agg #[.int .u8 ((changeM m node role).1 0), .int .u8 ((changeM m node role).1 1), .int .u8 ((changeM m node role).1 2), .int .u8 ((changeM m node role).1 3), .int .u8 ((changeM m node role).1 4), .int .u8 ((changeM m node role).1 5), .int .u8 ((changeM m node role).1 6), .int .u8 ((changeM m node role).1 7), .int .u8 ((changeM m node role).1 8)], .int .i64 (changeM m node role).2]) ∧ Below w.heap.size w w' := by
  have hc : Hid (changeM m node role = (zeroM, 1)) := changeM_out (by omega)
  rcases h with h | ⟨h0, h⟩ | ⟨⟨h0, h1⟩, h⟩ | ⟨⟨h0, h1⟩, h2, h⟩
  all_goals
    go_enter Try.func24, Try.ntmps24
    go_wp2
    refine bodyPost_ret (v := .tuple #[.agg #[.int .u8 0, .int .u8 0, .int .u8 0, .int .u8 0, .int .u8 0, .int .u8 0, .int .u8 0, .int .u8 0, .int .u8 0], .int .i64 1]) (by simp [results, Try.results24, go_sem]) rfl ⟨?_, ?_⟩
    · rw [hc.out]; rfl
    · exact ((Below.refl _ _).alloc (Nat.le_refl _) _).alloc (by simp) _

set_option maxRecDepth 100000 in
set_option maxHeartbeats 2000000 in
theorem change_in (m : Nat → Int) (hm : ∀ k, k < 9 → 0 ≤ m k ∧ m k ≤ 255) (k : Nat) (role : Int) (hk : k < 9) (h0 : 0 ≤ role) (h2 : role ≤ 2) (w : World) :
    Calls Try.prog 24 #[.agg #[.int .u8 (m 0), .int .u8 (m 1), .int .u8 (m 2), .int .u8 (m 3), .int .u8 (m 4), .int .u8 (m 5), .int .u8 (m 6), .int .u8 (m 7), .int .u8 (m 8)], .int .i64 k, .int .i64 role] w fun e w' => e = .returned (.tuple #[.agg #[.int .u8 ((changeM m k role).1 0), .int .u8 ((changeM m k role).1 1), .int .u8 ((changeM m k role).1 2), .int .u8 ((changeM m k role).1 3), .int .u8 ((changeM m k role).1 4), .int .u8 ((changeM m k role).1 5), .int .u8 ((changeM m k role).1 6), .int .u8 ((changeM m k role).1 7), .int .u8 ((changeM m k role).1 8)], .int .i64 (changeM m k role).2]) ∧ Below w.heap.size w w' := by
  have HM := lhid hm
  clear hm
  have hmk0 := (HM.out k hk).1
  have hmk1 := (HM.out k hk).2
  have HC := lhid (changeM_in (m := m) hk h0 h2)
  rcases (show role = 0 ∨ role = 1 ∨ role = 2 by omega) with rfl | rfl | rfl
  · by_cases e0x : m k = 0
    · have tb0 : (m k == 0) = true := beq_iff_eq.2 e0x
      have tb1 : (m k == 1) = false := beq_eq_false_iff_ne.2 (by omega)
      have HE : Hid (m k = 0) := lhid (by omega)
      have HR : Hid (changeM m k 0 = (zeroM, 3)) := by show changeM m k 0 = (zeroM, 3); rw [HC.out, if_pos HE.out]
      clear HC
      clear e0x
      obtain ⟨g, hg⟩ : ∃ g, g = upd m k 0 := ⟨_, rfl⟩
      have HG := lhid hg
      have hq : ∀ X, (binOp .eql 42 (.agg #[.int .u8 (g 0), .int .u8 (g 1), .int .u8 (g 2), .int .u8 (g 3), .int .u8 (g 4), .int .u8 (g 5), .int .u8 (g 6), .int .u8 (g 7), .int .u8 (g 8)]) (.agg #[.int .u8 (m 0), .int .u8 (m 1), .int .u8 (m 2), .int .u8 (m 3), .int .u8 (m 4), .int .u8 (m 5), .int .u8 (m 6), .int .u8 (m 7), .int .u8 (m 8)])).run Try.prog X = .ok (.bool true) X := fun X => by rw [eql_arr 42 Try.underlying42 g m X, hg, allEq_upd_same HE.out]
      clear hg
      go_enter Try.func24, Try.ntmps24
      go_upto_region 4 with (fail)
      refine wp_named (fun w' => (ArrAt w' w.heap.size m ∧ ArrAt w' (w.heap.size + 1) zeroM) ∧ ArrAt w' (w.heap.size + 1 + 1) m ∧ Below w.heap.size w w') ?_ ?_
      · exact ⟨⟨((ArrAt.new w m 42 _ rfl).alloc _).alloc _, (ArrAt.new _ zeroM 42 _ (by simp)).alloc _⟩, ArrAt.new _ m 42 _ (by simp), (((Below.refl _ _).alloc (Nat.le_refl _) _).alloc (by simp) _).alloc (by simp; omega) _⟩
      rintro w1 ⟨⟨hM1, hZ1⟩, hX1, HB1⟩
      have cst := hX1.1 k hk
      have fst_ := hX1.2 k hk
      have cmk := hM1.1 k hk
      have HD : ArrAt (w1.setCell ⟨w.heap.size + 1 + 1, k, none⟩ (.int .u8 0)) (w.heap.size + 1 + 1) g := by rw [HG.out]; exact hX1.set k hk 0
      have HM2 : ArrAt (w1.setCell ⟨w.heap.size + 1 + 1, k, none⟩ (.int .u8 0)) w.heap.size m := hM1.other (by omega) _
      have HZ : ArrAt (w1.setCell ⟨w.heap.size + 1 + 1, k, none⟩ (.int .u8 0)) (w.heap.size + 1) zeroM := hZ1.other (by omega) _
      have cmk2 := HM2.1 k hk
      have d0 := HD.1 0 (by omega)
      have d1 := HD.1 1 (by omega)
      have d2 := HD.1 2 (by omega)
      have d3 := HD.1 3 (by omega)
      have d4 := HD.1 4 (by omega)
      have d5 := HD.1 5 (by omega)
      have d6 := HD.1 6 (by omega)
      have d7 := HD.1 7 (by omega)
      have d8 := HD.1 8 (by omega)
      have e0 := HM2.1 0 (by omega)
      have e1 := HM2.1 1 (by omega)
      have e2 := HM2.1 2 (by omega)
      have e3 := HM2.1 3 (by omega)
      have e4 := HM2.1 4 (by omega)
      have e5 := HM2.1 5 (by omega)
      have e6 := HM2.1 6 (by omega)
      have e7 := HM2.1 7 (by omega)
      have e8 := HM2.1 8 (by omega)
      have y0 := HZ.1 0 (by omega)
      have x0 := HZ.2 0 (by omega)
      have y1 := HZ.1 1 (by omega)
      have x1 := HZ.2 1 (by omega)
      have y2 := HZ.1 2 (by omega)
      have x2 := HZ.2 2 (by omega)
      have y3 := HZ.1 3 (by omega)
      have x3 := HZ.2 3 (by omega)
      have y4 := HZ.1 4 (by omega)
      have x4 := HZ.2 4 (by omega)
      have y5 := HZ.1 5 (by omega)
      have x5 := HZ.2 5 (by omega)
      have y6 := HZ.1 6 (by omega)
      have x6 := HZ.2 6 (by omega)
      have y7 := HZ.1 7 (by omega)
      have x7 := HZ.2 7 (by omega)
      have y8 := HZ.1 8 (by omega)
      have x8 := HZ.2 8 (by omega)
      have HZ2 := lhid HZ
      have HD2 := lhid HD
      clear HD HM2 HZ hM1 hZ1 hX1
      go_wp2
      refine bodyPost_ret (v := .tuple #[.agg #[.int .u8 0, .int .u8 0, .int .u8 0, .int .u8 0, .int .u8 0, .int .u8 0, .int .u8 0, .int .u8 0, .int .u8 0], .int .i64 3]) (by simp [results, Try.results24, go_sem, y0, y1, y2, y3, y4, y5, y6, y7, y8]) rfl ⟨?_, ?_⟩
      · rw [HR.out]; rfl
      · have HB := HB1.setCell (p := ⟨w.heap.size + 1 + 1, k, none⟩) (by simp; omega) (.int .u8 0)
        exact (((((((((HB).setCell (p := ⟨w.heap.size + 1, 0, none⟩) (by simp) _).setCell (p := ⟨w.heap.size + 1, 1, none⟩) (by simp) _).setCell (p := ⟨w.heap.size + 1, 2, none⟩) (by simp) _).setCell (p := ⟨w.heap.size + 1, 3, none⟩) (by simp) _).setCell (p := ⟨w.heap.size + 1, 4, none⟩) (by simp) _).setCell (p := ⟨w.heap.size + 1, 5, none⟩) (by simp) _).setCell (p := ⟨w.heap.size + 1, 6, none⟩) (by simp) _).setCell (p := ⟨w.heap.size + 1, 7, none⟩) (by simp) _).setCell (p := ⟨w.heap.size + 1, 8, none⟩) (by simp) _
    · by_cases e1x : m k = 1
      · by_cases hcn : cnt m 1 = 1
        · have tb0 : (m k == 0) = false := beq_eq_false_iff_ne.2 (by omega)
          have tb1 : (m k == 1) = true := beq_iff_eq.2 e1x
          have HE : Hid (¬ m k = 0) := lhid (by omega)
          have HCN : Hid (1 = cnt m 1) := lhid hcn.symm
          have HR : Hid (changeM m k 0 = (zeroM, 6)) := by show changeM m k 0 = (zeroM, 6); rw [HC.out, if_neg HE.out, if_pos (by omega)]
          clear HC
          clear e1x
          obtain ⟨g, hg⟩ : ∃ g, g = upd m k 0 := ⟨_, rfl⟩
          have HG := lhid hg
          have hq : ∀ X, (binOp .eql 42 (.agg #[.int .u8 (g 0), .int .u8 (g 1), .int .u8 (g 2), .int .u8 (g 3), .int .u8 (g 4), .int .u8 (g 5), .int .u8 (g 6), .int .u8 (g 7), .int .u8 (g 8)]) (.agg #[.int .u8 (m 0), .int .u8 (m 1), .int .u8 (m 2), .int .u8 (m 3), .int .u8 (m 4), .int .u8 (m 5), .int .u8 (m 6), .int .u8 (m 7), .int .u8 (m 8)])).run Try.prog X = .ok (.bool false) X := fun X => by rw [eql_arr 42 Try.underlying42 g m X, hg, allEq_upd_other hk HE.out]
          clear hg
          go_enter Try.func24, Try.ntmps24
          go_upto_region 4 with (fail)
          refine wp_named (fun w' => (ArrAt w' w.heap.size m ∧ ArrAt w' (w.heap.size + 1) zeroM) ∧ ArrAt w' (w.heap.size + 1 + 1) m ∧ Below w.heap.size w w') ?_ ?_
          · exact ⟨⟨((ArrAt.new w m 42 _ rfl).alloc _).alloc _, (ArrAt.new _ zeroM 42 _ (by simp)).alloc _⟩, ArrAt.new _ m 42 _ (by simp), (((Below.refl _ _).alloc (Nat.le_refl _) _).alloc (by simp) _).alloc (by simp; omega) _⟩
          rintro w1 ⟨⟨hM1, hZ1⟩, hX1, HB1⟩
          have cst := hX1.1 k hk
          have fst_ := hX1.2 k hk
          have cmk := hM1.1 k hk
          have HD : ArrAt (w1.setCell ⟨w.heap.size + 1 + 1, k, none⟩ (.int .u8 0)) (w.heap.size + 1 + 1) g := by rw [HG.out]; exact hX1.set k hk 0
          have HM2 : ArrAt (w1.setCell ⟨w.heap.size + 1 + 1, k, none⟩ (.int .u8 0)) w.heap.size m := hM1.other (by omega) _
          have HZ : ArrAt (w1.setCell ⟨w.heap.size + 1 + 1, k, none⟩ (.int .u8 0)) (w.heap.size + 1) zeroM := hZ1.other (by omega) _
          have cmk2 := HM2.1 k hk
          have d0 := HD.1 0 (by omega)
          have d1 := HD.1 1 (by omega)
          have d2 := HD.1 2 (by omega)
          have d3 := HD.1 3 (by omega)
          have d4 := HD.1 4 (by omega)
          have d5 := HD.1 5 (by omega)
          have d6 := HD.1 6 (by omega)
          have d7 := HD.1 7 (by omega)
          have d8 := HD.1 8 (by omega)
          have e0 := HM2.1 0 (by omega)
          have e1 := HM2.1 1 (by omega)
          have e2 := HM2.1 2 (by omega)
          have e3 := HM2.1 3 (by omega)
          have e4 := HM2.1 4 (by omega)
          have e5 := HM2.1 5 (by omega)
          have e6 := HM2.1 6 (by omega)
          have e7 := HM2.1 7 (by omega)
          have e8 := HM2.1 8 (by omega)
          have y0 := HZ.1 0 (by omega)
          have x0 := HZ.2 0 (by omega)
          have y1 := HZ.1 1 (by omega)
          have x1 := HZ.2 1 (by omega)
          have y2 := HZ.1 2 (by omega)
          have x2 := HZ.2 2 (by omega)
          have y3 := HZ.1 3 (by omega)
          have x3 := HZ.2 3 (by omega)
          have y4 := HZ.1 4 (by omega)
          have x4 := HZ.2 4 (by omega)
          have y5 := HZ.1 5 (by omega)
          have x5 := HZ.2 5 (by omega)
          have y6 := HZ.1 6 (by omega)
          have x6 := HZ.2 6 (by omega)
          have y7 := HZ.1 7 (by omega)
          have x7 := HZ.2 7 (by omega)
          have y8 := HZ.1 8 (by omega)
          have x8 := HZ.2 8 (by omega)
          have HZ2 := lhid HZ
          have HD2 := lhid HD
          clear HD HM2 HZ hM1 hZ1 hX1
          go_wp2_with (go_at_call 32; refine (count_any m 1 HM.out _).mono ?_; rintro e w3 ⟨rfl, hb3⟩; rw [← HCN.out]; have hc3 := (bcell hb3).1; have hlw3 : w1.heap.size ≤ w3.heap.size := (by have := hb3.size; simpa [World.setCell] using this); have HZ := (HZ2.out.below hb3 HZ2.out.lt); have z0 := HZ.1 0 (by omega); have v0 := HZ.2 0 (by omega); have z1 := HZ.1 1 (by omega); have v1 := HZ.2 1 (by omega); have z2 := HZ.1 2 (by omega); have v2 := HZ.2 2 (by omega); have z3 := HZ.1 3 (by omega); have v3 := HZ.2 3 (by omega); have z4 := HZ.1 4 (by omega); have v4 := HZ.2 4 (by omega); have z5 := HZ.1 5 (by omega); have v5 := HZ.2 5 (by omega); have z6 := HZ.1 6 (by omega); have v6 := HZ.2 6 (by omega); have z7 := HZ.1 7 (by omega); have v7 := HZ.2 7 (by omega); have z8 := HZ.1 8 (by omega); have v8 := HZ.2 8 (by omega); have HD := (HD2.out.below hb3 HD2.out.lt); have u0 := HD.1 0 (by omega); have u1 := HD.1 1 (by omega); have u2 := HD.1 2 (by omega); have u3 := HD.1 3 (by omega); have u4 := HD.1 4 (by omega); have u5 := HD.1 5 (by omega); have u6 := HD.1 6 (by omega); have u7 := HD.1 7 (by omega); have u8 := HD.1 8 (by omega); clear HZ HD)
          refine bodyPost_ret (v := .tuple #[.agg #[.int .u8 0, .int .u8 0, .int .u8 0, .int .u8 0, .int .u8 0, .int .u8 0, .int .u8 0, .int .u8 0, .int .u8 0], .int .i64 6]) (by simp [results, Try.results24, go_sem, z0, z1, z2, z3, z4, z5, z6, z7, z8]) rfl ⟨?_, ?_⟩
          · rw [HR.out]; rfl
          · have HB : Below w.heap.size w w3 := (HB1.setCell (p := ⟨w.heap.size + 1 + 1, k, none⟩) (by simp; omega) _).trans (hb3.mono (by simp [World.setCell]; have := HB1.size; omega))
            exact (((((((((HB).setCell (p := ⟨w.heap.size + 1, 0, none⟩) (by simp) _).setCell (p := ⟨w.heap.size + 1, 1, none⟩) (by simp) _).setCell (p := ⟨w.heap.size + 1, 2, none⟩) (by simp) _).setCell (p := ⟨w.heap.size + 1, 3, none⟩) (by simp) _).setCell (p := ⟨w.heap.size + 1, 4, none⟩) (by simp) _).setCell (p := ⟨w.heap.size + 1, 5, none⟩) (by simp) _).setCell (p := ⟨w.heap.size + 1, 6, none⟩) (by simp) _).setCell (p := ⟨w.heap.size + 1, 7, none⟩) (by simp) _).setCell (p := ⟨w.heap.size + 1, 8, none⟩) (by simp) _
        · have tb0 : (m k == 0) = false := beq_eq_false_iff_ne.2 (by omega)
          have tb1 : (m k == 1) = true := beq_iff_eq.2 e1x
          have HE : Hid (¬ m k = 0) := lhid (by omega)
          obtain ⟨cn, hcc⟩ : ∃ cn, cn = cnt m 1 := ⟨_, rfl⟩
          have tcn : (cn == 1) = false := beq_eq_false_iff_ne.2 (by rw [hcc]; exact hcn)
          have HCN := lhid hcc
          clear hcc
          have HR : Hid (changeM m k 0 = (upd m k 0, 0)) := by show changeM m k 0 = (upd m k 0, 0); rw [HC.out, if_neg HE.out, if_neg (by omega)]
          clear HC
          clear e1x
          obtain ⟨g, hg⟩ : ∃ g, g = upd m k 0 := ⟨_, rfl⟩
          have HG := lhid hg
          have hq : ∀ X, (binOp .eql 42 (.agg #[.int .u8 (g 0), .int .u8 (g 1), .int .u8 (g 2), .int .u8 (g 3), .int .u8 (g 4), .int .u8 (g 5), .int .u8 (g 6), .int .u8 (g 7), .int .u8 (g 8)]) (.agg #[.int .u8 (m 0), .int .u8 (m 1), .int .u8 (m 2), .int .u8 (m 3), .int .u8 (m 4), .int .u8 (m 5), .int .u8 (m 6), .int .u8 (m 7), .int .u8 (m 8)])).run Try.prog X = .ok (.bool false) X := fun X => by rw [eql_arr 42 Try.underlying42 g m X, hg, allEq_upd_other hk HE.out]
          clear hg
          go_enter Try.func24, Try.ntmps24
          go_upto_region 4 with (fail)
          refine wp_named (fun w' => (ArrAt w' w.heap.size m ∧ ArrAt w' (w.heap.size + 1) zeroM) ∧ ArrAt w' (w.heap.size + 1 + 1) m ∧ Below w.heap.size w w') ?_ ?_
          · exact ⟨⟨((ArrAt.new w m 42 _ rfl).alloc _).alloc _, (ArrAt.new _ zeroM 42 _ (by simp)).alloc _⟩, ArrAt.new _ m 42 _ (by simp), (((Below.refl _ _).alloc (Nat.le_refl _) _).alloc (by simp) _).alloc (by simp; omega) _⟩
          rintro w1 ⟨⟨hM1, hZ1⟩, hX1, HB1⟩
          have cst := hX1.1 k hk
          have fst_ := hX1.2 k hk
          have cmk := hM1.1 k hk
          have HD : ArrAt (w1.setCell ⟨w.heap.size + 1 + 1, k, none⟩ (.int .u8 0)) (w.heap.size + 1 + 1) g := by rw [HG.out]; exact hX1.set k hk 0
          have HM2 : ArrAt (w1.setCell ⟨w.heap.size + 1 + 1, k, none⟩ (.int .u8 0)) w.heap.size m := hM1.other (by omega) _
          have HZ : ArrAt (w1.setCell ⟨w.heap.size + 1 + 1, k, none⟩ (.int .u8 0)) (w.heap.size + 1) zeroM := hZ1.other (by omega) _
          have cmk2 := HM2.1 k hk
          have d0 := HD.1 0 (by omega)
          have d1 := HD.1 1 (by omega)
          have d2 := HD.1 2 (by omega)
          have d3 := HD.1 3 (by omega)
          have d4 := HD.1 4 (by omega)
          have d5 := HD.1 5 (by omega)
          have d6 := HD.1 6 (by omega)
          have d7 := HD.1 7 (by omega)
          have d8 := HD.1 8 (by omega)
          have e0 := HM2.1 0 (by omega)
          have e1 := HM2.1 1 (by omega)
          have e2 := HM2.1 2 (by omega)
          have e3 := HM2.1 3 (by omega)
          have e4 := HM2.1 4 (by omega)
          have e5 := HM2.1 5 (by omega)
          have e6 := HM2.1 6 (by omega)
          have e7 := HM2.1 7 (by omega)
          have e8 := HM2.1 8 (by omega)
          have y0 := HZ.1 0 (by omega)
          have x0 := HZ.2 0 (by omega)
          have y1 := HZ.1 1 (by omega)
          have x1 := HZ.2 1 (by omega)
          have y2 := HZ.1 2 (by omega)
          have x2 := HZ.2 2 (by omega)
          have y3 := HZ.1 3 (by omega)
          have x3 := HZ.2 3 (by omega)
          have y4 := HZ.1 4 (by omega)
          have x4 := HZ.2 4 (by omega)
          have y5 := HZ.1 5 (by omega)
          have x5 := HZ.2 5 (by omega)
          have y6 := HZ.1 6 (by omega)
          have x6 := HZ.2 6 (by omega)
          have y7 := HZ.1 7 (by omega)
          have x7 := HZ.2 7 (by omega)
          have y8 := HZ.1 8 (by omega)
          have x8 := HZ.2 8 (by omega)
          have HZ2 := lhid HZ
          have HD2 := lhid HD
          clear HD HM2 HZ hM1 hZ1 hX1
          go_wp2_with (go_at_call 32; refine (count_any m 1 HM.out _).mono ?_; rintro e w3 ⟨rfl, hb3⟩; rw [← HCN.out]; have hc3 := (bcell hb3).1; have hlw3 : w1.heap.size ≤ w3.heap.size := (by have := hb3.size; simpa [World.setCell] using this); have HZ := (HZ2.out.below hb3 HZ2.out.lt); have z0 := HZ.1 0 (by omega); have v0 := HZ.2 0 (by omega); have z1 := HZ.1 1 (by omega); have v1 := HZ.2 1 (by omega); have z2 := HZ.1 2 (by omega); have v2 := HZ.2 2 (by omega); have z3 := HZ.1 3 (by omega); have v3 := HZ.2 3 (by omega); have z4 := HZ.1 4 (by omega); have v4 := HZ.2 4 (by omega); have z5 := HZ.1 5 (by omega); have v5 := HZ.2 5 (by omega); have z6 := HZ.1 6 (by omega); have v6 := HZ.2 6 (by omega); have z7 := HZ.1 7 (by omega); have v7 := HZ.2 7 (by omega); have z8 := HZ.1 8 (by omega); have v8 := HZ.2 8 (by omega); have HD := (HD2.out.below hb3 HD2.out.lt); have u0 := HD.1 0 (by omega); have u1 := HD.1 1 (by omega); have u2 := HD.1 2 (by omega); have u3 := HD.1 3 (by omega); have u4 := HD.1 4 (by omega); have u5 := HD.1 5 (by omega); have u6 := HD.1 6 (by omega); have u7 := HD.1 7 (by omega); have u8 := HD.1 8 (by omega); clear HZ HD)
          refine bodyPost_ret (v := .tuple #[.agg #[.int .u8 (g 0), .int .u8 (g 1), .int .u8 (g 2), .int .u8 (g 3), .int .u8 (g 4), .int .u8 (g 5), .int .u8 (g 6), .int .u8 (g 7), .int .u8 (g 8)], .int .i64 0]) (by simp [results, Try.results24, go_sem, z0, z1, z2, z3, z4, z5, z6, z7, z8]) rfl ⟨?_, ?_⟩
          · rw [HR.out, HG.out]
          · have HB : Below w.heap.size w w3 := (HB1.setCell (p := ⟨w.heap.size + 1 + 1, k, none⟩) (by simp; omega) _).trans (hb3.mono (by simp [World.setCell]; have := HB1.size; omega))
            exact (((((((((HB).setCell (p := ⟨w.heap.size + 1, 0, none⟩) (by simp) _).setCell (p := ⟨w.heap.size + 1, 1, none⟩) (by simp) _).setCell (p := ⟨w.heap.size + 1, 2, none⟩) (by simp) _).setCell (p := ⟨w.heap.size + 1, 3, none⟩) (by simp) _).setCell (p := ⟨w.heap.size + 1, 4, none⟩) (by simp) _).setCell (p := ⟨w.heap.size + 1, 5, none⟩) (by simp) _).setCell (p := ⟨w.heap.size + 1, 6, none⟩) (by simp) _).setCell (p := ⟨w.heap.size + 1, 7, none⟩) (by simp) _).setCell (p := ⟨w.heap.size + 1, 8, none⟩) (by simp) _
      · have tb0 : (m k == 0) = false := beq_eq_false_iff_ne.2 (by omega)
        have tb1 : (m k == 1) = false := beq_eq_false_iff_ne.2 (by omega)
        have HE : Hid (¬ m k = 0) := lhid (by omega)
        have HR : Hid (changeM m k 0 = (upd m k 0, 0)) := by show changeM m k 0 = (upd m k 0, 0); rw [HC.out, if_neg HE.out, if_neg (by omega)]
        clear HC
        obtain ⟨g, hg⟩ : ∃ g, g = upd m k 0 := ⟨_, rfl⟩
        have HG := lhid hg
        have hq : ∀ X, (binOp .eql 42 (.agg #[.int .u8 (g 0), .int .u8 (g 1), .int .u8 (g 2), .int .u8 (g 3), .int .u8 (g 4), .int .u8 (g 5), .int .u8 (g 6), .int .u8 (g 7), .int .u8 (g 8)]) (.agg #[.int .u8 (m 0), .int .u8 (m 1), .int .u8 (m 2), .int .u8 (m 3), .int .u8 (m 4), .int .u8 (m 5), .int .u8 (m 6), .int .u8 (m 7), .int .u8 (m 8)])).run Try.prog X = .ok (.bool false) X := fun X => by rw [eql_arr 42 Try.underlying42 g m X, hg, allEq_upd_other hk HE.out]
        clear hg
        go_enter Try.func24, Try.ntmps24
        go_upto_region 4 with (fail)
        refine wp_named (fun w' => (ArrAt w' w.heap.size m ∧ ArrAt w' (w.heap.size + 1) zeroM) ∧ ArrAt w' (w.heap.size + 1 + 1) m ∧ Below w.heap.size w w') ?_ ?_
        · exact ⟨⟨((ArrAt.new w m 42 _ rfl).alloc _).alloc _, (ArrAt.new _ zeroM 42 _ (by simp)).alloc _⟩, ArrAt.new _ m 42 _ (by simp), (((Below.refl _ _).alloc (Nat.le_refl _) _).alloc (by simp) _).alloc (by simp; omega) _⟩
        rintro w1 ⟨⟨hM1, hZ1⟩, hX1, HB1⟩
        have cst := hX1.1 k hk
        have fst_ := hX1.2 k hk
        have cmk := hM1.1 k hk
        have HD : ArrAt (w1.setCell ⟨w.heap.size + 1 + 1, k, none⟩ (.int .u8 0)) (w.heap.size + 1 + 1) g := by rw [HG.out]; exact hX1.set k hk 0
        have HM2 : ArrAt (w1.setCell ⟨w.heap.size + 1 + 1, k, none⟩ (.int .u8 0)) w.heap.size m := hM1.other (by omega) _
        have HZ : ArrAt (w1.setCell ⟨w.heap.size + 1 + 1, k, none⟩ (.int .u8 0)) (w.heap.size + 1) zeroM := hZ1.other (by omega) _
        have cmk2 := HM2.1 k hk
        have d0 := HD.1 0 (by omega)
        have d1 := HD.1 1 (by omega)
        have d2 := HD.1 2 (by omega)
        have d3 := HD.1 3 (by omega)
        have d4 := HD.1 4 (by omega)
        have d5 := HD.1 5 (by omega)
        have d6 := HD.1 6 (by omega)
        have d7 := HD.1 7 (by omega)
        have d8 := HD.1 8 (by omega)
        have e0 := HM2.1 0 (by omega)
        have e1 := HM2.1 1 (by omega)
        have e2 := HM2.1 2 (by omega)
        have e3 := HM2.1 3 (by omega)
        have e4 := HM2.1 4 (by omega)
        have e5 := HM2.1 5 (by omega)
        have e6 := HM2.1 6 (by omega)
        have e7 := HM2.1 7 (by omega)
        have e8 := HM2.1 8 (by omega)
        have y0 := HZ.1 0 (by omega)
        have x0 := HZ.2 0 (by omega)
        have y1 := HZ.1 1 (by omega)
        have x1 := HZ.2 1 (by omega)
        have y2 := HZ.1 2 (by omega)
        have x2 := HZ.2 2 (by omega)
        have y3 := HZ.1 3 (by omega)
        have x3 := HZ.2 3 (by omega)
        have y4 := HZ.1 4 (by omega)
        have x4 := HZ.2 4 (by omega)
        have y5 := HZ.1 5 (by omega)
        have x5 := HZ.2 5 (by omega)
        have y6 := HZ.1 6 (by omega)
        have x6 := HZ.2 6 (by omega)
        have y7 := HZ.1 7 (by omega)
        have x7 := HZ.2 7 (by omega)
        have y8 := HZ.1 8 (by omega)
        have x8 := HZ.2 8 (by omega)
        have HZ2 := lhid HZ
        have HD2 := lhid HD
        clear HD HM2 HZ hM1 hZ1 hX1
        go_wp2
        refine bodyPost_ret (v := .tuple #[.agg #[.int .u8 (g 0), .int .u8 (g 1), .int .u8 (g 2), .int .u8 (g 3), .int .u8 (g 4), .int .u8 (g 5), .int .u8 (g 6), .int .u8 (g 7), .int .u8 (g 8)], .int .i64 0]) (by simp [results, Try.results24, go_sem, y0, y1, y2, y3, y4, y5, y6, y7, y8]) rfl ⟨?_, ?_⟩
        · rw [HR.out, HG.out]
        · have HB := HB1.setCell (p := ⟨w.heap.size + 1 + 1, k, none⟩) (by simp; omega) (.int .u8 0)
          exact (((((((((HB).setCell (p := ⟨w.heap.size + 1, 0, none⟩) (by simp) _).setCell (p := ⟨w.heap.size + 1, 1, none⟩) (by simp) _).setCell (p := ⟨w.heap.size + 1, 2, none⟩) (by simp) _).setCell (p := ⟨w.heap.size + 1, 3, none⟩) (by simp) _).setCell (p := ⟨w.heap.size + 1, 4, none⟩) (by simp) _).setCell (p := ⟨w.heap.size + 1, 5, none⟩) (by simp) _).setCell (p := ⟨w.heap.size + 1, 6, none⟩) (by simp) _).setCell (p := ⟨w.heap.size + 1, 7, none⟩) (by simp) _).setCell (p := ⟨w.heap.size + 1, 8, none⟩) (by simp) _
  · by_cases e0x : m k = 0
    · have tb0 : (m k == 0) = true := beq_iff_eq.2 e0x
      have tb1 : (m k == 1) = false := beq_eq_false_iff_ne.2 (by omega)
      have HE : Hid (¬ m k = 1) := lhid (by omega)
      have HR : Hid (changeM m k 1 = (zeroM, 6)) := by show changeM m k 1 = (zeroM, 6); rw [HC.out, if_neg HE.out, if_pos (by omega)]
      clear HC
      clear e0x
      obtain ⟨g, hg⟩ : ∃ g, g = upd m k 1 := ⟨_, rfl⟩
      have HG := lhid hg
      have hq : ∀ X, (binOp .eql 42 (.agg #[.int .u8 (g 0), .int .u8 (g 1), .int .u8 (g 2), .int .u8 (g 3), .int .u8 (g 4), .int .u8 (g 5), .int .u8 (g 6), .int .u8 (g 7), .int .u8 (g 8)]) (.agg #[.int .u8 (m 0), .int .u8 (m 1), .int .u8 (m 2), .int .u8 (m 3), .int .u8 (m 4), .int .u8 (m 5), .int .u8 (m 6), .int .u8 (m 7), .int .u8 (m 8)])).run Try.prog X = .ok (.bool false) X := fun X => by rw [eql_arr 42 Try.underlying42 g m X, hg, allEq_upd_other hk HE.out]
      clear hg
      go_enter Try.func24, Try.ntmps24
      go_upto_region 4 with (fail)
      refine wp_named (fun w' => (ArrAt w' w.heap.size m ∧ ArrAt w' (w.heap.size + 1) zeroM) ∧ ArrAt w' (w.heap.size + 1 + 1) m ∧ Below w.heap.size w w') ?_ ?_
      · exact ⟨⟨((ArrAt.new w m 42 _ rfl).alloc _).alloc _, (ArrAt.new _ zeroM 42 _ (by simp)).alloc _⟩, ArrAt.new _ m 42 _ (by simp), (((Below.refl _ _).alloc (Nat.le_refl _) _).alloc (by simp) _).alloc (by simp; omega) _⟩
      rintro w1 ⟨⟨hM1, hZ1⟩, hX1, HB1⟩
      have cst := hX1.1 k hk
      have fst_ := hX1.2 k hk
      have cmk := hM1.1 k hk
      have HD : ArrAt (w1.setCell ⟨w.heap.size + 1 + 1, k, none⟩ (.int .u8 1)) (w.heap.size + 1 + 1) g := by rw [HG.out]; exact hX1.set k hk 1
      have HM2 : ArrAt (w1.setCell ⟨w.heap.size + 1 + 1, k, none⟩ (.int .u8 1)) w.heap.size m := hM1.other (by omega) _
      have HZ : ArrAt (w1.setCell ⟨w.heap.size + 1 + 1, k, none⟩ (.int .u8 1)) (w.heap.size + 1) zeroM := hZ1.other (by omega) _
      have cmk2 := HM2.1 k hk
      have d0 := HD.1 0 (by omega)
      have d1 := HD.1 1 (by omega)
      have d2 := HD.1 2 (by omega)
      have d3 := HD.1 3 (by omega)
      have d4 := HD.1 4 (by omega)
      have d5 := HD.1 5 (by omega)
      have d6 := HD.1 6 (by omega)
      have d7 := HD.1 7 (by omega)
      have d8 := HD.1 8 (by omega)
      have e0 := HM2.1 0 (by omega)
      have e1 := HM2.1 1 (by omega)
      have e2 := HM2.1 2 (by omega)
      have e3 := HM2.1 3 (by omega)
      have e4 := HM2.1 4 (by omega)
      have e5 := HM2.1 5 (by omega)
      have e6 := HM2.1 6 (by omega)
      have e7 := HM2.1 7 (by omega)
      have e8 := HM2.1 8 (by omega)
      have y0 := HZ.1 0 (by omega)
      have x0 := HZ.2 0 (by omega)
      have y1 := HZ.1 1 (by omega)
      have x1 := HZ.2 1 (by omega)
      have y2 := HZ.1 2 (by omega)
      have x2 := HZ.2 2 (by omega)
      have y3 := HZ.1 3 (by omega)
      have x3 := HZ.2 3 (by omega)
      have y4 := HZ.1 4 (by omega)
      have x4 := HZ.2 4 (by omega)
      have y5 := HZ.1 5 (by omega)
      have x5 := HZ.2 5 (by omega)
      have y6 := HZ.1 6 (by omega)
      have x6 := HZ.2 6 (by omega)
      have y7 := HZ.1 7 (by omega)
      have x7 := HZ.2 7 (by omega)
      have y8 := HZ.1 8 (by omega)
      have x8 := HZ.2 8 (by omega)
      have HZ2 := lhid HZ
      have HD2 := lhid HD
      clear HD HM2 HZ hM1 hZ1 hX1
      go_wp2
      refine bodyPost_ret (v := .tuple #[.agg #[.int .u8 0, .int .u8 0, .int .u8 0, .int .u8 0, .int .u8 0, .int .u8 0, .int .u8 0, .int .u8 0, .int .u8 0], .int .i64 6]) (by simp [results, Try.results24, go_sem, y0, y1, y2, y3, y4, y5, y6, y7, y8]) rfl ⟨?_, ?_⟩
      · rw [HR.out]; rfl
      · have HB := HB1.setCell (p := ⟨w.heap.size + 1 + 1, k, none⟩) (by simp; omega) (.int .u8 1)
        exact (((((((((HB).setCell (p := ⟨w.heap.size + 1, 0, none⟩) (by simp) _).setCell (p := ⟨w.heap.size + 1, 1, none⟩) (by simp) _).setCell (p := ⟨w.heap.size + 1, 2, none⟩) (by simp) _).setCell (p := ⟨w.heap.size + 1, 3, none⟩) (by simp) _).setCell (p := ⟨w.heap.size + 1, 4, none⟩) (by simp) _).setCell (p := ⟨w.heap.size + 1, 5, none⟩) (by simp) _).setCell (p := ⟨w.heap.size + 1, 6, none⟩) (by simp) _).setCell (p := ⟨w.heap.size + 1, 7, none⟩) (by simp) _).setCell (p := ⟨w.heap.size + 1, 8, none⟩) (by simp) _
    · by_cases e1x : m k = 1
      · have tb0 : (m k == 0) = false := beq_eq_false_iff_ne.2 (by omega)
        have tb1 : (m k == 1) = true := beq_iff_eq.2 e1x
        have HE : Hid (m k = 1) := lhid (by omega)
        have HR : Hid (changeM m k 1 = (zeroM, 3)) := by show changeM m k 1 = (zeroM, 3); rw [HC.out, if_pos HE.out]
        clear HC
        clear e1x
        obtain ⟨g, hg⟩ : ∃ g, g = upd m k 1 := ⟨_, rfl⟩
        have HG := lhid hg
        have hq : ∀ X, (binOp .eql 42 (.agg #[.int .u8 (g 0), .int .u8 (g 1), .int .u8 (g 2), .int .u8 (g 3), .int .u8 (g 4), .int .u8 (g 5), .int .u8 (g 6), .int .u8 (g 7), .int .u8 (g 8)]) (.agg #[.int .u8 (m 0), .int .u8 (m 1), .int .u8 (m 2), .int .u8 (m 3), .int .u8 (m 4), .int .u8 (m 5), .int .u8 (m 6), .int .u8 (m 7), .int .u8 (m 8)])).run Try.prog X = .ok (.bool true) X := fun X => by rw [eql_arr 42 Try.underlying42 g m X, hg, allEq_upd_same HE.out]
        clear hg
        go_enter Try.func24, Try.ntmps24
        go_upto_region 4 with (fail)
        refine wp_named (fun w' => (ArrAt w' w.heap.size m ∧ ArrAt w' (w.heap.size + 1) zeroM) ∧ ArrAt w' (w.heap.size + 1 + 1) m ∧ Below w.heap.size w w') ?_ ?_
        · exact ⟨⟨((ArrAt.new w m 42 _ rfl).alloc _).alloc _, (ArrAt.new _ zeroM 42 _ (by simp)).alloc _⟩, ArrAt.new _ m 42 _ (by simp), (((Below.refl _ _).alloc (Nat.le_refl _) _).alloc (by simp) _).alloc (by simp; omega) _⟩
        rintro w1 ⟨⟨hM1, hZ1⟩, hX1, HB1⟩
        have cst := hX1.1 k hk
        have fst_ := hX1.2 k hk
        have cmk := hM1.1 k hk
        have HD : ArrAt (w1.setCell ⟨w.heap.size + 1 + 1, k, none⟩ (.int .u8 1)) (w.heap.size + 1 + 1) g := by rw [HG.out]; exact hX1.set k hk 1
        have HM2 : ArrAt (w1.setCell ⟨w.heap.size + 1 + 1, k, none⟩ (.int .u8 1)) w.heap.size m := hM1.other (by omega) _
        have HZ : ArrAt (w1.setCell ⟨w.heap.size + 1 + 1, k, none⟩ (.int .u8 1)) (w.heap.size + 1) zeroM := hZ1.other (by omega) _
        have cmk2 := HM2.1 k hk
        have d0 := HD.1 0 (by omega)
        have d1 := HD.1 1 (by omega)
        have d2 := HD.1 2 (by omega)
        have d3 := HD.1 3 (by omega)
        have d4 := HD.1 4 (by omega)
        have d5 := HD.1 5 (by omega)
        have d6 := HD.1 6 (by omega)
        have d7 := HD.1 7 (by omega)
        have d8 := HD.1 8 (by omega)
        have e0 := HM2.1 0 (by omega)
        have e1 := HM2.1 1 (by omega)
        have e2 := HM2.1 2 (by omega)
        have e3 := HM2.1 3 (by omega)
        have e4 := HM2.1 4 (by omega)
        have e5 := HM2.1 5 (by omega)
        have e6 := HM2.1 6 (by omega)
        have e7 := HM2.1 7 (by omega)
        have e8 := HM2.1 8 (by omega)
        have y0 := HZ.1 0 (by omega)
        have x0 := HZ.2 0 (by omega)
        have y1 := HZ.1 1 (by omega)
        have x1 := HZ.2 1 (by omega)
        have y2 := HZ.1 2 (by omega)
        have x2 := HZ.2 2 (by omega)
        have y3 := HZ.1 3 (by omega)
        have x3 := HZ.2 3 (by omega)
        have y4 := HZ.1 4 (by omega)
        have x4 := HZ.2 4 (by omega)
        have y5 := HZ.1 5 (by omega)
        have x5 := HZ.2 5 (by omega)
        have y6 := HZ.1 6 (by omega)
        have x6 := HZ.2 6 (by omega)
        have y7 := HZ.1 7 (by omega)
        have x7 := HZ.2 7 (by omega)
        have y8 := HZ.1 8 (by omega)
        have x8 := HZ.2 8 (by omega)
        have HZ2 := lhid HZ
        have HD2 := lhid HD
        clear HD HM2 HZ hM1 hZ1 hX1
        go_wp2
        refine bodyPost_ret (v := .tuple #[.agg #[.int .u8 0, .int .u8 0, .int .u8 0, .int .u8 0, .int .u8 0, .int .u8 0, .int .u8 0, .int .u8 0, .int .u8 0], .int .i64 3]) (by simp [results, Try.results24, go_sem, y0, y1, y2, y3, y4, y5, y6, y7, y8]) rfl ⟨?_, ?_⟩
        · rw [HR.out]; rfl
        · have HB := HB1.setCell (p := ⟨w.heap.size + 1 + 1, k, none⟩) (by simp; omega) (.int .u8 1)
          exact (((((((((HB).setCell (p := ⟨w.heap.size + 1, 0, none⟩) (by simp) _).setCell (p := ⟨w.heap.size + 1, 1, none⟩) (by simp) _).setCell (p := ⟨w.heap.size + 1, 2, none⟩) (by simp) _).setCell (p := ⟨w.heap.size + 1, 3, none⟩) (by simp) _).setCell (p := ⟨w.heap.size + 1, 4, none⟩) (by simp) _).setCell (p := ⟨w.heap.size + 1, 5, none⟩) (by simp) _).setCell (p := ⟨w.heap.size + 1, 6, none⟩) (by simp) _).setCell (p := ⟨w.heap.size + 1, 7, none⟩) (by simp) _).setCell (p := ⟨w.heap.size + 1, 8, none⟩) (by simp) _
      · have tb0 : (m k == 0) = false := beq_eq_false_iff_ne.2 (by omega)
        have tb1 : (m k == 1) = false := beq_eq_false_iff_ne.2 (by omega)
        have HE : Hid (¬ m k = 1) := lhid (by omega)
        have HR : Hid (changeM m k 1 = (upd m k 1, 0)) := by show changeM m k 1 = (upd m k 1, 0); rw [HC.out, if_neg HE.out, if_neg (by omega)]
        clear HC
        obtain ⟨g, hg⟩ : ∃ g, g = upd m k 1 := ⟨_, rfl⟩
        have HG := lhid hg
        have hq : ∀ X, (binOp .eql 42 (.agg #[.int .u8 (g 0), .int .u8 (g 1), .int .u8 (g 2), .int .u8 (g 3), .int .u8 (g 4), .int .u8 (g 5), .int .u8 (g 6), .int .u8 (g 7), .int .u8 (g 8)]) (.agg #[.int .u8 (m 0), .int .u8 (m 1), .int .u8 (m 2), .int .u8 (m 3), .int .u8 (m 4), .int .u8 (m 5), .int .u8 (m 6), .int .u8 (m 7), .int .u8 (m 8)])).run Try.prog X = .ok (.bool false) X := fun X => by rw [eql_arr 42 Try.underlying42 g m X, hg, allEq_upd_other hk HE.out]
        clear hg
        go_enter Try.func24, Try.ntmps24
        go_upto_region 4 with (fail)
        refine wp_named (fun w' => (ArrAt w' w.heap.size m ∧ ArrAt w' (w.heap.size + 1) zeroM) ∧ ArrAt w' (w.heap.size + 1 + 1) m ∧ Below w.heap.size w w') ?_ ?_
        · exact ⟨⟨((ArrAt.new w m 42 _ rfl).alloc _).alloc _, (ArrAt.new _ zeroM 42 _ (by simp)).alloc _⟩, ArrAt.new _ m 42 _ (by simp), (((Below.refl _ _).alloc (Nat.le_refl _) _).alloc (by simp) _).alloc (by simp; omega) _⟩
        rintro w1 ⟨⟨hM1, hZ1⟩, hX1, HB1⟩
        have cst := hX1.1 k hk
        have fst_ := hX1.2 k hk
        have cmk := hM1.1 k hk
        have HD : ArrAt (w1.setCell ⟨w.heap.size + 1 + 1, k, none⟩ (.int .u8 1)) (w.heap.size + 1 + 1) g := by rw [HG.out]; exact hX1.set k hk 1
        have HM2 : ArrAt (w1.setCell ⟨w.heap.size + 1 + 1, k, none⟩ (.int .u8 1)) w.heap.size m := hM1.other (by omega) _
        have HZ : ArrAt (w1.setCell ⟨w.heap.size + 1 + 1, k, none⟩ (.int .u8 1)) (w.heap.size + 1) zeroM := hZ1.other (by omega) _
        have cmk2 := HM2.1 k hk
        have d0 := HD.1 0 (by omega)
        have d1 := HD.1 1 (by omega)
        have d2 := HD.1 2 (by omega)
        have d3 := HD.1 3 (by omega)
        have d4 := HD.1 4 (by omega)
        have d5 := HD.1 5 (by omega)
        have d6 := HD.1 6 (by omega)
        have d7 := HD.1 7 (by omega)
        have d8 := HD.1 8 (by omega)
        have e0 := HM2.1 0 (by omega)
        have e1 := HM2.1 1 (by omega)
        have e2 := HM2.1 2 (by omega)
        have e3 := HM2.1 3 (by omega)
        have e4 := HM2.1 4 (by omega)
        have e5 := HM2.1 5 (by omega)
        have e6 := HM2.1 6 (by omega)
        have e7 := HM2.1 7 (by omega)
        have e8 := HM2.1 8 (by omega)
        have y0 := HZ.1 0 (by omega)
        have x0 := HZ.2 0 (by omega)
        have y1 := HZ.1 1 (by omega)
        have x1 := HZ.2 1 (by omega)
        have y2 := HZ.1 2 (by omega)
        have x2 := HZ.2 2 (by omega)
        have y3 := HZ.1 3 (by omega)
        have x3 := HZ.2 3 (by omega)
        have y4 := HZ.1 4 (by omega)
        have x4 := HZ.2 4 (by omega)
        have y5 := HZ.1 5 (by omega)
        have x5 := HZ.2 5 (by omega)
        have y6 := HZ.1 6 (by omega)
        have x6 := HZ.2 6 (by omega)
        have y7 := HZ.1 7 (by omega)
        have x7 := HZ.2 7 (by omega)
        have y8 := HZ.1 8 (by omega)
        have x8 := HZ.2 8 (by omega)
        have HZ2 := lhid HZ
        have HD2 := lhid HD
        clear HD HM2 HZ hM1 hZ1 hX1
        go_wp2
        refine bodyPost_ret (v := .tuple #[.agg #[.int .u8 (g 0), .int .u8 (g 1), .int .u8 (g 2), .int .u8 (g 3), .int .u8 (g 4), .int .u8 (g 5), .int .u8 (g 6), .int .u8 (g 7), .int .u8 (g 8)], .int .i64 0]) (by simp [results, Try.results24, go_sem, y0, y1, y2, y3, y4, y5, y6, y7, y8]) rfl ⟨?_, ?_⟩
        · rw [HR.out, HG.out]
        · have HB := HB1.setCell (p := ⟨w.heap.size + 1 + 1, k, none⟩) (by simp; omega) (.int .u8 1)
          exact (((((((((HB).setCell (p := ⟨w.heap.size + 1, 0, none⟩) (by simp) _).setCell (p := ⟨w.heap.size + 1, 1, none⟩) (by simp) _).setCell (p := ⟨w.heap.size + 1, 2, none⟩) (by simp) _).setCell (p := ⟨w.heap.size + 1, 3, none⟩) (by simp) _).setCell (p := ⟨w.heap.size + 1, 4, none⟩) (by simp) _).setCell (p := ⟨w.heap.size + 1, 5, none⟩) (by simp) _).setCell (p := ⟨w.heap.size + 1, 6, none⟩) (by simp) _).setCell (p := ⟨w.heap.size + 1, 7, none⟩) (by simp) _).setCell (p := ⟨w.heap.size + 1, 8, none⟩) (by simp) _
  · by_cases e0x : m k = 0
    · have tb0 : (m k == 0) = true := beq_iff_eq.2 e0x
      have tb1 : (m k == 1) = false := beq_eq_false_iff_ne.2 (by omega)
      have HE : Hid (¬ m k = 2) := lhid (by omega)
      have HR : Hid (changeM m k 2 = (upd m k 2, 0)) := by show changeM m k 2 = (upd m k 2, 0); rw [HC.out, if_neg HE.out, if_neg (by omega)]
      clear HC
      clear e0x
      obtain ⟨g, hg⟩ : ∃ g, g = upd m k 2 := ⟨_, rfl⟩
      have HG := lhid hg
      have hq : ∀ X, (binOp .eql 42 (.agg #[.int .u8 (g 0), .int .u8 (g 1), .int .u8 (g 2), .int .u8 (g 3), .int .u8 (g 4), .int .u8 (g 5), .int .u8 (g 6), .int .u8 (g 7), .int .u8 (g 8)]) (.agg #[.int .u8 (m 0), .int .u8 (m 1), .int .u8 (m 2), .int .u8 (m 3), .int .u8 (m 4), .int .u8 (m 5), .int .u8 (m 6), .int .u8 (m 7), .int .u8 (m 8)])).run Try.prog X = .ok (.bool false) X := fun X => by rw [eql_arr 42 Try.underlying42 g m X, hg, allEq_upd_other hk HE.out]
      clear hg
      go_enter Try.func24, Try.ntmps24
      go_upto_region 4 with (fail)
      refine wp_named (fun w' => (ArrAt w' w.heap.size m ∧ ArrAt w' (w.heap.size + 1) zeroM) ∧ ArrAt w' (w.heap.size + 1 + 1) m ∧ Below w.heap.size w w') ?_ ?_
      · exact ⟨⟨((ArrAt.new w m 42 _ rfl).alloc _).alloc _, (ArrAt.new _ zeroM 42 _ (by simp)).alloc _⟩, ArrAt.new _ m 42 _ (by simp), (((Below.refl _ _).alloc (Nat.le_refl _) _).alloc (by simp) _).alloc (by simp; omega) _⟩
      rintro w1 ⟨⟨hM1, hZ1⟩, hX1, HB1⟩
      have cst := hX1.1 k hk
      have fst_ := hX1.2 k hk
      have cmk := hM1.1 k hk
      have HD : ArrAt (w1.setCell ⟨w.heap.size + 1 + 1, k, none⟩ (.int .u8 2)) (w.heap.size + 1 + 1) g := by rw [HG.out]; exact hX1.set k hk 2
      have HM2 : ArrAt (w1.setCell ⟨w.heap.size + 1 + 1, k, none⟩ (.int .u8 2)) w.heap.size m := hM1.other (by omega) _
      have HZ : ArrAt (w1.setCell ⟨w.heap.size + 1 + 1, k, none⟩ (.int .u8 2)) (w.heap.size + 1) zeroM := hZ1.other (by omega) _
      have cmk2 := HM2.1 k hk
      have d0 := HD.1 0 (by omega)
      have d1 := HD.1 1 (by omega)
      have d2 := HD.1 2 (by omega)
      have d3 := HD.1 3 (by omega)
      have d4 := HD.1 4 (by omega)
      have d5 := HD.1 5 (by omega)
      have d6 := HD.1 6 (by omega)
      have d7 := HD.1 7 (by omega)
      have d8 := HD.1 8 (by omega)
      have e0 := HM2.1 0 (by omega)
      have e1 := HM2.1 1 (by omega)
      have e2 := HM2.1 2 (by omega)
      have e3 := HM2.1 3 (by omega)
      have e4 := HM2.1 4 (by omega)
      have e5 := HM2.1 5 (by omega)
      have e6 := HM2.1 6 (by omega)
      have e7 := HM2.1 7 (by omega)
      have e8 := HM2.1 8 (by omega)
      have y0 := HZ.1 0 (by omega)
      have x0 := HZ.2 0 (by omega)
      have y1 := HZ.1 1 (by omega)
      have x1 := HZ.2 1 (by omega)
      have y2 := HZ.1 2 (by omega)
      have x2 := HZ.2 2 (by omega)
      have y3 := HZ.1 3 (by omega)
      have x3 := HZ.2 3 (by omega)
      have y4 := HZ.1 4 (by omega)
      have x4 := HZ.2 4 (by omega)
      have y5 := HZ.1 5 (by omega)
      have x5 := HZ.2 5 (by omega)
      have y6 := HZ.1 6 (by omega)
      have x6 := HZ.2 6 (by omega)
      have y7 := HZ.1 7 (by omega)
      have x7 := HZ.2 7 (by omega)
      have y8 := HZ.1 8 (by omega)
      have x8 := HZ.2 8 (by omega)
      have HZ2 := lhid HZ
      have HD2 := lhid HD
      clear HD HM2 HZ hM1 hZ1 hX1
      go_wp2
      refine bodyPost_ret (v := .tuple #[.agg #[.int .u8 (g 0), .int .u8 (g 1), .int .u8 (g 2), .int .u8 (g 3), .int .u8 (g 4), .int .u8 (g 5), .int .u8 (g 6), .int .u8 (g 7), .int .u8 (g 8)], .int .i64 0]) (by simp [results, Try.results24, go_sem, y0, y1, y2, y3, y4, y5, y6, y7, y8]) rfl ⟨?_, ?_⟩
      · rw [HR.out, HG.out]
      · have HB := HB1.setCell (p := ⟨w.heap.size + 1 + 1, k, none⟩) (by simp; omega) (.int .u8 2)
        exact (((((((((HB).setCell (p := ⟨w.heap.size + 1, 0, none⟩) (by simp) _).setCell (p := ⟨w.heap.size + 1, 1, none⟩) (by simp) _).setCell (p := ⟨w.heap.size + 1, 2, none⟩) (by simp) _).setCell (p := ⟨w.heap.size + 1, 3, none⟩) (by simp) _).setCell (p := ⟨w.heap.size + 1, 4, none⟩) (by simp) _).setCell (p := ⟨w.heap.size + 1, 5, none⟩) (by simp) _).setCell (p := ⟨w.heap.size + 1, 6, none⟩) (by simp) _).setCell (p := ⟨w.heap.size + 1, 7, none⟩) (by simp) _).setCell (p := ⟨w.heap.size + 1, 8, none⟩) (by simp) _
    · by_cases e1x : m k = 1
      · have tb0 : (m k == 0) = false := beq_eq_false_iff_ne.2 (by omega)
        have tb1 : (m k == 1) = true := beq_iff_eq.2 e1x
        have HE : Hid (¬ m k = 2) := lhid (by omega)
        have HR : Hid (changeM m k 2 = (zeroM, 6)) := by show changeM m k 2 = (zeroM, 6); rw [HC.out, if_neg HE.out, if_pos (by omega)]
        clear HC
        clear e1x
        obtain ⟨g, hg⟩ : ∃ g, g = upd m k 2 := ⟨_, rfl⟩
        have HG := lhid hg
        have hq : ∀ X, (binOp .eql 42 (.agg #[.int .u8 (g 0), .int .u8 (g 1), .int .u8 (g 2), .int .u8 (g 3), .int .u8 (g 4), .int .u8 (g 5), .int .u8 (g 6), .int .u8 (g 7), .int .u8 (g 8)]) (.agg #[.int .u8 (m 0), .int .u8 (m 1), .int .u8 (m 2), .int .u8 (m 3), .int .u8 (m 4), .int .u8 (m 5), .int .u8 (m 6), .int .u8 (m 7), .int .u8 (m 8)])).run Try.prog X = .ok (.bool false) X := fun X => by rw [eql_arr 42 Try.underlying42 g m X, hg, allEq_upd_other hk HE.out]
        clear hg
        go_enter Try.func24, Try.ntmps24
        go_upto_region 4 with (fail)
        refine wp_named (fun w' => (ArrAt w' w.heap.size m ∧ ArrAt w' (w.heap.size + 1) zeroM) ∧ ArrAt w' (w.heap.size + 1 + 1) m ∧ Below w.heap.size w w') ?_ ?_
        · exact ⟨⟨((ArrAt.new w m 42 _ rfl).alloc _).alloc _, (ArrAt.new _ zeroM 42 _ (by simp)).alloc _⟩, ArrAt.new _ m 42 _ (by simp), (((Below.refl _ _).alloc (Nat.le_refl _) _).alloc (by simp) _).alloc (by simp; omega) _⟩
        rintro w1 ⟨⟨hM1, hZ1⟩, hX1, HB1⟩
        have cst := hX1.1 k hk
        have fst_ := hX1.2 k hk
        have cmk := hM1.1 k hk
        have HD : ArrAt (w1.setCell ⟨w.heap.size + 1 + 1, k, none⟩ (.int .u8 2)) (w.heap.size + 1 + 1) g := by rw [HG.out]; exact hX1.set k hk 2
        have HM2 : ArrAt (w1.setCell ⟨w.heap.size + 1 + 1, k, none⟩ (.int .u8 2)) w.heap.size m := hM1.other (by omega) _
        have HZ : ArrAt (w1.setCell ⟨w.heap.size + 1 + 1, k, none⟩ (.int .u8 2)) (w.heap.size + 1) zeroM := hZ1.other (by omega) _
        have cmk2 := HM2.1 k hk
        have d0 := HD.1 0 (by omega)
        have d1 := HD.1 1 (by omega)
        have d2 := HD.1 2 (by omega)
        have d3 := HD.1 3 (by omega)
        have d4 := HD.1 4 (by omega)
        have d5 := HD.1 5 (by omega)
        have d6 := HD.1 6 (by omega)
        have d7 := HD.1 7 (by omega)
        have d8 := HD.1 8 (by omega)
        have e0 := HM2.1 0 (by omega)
        have e1 := HM2.1 1 (by omega)
        have e2 := HM2.1 2 (by omega)
        have e3 := HM2.1 3 (by omega)
        have e4 := HM2.1 4 (by omega)
        have e5 := HM2.1 5 (by omega)
        have e6 := HM2.1 6 (by omega)
        have e7 := HM2.1 7 (by omega)
        have e8 := HM2.1 8 (by omega)
        have y0 := HZ.1 0 (by omega)
        have x0 := HZ.2 0 (by omega)
        have y1 := HZ.1 1 (by omega)
        have x1 := HZ.2 1 (by omega)
        have y2 := HZ.1 2 (by omega)
        have x2 := HZ.2 2 (by omega)
        have y3 := HZ.1 3 (by omega)
        have x3 := HZ.2 3 (by omega)
        have y4 := HZ.1 4 (by omega)
        have x4 := HZ.2 4 (by omega)
        have y5 := HZ.1 5 (by omega)
        have x5 := HZ.2 5 (by omega)
        have y6 := HZ.1 6 (by omega)
        have x6 := HZ.2 6 (by omega)
        have y7 := HZ.1 7 (by omega)
        have x7 := HZ.2 7 (by omega)
        have y8 := HZ.1 8 (by omega)
        have x8 := HZ.2 8 (by omega)
        have HZ2 := lhid HZ
        have HD2 := lhid HD
        clear HD HM2 HZ hM1 hZ1 hX1
        go_wp2
        refine bodyPost_ret (v := .tuple #[.agg #[.int .u8 0, .int .u8 0, .int .u8 0, .int .u8 0, .int .u8 0, .int .u8 0, .int .u8 0, .int .u8 0, .int .u8 0], .int .i64 6]) (by simp [results, Try.results24, go_sem, y0, y1, y2, y3, y4, y5, y6, y7, y8]) rfl ⟨?_, ?_⟩
        · rw [HR.out]; rfl
        · have HB := HB1.setCell (p := ⟨w.heap.size + 1 + 1, k, none⟩) (by simp; omega) (.int .u8 2)
          exact (((((((((HB).setCell (p := ⟨w.heap.size + 1, 0, none⟩) (by simp) _).setCell (p := ⟨w.heap.size + 1, 1, none⟩) (by simp) _).setCell (p := ⟨w.heap.size + 1, 2, none⟩) (by simp) _).setCell (p := ⟨w.heap.size + 1, 3, none⟩) (by simp) _).setCell (p := ⟨w.heap.size + 1, 4, none⟩) (by simp) _).setCell (p := ⟨w.heap.size + 1, 5, none⟩) (by simp) _).setCell (p := ⟨w.heap.size + 1, 6, none⟩) (by simp) _).setCell (p := ⟨w.heap.size + 1, 7, none⟩) (by simp) _).setCell (p := ⟨w.heap.size + 1, 8, none⟩) (by simp) _
      · by_cases e2x : m k = 2
        · have tb0 : (m k == 0) = false := beq_eq_false_iff_ne.2 (by omega)
          have tb1 : (m k == 1) = false := beq_eq_false_iff_ne.2 (by omega)
          have HE : Hid (m k = 2) := lhid (by omega)
          have HR : Hid (changeM m k 2 = (zeroM, 3)) := by show changeM m k 2 = (zeroM, 3); rw [HC.out, if_pos HE.out]
          clear HC e2x
          obtain ⟨g, hg⟩ : ∃ g, g = upd m k 2 := ⟨_, rfl⟩
          have HG := lhid hg
          have hq : ∀ X, (binOp .eql 42 (.agg #[.int .u8 (g 0), .int .u8 (g 1), .int .u8 (g 2), .int .u8 (g 3), .int .u8 (g 4), .int .u8 (g 5), .int .u8 (g 6), .int .u8 (g 7), .int .u8 (g 8)]) (.agg #[.int .u8 (m 0), .int .u8 (m 1), .int .u8 (m 2), .int .u8 (m 3), .int .u8 (m 4), .int .u8 (m 5), .int .u8 (m 6), .int .u8 (m 7), .int .u8 (m 8)])).run Try.prog X = .ok (.bool true) X := fun X => by rw [eql_arr 42 Try.underlying42 g m X, hg, allEq_upd_same HE.out]
          clear hg
          go_enter Try.func24, Try.ntmps24
          go_upto_region 4 with (fail)
          refine wp_named (fun w' => (ArrAt w' w.heap.size m ∧ ArrAt w' (w.heap.size + 1) zeroM) ∧ ArrAt w' (w.heap.size + 1 + 1) m ∧ Below w.heap.size w w') ?_ ?_
          · exact ⟨⟨((ArrAt.new w m 42 _ rfl).alloc _).alloc _, (ArrAt.new _ zeroM 42 _ (by simp)).alloc _⟩, ArrAt.new _ m 42 _ (by simp), (((Below.refl _ _).alloc (Nat.le_refl _) _).alloc (by simp) _).alloc (by simp; omega) _⟩
          rintro w1 ⟨⟨hM1, hZ1⟩, hX1, HB1⟩
          have cst := hX1.1 k hk
          have fst_ := hX1.2 k hk
          have cmk := hM1.1 k hk
          have HD : ArrAt (w1.setCell ⟨w.heap.size + 1 + 1, k, none⟩ (.int .u8 2)) (w.heap.size + 1 + 1) g := by rw [HG.out]; exact hX1.set k hk 2
          have HM2 : ArrAt (w1.setCell ⟨w.heap.size + 1 + 1, k, none⟩ (.int .u8 2)) w.heap.size m := hM1.other (by omega) _
          have HZ : ArrAt (w1.setCell ⟨w.heap.size + 1 + 1, k, none⟩ (.int .u8 2)) (w.heap.size + 1) zeroM := hZ1.other (by omega) _
          have cmk2 := HM2.1 k hk
          have d0 := HD.1 0 (by omega)
          have d1 := HD.1 1 (by omega)
          have d2 := HD.1 2 (by omega)
          have d3 := HD.1 3 (by omega)
          have d4 := HD.1 4 (by omega)
          have d5 := HD.1 5 (by omega)
          have d6 := HD.1 6 (by omega)
          have d7 := HD.1 7 (by omega)
          have d8 := HD.1 8 (by omega)
          have e0 := HM2.1 0 (by omega)
          have e1 := HM2.1 1 (by omega)
          have e2 := HM2.1 2 (by omega)
          have e3 := HM2.1 3 (by omega)
          have e4 := HM2.1 4 (by omega)
          have e5 := HM2.1 5 (by omega)
          have e6 := HM2.1 6 (by omega)
          have e7 := HM2.1 7 (by omega)
          have e8 := HM2.1 8 (by omega)
          have y0 := HZ.1 0 (by omega)
          have x0 := HZ.2 0 (by omega)
          have y1 := HZ.1 1 (by omega)
          have x1 := HZ.2 1 (by omega)
          have y2 := HZ.1 2 (by omega)
          have x2 := HZ.2 2 (by omega)
          have y3 := HZ.1 3 (by omega)
          have x3 := HZ.2 3 (by omega)
          have y4 := HZ.1 4 (by omega)
          have x4 := HZ.2 4 (by omega)
          have y5 := HZ.1 5 (by omega)
          have x5 := HZ.2 5 (by omega)
          have y6 := HZ.1 6 (by omega)
          have x6 := HZ.2 6 (by omega)
          have y7 := HZ.1 7 (by omega)
          have x7 := HZ.2 7 (by omega)
          have y8 := HZ.1 8 (by omega)
          have x8 := HZ.2 8 (by omega)
          have HZ2 := lhid HZ
          have HD2 := lhid HD
          clear HD HM2 HZ hM1 hZ1 hX1
          go_wp2
          refine bodyPost_ret (v := .tuple #[.agg #[.int .u8 0, .int .u8 0, .int .u8 0, .int .u8 0, .int .u8 0, .int .u8 0, .int .u8 0, .int .u8 0, .int .u8 0], .int .i64 3]) (by simp [results, Try.results24, go_sem, y0, y1, y2, y3, y4, y5, y6, y7, y8]) rfl ⟨?_, ?_⟩
          · rw [HR.out]; rfl
          · have HB := HB1.setCell (p := ⟨w.heap.size + 1 + 1, k, none⟩) (by simp; omega) (.int .u8 2)
            exact (((((((((HB).setCell (p := ⟨w.heap.size + 1, 0, none⟩) (by simp) _).setCell (p := ⟨w.heap.size + 1, 1, none⟩) (by simp) _).setCell (p := ⟨w.heap.size + 1, 2, none⟩) (by simp) _).setCell (p := ⟨w.heap.size + 1, 3, none⟩) (by simp) _).setCell (p := ⟨w.heap.size + 1, 4, none⟩) (by simp) _).setCell (p := ⟨w.heap.size + 1, 5, none⟩) (by simp) _).setCell (p := ⟨w.heap.size + 1, 6, none⟩) (by simp) _).setCell (p := ⟨w.heap.size + 1, 7, none⟩) (by simp) _).setCell (p := ⟨w.heap.size + 1, 8, none⟩) (by simp) _
        · have tb0 : (m k == 0) = false := beq_eq_false_iff_ne.2 (by omega)
          have tb1 : (m k == 1) = false := beq_eq_false_iff_ne.2 (by omega)
          have HE : Hid (¬ m k = 2) := lhid (by omega)
          have HR : Hid (changeM m k 2 = (upd m k 2, 0)) := by show changeM m k 2 = (upd m k 2, 0); rw [HC.out, if_neg HE.out, if_neg (by omega)]
          clear HC
          obtain ⟨g, hg⟩ : ∃ g, g = upd m k 2 := ⟨_, rfl⟩
          have HG := lhid hg
          have hq : ∀ X, (binOp .eql 42 (.agg #[.int .u8 (g 0), .int .u8 (g 1), .int .u8 (g 2), .int .u8 (g 3), .int .u8 (g 4), .int .u8 (g 5), .int .u8 (g 6), .int .u8 (g 7), .int .u8 (g 8)]) (.agg #[.int .u8 (m 0), .int .u8 (m 1), .int .u8 (m 2), .int .u8 (m 3), .int .u8 (m 4), .int .u8 (m 5), .int .u8 (m 6), .int .u8 (m 7), .int .u8 (m 8)])).run Try.prog X = .ok (.bool false) X := fun X => by rw [eql_arr 42 Try.underlying42 g m X, hg, allEq_upd_other hk HE.out]
          clear hg
          go_enter Try.func24, Try.ntmps24
          go_upto_region 4 with (fail)
          refine wp_named (fun w' => (ArrAt w' w.heap.size m ∧ ArrAt w' (w.heap.size + 1) zeroM) ∧ ArrAt w' (w.heap.size + 1 + 1) m ∧ Below w.heap.size w w') ?_ ?_
          · exact ⟨⟨((ArrAt.new w m 42 _ rfl).alloc _).alloc _, (ArrAt.new _ zeroM 42 _ (by simp)).alloc _⟩, ArrAt.new _ m 42 _ (by simp), (((Below.refl _ _).alloc (Nat.le_refl _) _).alloc (by simp) _).alloc (by simp; omega) _⟩
          rintro w1 ⟨⟨hM1, hZ1⟩, hX1, HB1⟩
          have cst := hX1.1 k hk
          have fst_ := hX1.2 k hk
          have cmk := hM1.1 k hk
          have HD : ArrAt (w1.setCell ⟨w.heap.size + 1 + 1, k, none⟩ (.int .u8 2)) (w.heap.size + 1 + 1) g := by rw [HG.out]; exact hX1.set k hk 2
          have HM2 : ArrAt (w1.setCell ⟨w.heap.size + 1 + 1, k, none⟩ (.int .u8 2)) w.heap.size m := hM1.other (by omega) _
          have HZ : ArrAt (w1.setCell ⟨w.heap.size + 1 + 1, k, none⟩ (.int .u8 2)) (w.heap.size + 1) zeroM := hZ1.other (by omega) _
          have cmk2 := HM2.1 k hk
          have d0 := HD.1 0 (by omega)
          have d1 := HD.1 1 (by omega)
          have d2 := HD.1 2 (by omega)
          have d3 := HD.1 3 (by omega)
          have d4 := HD.1 4 (by omega)
          have d5 := HD.1 5 (by omega)
          have d6 := HD.1 6 (by omega)
          have d7 := HD.1 7 (by omega)
          have d8 := HD.1 8 (by omega)
          have e0 := HM2.1 0 (by omega)
          have e1 := HM2.1 1 (by omega)
          have e2 := HM2.1 2 (by omega)
          have e3 := HM2.1 3 (by omega)
          have e4 := HM2.1 4 (by omega)
          have e5 := HM2.1 5 (by omega)
          have e6 := HM2.1 6 (by omega)
          have e7 := HM2.1 7 (by omega)
          have e8 := HM2.1 8 (by omega)
          have y0 := HZ.1 0 (by omega)
          have x0 := HZ.2 0 (by omega)
          have y1 := HZ.1 1 (by omega)
          have x1 := HZ.2 1 (by omega)
          have y2 := HZ.1 2 (by omega)
          have x2 := HZ.2 2 (by omega)
          have y3 := HZ.1 3 (by omega)
          have x3 := HZ.2 3 (by omega)
          have y4 := HZ.1 4 (by omega)
          have x4 := HZ.2 4 (by omega)
          have y5 := HZ.1 5 (by omega)
          have x5 := HZ.2 5 (by omega)
          have y6 := HZ.1 6 (by omega)
          have x6 := HZ.2 6 (by omega)
          have y7 := HZ.1 7 (by omega)
          have x7 := HZ.2 7 (by omega)
          have y8 := HZ.1 8 (by omega)
          have x8 := HZ.2 8 (by omega)
          have HZ2 := lhid HZ
          have HD2 := lhid HD
          clear HD HM2 HZ hM1 hZ1 hX1
          go_wp2
          refine bodyPost_ret (v := .tuple #[.agg #[.int .u8 (g 0), .int .u8 (g 1), .int .u8 (g 2), .int .u8 (g 3), .int .u8 (g 4), .int .u8 (g 5), .int .u8 (g 6), .int .u8 (g 7), .int .u8 (g 8)], .int .i64 0]) (by simp [results, Try.results24, go_sem, y0, y1, y2, y3, y4, y5, y6, y7, y8]) rfl ⟨?_, ?_⟩
          · rw [HR.out, HG.out]
          · have HB := HB1.setCell (p := ⟨w.heap.size + 1 + 1, k, none⟩) (by simp; omega) (.int .u8 2)
            exact (((((((((HB).setCell (p := ⟨w.heap.size + 1, 0, none⟩) (by simp) _).setCell (p := ⟨w.heap.size + 1, 1, none⟩) (by simp) _).setCell (p := ⟨w.heap.size + 1, 2, none⟩) (by simp) _).setCell (p := ⟨w.heap.size + 1, 3, none⟩) (by simp) _).setCell (p := ⟨w.heap.size + 1, 4, none⟩) (by simp) _).setCell (p := ⟨w.heap.size + 1, 5, none⟩) (by simp) _).setCell (p := ⟨w.heap.size + 1, 6, none⟩) (by simp) _).setCell (p := ⟨w.heap.size + 1, 7, none⟩) (by simp) _).setCell (p := ⟨w.heap.size + 1, 8, none⟩) (by simp) _

theorem change_any (m : Nat → Int) (hm : ∀ k, k < 9 → 0 ≤ m k ∧ m k ≤ 255) (node role : Int) (w : World) :
    Calls Try.prog 24 #[.agg #[.int .u8 (m 0), .int .u8 (m 1), .int .u8 (m 2), .int .u8 (m 3), .int .u8 (m 4), .int .u8 (m 5), .int .u8 (m 6), .int .u8 (m 7), .int .u8 (m 8)], .int .i64 node, .int .i64 role] w fun e w' => e = .returned (.tuple #[.agg #[.int .u8 ((changeM m node role).1 0), .int .u8 ((changeM m node role).1 1), .int .u8 ((changeM m node role).1 2), .int .u8 ((changeM m node role).1 3), .int .u8 ((changeM m node role).1 4), .int .u8 ((changeM m node role).1 5), .int .u8 ((changeM m node role).1 6), .int .u8 ((changeM m node role).1 7), .int .u8 ((changeM m node role).1 8)], .int .i64 (changeM m node role).2]) ∧ Below w.heap.size w w' := by
  by_cases h : node < 0 ∨ 9 ≤ node ∨ role < 0 ∨ 2 < role
  · exact change_out m node role w (by omega)
  · obtain ⟨k, rfl⟩ : ∃ k : Nat, node = k := ⟨node.toNat, by omega⟩
    exact change_in m hm k role (by omega) (by omega) (by omega) w

end Go.Proofs.Ytccopcbemflemaa
