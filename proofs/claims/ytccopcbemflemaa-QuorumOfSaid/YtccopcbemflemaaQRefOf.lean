/-
  The walk of the reference's Of.
-/
import Derived.Test.YtccopcbemflemaaQPlain
namespace Go.Proofs.Ytccopcbemflemaa
open Go Go.RowKit

/-- The state after i nodes of both rows. -/
def stR (fv : Nat → Int) (n : Nat) (fl : Nat → Int) (i : Nat) : Option (Nat → Int) := (placeK fv 1 (min i n) zeroM).bind (placeK fl 2 (i - n))
theorem stR_lo (fv : Nat → Int) (n : Nat) (fl : Nat → Int) (i : Nat) (h : i ≤ n) : stR fv n fl i = placeK fv 1 i zeroM := by
  unfold stR
  rw [Nat.min_eq_left h, Nat.sub_eq_zero_of_le h]
  cases placeK fv 1 i zeroM <;> rfl
theorem stR_hi (fv : Nat → Int) (n : Nat) (fl : Nat → Int) (j : Nat) : stR fv n fl (n + j) = (placeK fv 1 n zeroM).bind (placeK fl 2 j) := by
  unfold stR
  rw [Nat.min_eq_right (by omega), Nat.add_sub_cancel_left]

/-- What lies in memory as the reference's Of goes round. -/
def RefMem (w wr : World) (m : Nat → Int) : Prop := ArrAt wr (w.heap.size + 1) m ∧ ArrAt wr w.heap.size zeroM ∧ Below w.heap.size w wr

set_option maxRecDepth 100000 in
set_option maxHeartbeats 2000000 in
theorem refOf_any (a0 a1 : Option Addr) (n c0 p c1 : Nat) (z0 z1 : List Int) (hn : n ≤ 100) (hp : p ≤ 100) (w : World) (hN0 : Nums w a0 n z0) (hN1 : Nums w a1 p z1) :
    Calls Try.prog 19 #[.slice a0 n c0, .slice a1 p c1] w fun e w' =>
      e = .returned (.tuple #[.agg #[.int .u8 ((ofM (fun i => z0[i]?.getD 0) n (fun i => z1[i]?.getD 0) p).1 0), .int .u8 ((ofM (fun i => z0[i]?.getD 0) n (fun i => z1[i]?.getD 0) p).1 1), .int .u8 ((ofM (fun i => z0[i]?.getD 0) n (fun i => z1[i]?.getD 0) p).1 2), .int .u8 ((ofM (fun i => z0[i]?.getD 0) n (fun i => z1[i]?.getD 0) p).1 3), .int .u8 ((ofM (fun i => z0[i]?.getD 0) n (fun i => z1[i]?.getD 0) p).1 4), .int .u8 ((ofM (fun i => z0[i]?.getD 0) n (fun i => z1[i]?.getD 0) p).1 5), .int .u8 ((ofM (fun i => z0[i]?.getD 0) n (fun i => z1[i]?.getD 0) p).1 6), .int .u8 ((ofM (fun i => z0[i]?.getD 0) n (fun i => z1[i]?.getD 0) p).1 7), .int .u8 ((ofM (fun i => z0[i]?.getD 0) n (fun i => z1[i]?.getD 0) p).1 8)], .int .i64 (ofM (fun i => z0[i]?.getD 0) n (fun i => z1[i]?.getD 0) p).2]) ∧ Below w.heap.size w w' := by
  have HN0 := lhid hN0
  have HN1 := lhid hN1
  clear hN0 hN1
  go_enter Try.func19, Try.ntmps19
  go_wp2
  go_loopw [7] (fun i wr => ∃ k : Nat, k ≤ n + p ∧ i = .int .i64 k ∧ ∃ m', Hid (stR (fun i => z0[i]?.getD 0) n (fun i => z1[i]?.getD 0) k = some m' ∧ RefMem w wr m')) (fun i _ => n + p - (intOf i).toNat)
  case atStart =>
    exact ⟨0, by omega, rfl, zeroM, lhid ⟨stR_lo _ _ _ _ (by omega), (ArrAt.new _ zeroM 41 _ (by simp)), ((ArrAt.new _ zeroM 41 _ rfl).alloc _), ((Below.refl _ _).alloc (Nat.le_refl _) _).alloc (by simp) _⟩⟩
  case round =>
    obtain ⟨k, hk, rfl, m', HJ⟩ := hrel
    by_cases hlt : k < n
    · have HJ0 : Hid (placeK (fun i => z0[i]?.getD 0) 1 k zeroM = some m') := by have h := HJ.out.1; rw [stR_lo _ _ _ _ (by omega)] at h; exact h
      have HBj := HJ.out.2.2.2
      obtain ⟨ab, off, rfl, _, hcell⟩ := (HN0.out.below HBj (Nat.le_refl _)) k (by omega)
      clear HBj
      obtain ⟨y, hy⟩ : ∃ y : Int, y = z0[k]?.getD 0 := ⟨_, rfl⟩
      rw [← hy] at hcell
      have EY := lhid hy
      clear hy
      by_cases hneg : y < 0
      · have HX : ofM (fun i => z0[i]?.getD 0) n (fun i => z1[i]?.getD 0) p = (zeroM, 1) := by
          refine ofM_none _ _ _ _ ?_
          rw [placeK_none (fun i => z0[i]?.getD 0) 1 zeroM (k + 1) n (by omega) (by rw [placeK, HJ0.out]; exact place1_no _ _ _ (.inl (by rw [← EY.out]; exact hneg)))]
          rfl
        have HXH := lhid HX
        clear HX
        have HZ := HJ.out.2.2.1
        have y0 := HZ.1 0 (by omega)
        have x0 := HZ.2 0 (by omega)
        have y1 := HZ.1 1 (by omega)
        have x1 := HZ.2 1 (by omega)
        have y2 := HZ.1 2 (by omega)
        have x2 := HZ.2 2 (by omega)
        have y3 := HZ.1 3 (by omega)
        have x3 := HZ.2 3 (by omega)
        have y4 := HZ.1 4 (by omega)
        have x4 := HZ.2 4 (by omega)
        have y5 := HZ.1 5 (by omega)
        have x5 := HZ.2 5 (by omega)
        have y6 := HZ.1 6 (by omega)
        have x6 := HZ.2 6 (by omega)
        have y7 := HZ.1 7 (by omega)
        have x7 := HZ.2 7 (by omega)
        have y8 := HZ.1 8 (by omega)
        have x8 := HZ.2 8 (by omega)
        clear HZ
        have HB := HJ.out.2.2.2
        go_wp2
        refine bodyPost_ret (v := .tuple #[.agg #[.int .u8 0, .int .u8 0, .int .u8 0, .int .u8 0, .int .u8 0, .int .u8 0, .int .u8 0, .int .u8 0, .int .u8 0], .int .i64 1]) (by simp [results, Try.results19, go_sem, y0, y1, y2, y3, y4, y5, y6, y7, y8]) rfl ⟨?_, ?_⟩
        · rw [HXH.out]; rfl
        · exact (((((((((HB).setCell (p := ⟨w.heap.size, 0, none⟩) (Nat.le_refl _) _).setCell (p := ⟨w.heap.size, 1, none⟩) (Nat.le_refl _) _).setCell (p := ⟨w.heap.size, 2, none⟩) (Nat.le_refl _) _).setCell (p := ⟨w.heap.size, 3, none⟩) (Nat.le_refl _) _).setCell (p := ⟨w.heap.size, 4, none⟩) (Nat.le_refl _) _).setCell (p := ⟨w.heap.size, 5, none⟩) (Nat.le_refl _) _).setCell (p := ⟨w.heap.size, 6, none⟩) (Nat.le_refl _) _).setCell (p := ⟨w.heap.size, 7, none⟩) (Nat.le_refl _) _).setCell (p := ⟨w.heap.size, 8, none⟩) (Nat.le_refl _) _
      · by_cases hbig : 9 ≤ y
        · have HX : ofM (fun i => z0[i]?.getD 0) n (fun i => z1[i]?.getD 0) p = (zeroM, 1) := by
            refine ofM_none _ _ _ _ ?_
            rw [placeK_none (fun i => z0[i]?.getD 0) 1 zeroM (k + 1) n (by omega) (by rw [placeK, HJ0.out]; exact place1_no _ _ _ (.inr (.inl (by rw [← EY.out]; exact hbig))))]
            rfl
          have HXH := lhid HX
          clear HX
          have HZ := HJ.out.2.2.1
          have y0 := HZ.1 0 (by omega)
          have x0 := HZ.2 0 (by omega)
          have y1 := HZ.1 1 (by omega)
          have x1 := HZ.2 1 (by omega)
          have y2 := HZ.1 2 (by omega)
          have x2 := HZ.2 2 (by omega)
          have y3 := HZ.1 3 (by omega)
          have x3 := HZ.2 3 (by omega)
          have y4 := HZ.1 4 (by omega)
          have x4 := HZ.2 4 (by omega)
          have y5 := HZ.1 5 (by omega)
          have x5 := HZ.2 5 (by omega)
          have y6 := HZ.1 6 (by omega)
          have x6 := HZ.2 6 (by omega)
          have y7 := HZ.1 7 (by omega)
          have x7 := HZ.2 7 (by omega)
          have y8 := HZ.1 8 (by omega)
          have x8 := HZ.2 8 (by omega)
          clear HZ
          have HB := HJ.out.2.2.2
          go_wp2
          refine bodyPost_ret (v := .tuple #[.agg #[.int .u8 0, .int .u8 0, .int .u8 0, .int .u8 0, .int .u8 0, .int .u8 0, .int .u8 0, .int .u8 0, .int .u8 0], .int .i64 1]) (by simp [results, Try.results19, go_sem, y0, y1, y2, y3, y4, y5, y6, y7, y8]) rfl ⟨?_, ?_⟩
          · rw [HXH.out]; rfl
          · exact (((((((((HB).setCell (p := ⟨w.heap.size, 0, none⟩) (Nat.le_refl _) _).setCell (p := ⟨w.heap.size, 1, none⟩) (Nat.le_refl _) _).setCell (p := ⟨w.heap.size, 2, none⟩) (Nat.le_refl _) _).setCell (p := ⟨w.heap.size, 3, none⟩) (Nat.le_refl _) _).setCell (p := ⟨w.heap.size, 4, none⟩) (Nat.le_refl _) _).setCell (p := ⟨w.heap.size, 5, none⟩) (Nat.le_refl _) _).setCell (p := ⟨w.heap.size, 6, none⟩) (Nat.le_refl _) _).setCell (p := ⟨w.heap.size, 7, none⟩) (Nat.le_refl _) _).setCell (p := ⟨w.heap.size, 8, none⟩) (Nat.le_refl _) _
        · obtain ⟨x, hx⟩ : ∃ x : Nat, y = x := ⟨y.toNat, by omega⟩
          subst hx
          have hx9 : x < 9 := by omega
          clear hneg hbig
          have hcx := HJ.out.2.1.1 x hx9
          have hfx := HJ.out.2.1.2 x hx9
          by_cases hmx : m' x = 0
          · rw [hmx] at hcx
            have HN' : Hid (stR (fun i => z0[i]?.getD 0) n (fun i => z1[i]?.getD 0) (k + 1) = some (upd m' x 1)) := by
              rw [stR_lo _ _ _ _ (by omega), placeK, HJ0.out]
              exact place1_yes _ _ _ x hx9 EY.out.symm hmx
            go_wp2
            go_roundw
            case rel => exact ⟨k + 1, by omega, by go_num, _, lhid ⟨HN'.out, HJ.out.2.1.set x hx9 1, HJ.out.2.2.1.other (by omega) _, HJ.out.2.2.2.setCell (p := ⟨w.heap.size + 1, x, none⟩) (by simp) _⟩⟩
            case measure => simp [intOf]; omega
          · have hbx : (m' x == 0) = false := beq_eq_false_iff_ne.2 hmx
            have hbn : (m' x != 0) = true := by simp [hmx]
            have HX : ofM (fun i => z0[i]?.getD 0) n (fun i => z1[i]?.getD 0) p = (zeroM, 1) := by
              refine ofM_none _ _ _ _ ?_
              rw [placeK_none (fun i => z0[i]?.getD 0) 1 zeroM (k + 1) n (by omega) (by rw [placeK, HJ0.out]; exact place1_no _ _ _ (.inr (.inr ⟨by rw [← EY.out]; omega, by rw [← EY.out]; omega, by rw [← EY.out]; simpa using hmx⟩)))]
              rfl
            have HXH := lhid HX
            clear HX
            have HZ := HJ.out.2.2.1
            have y0 := HZ.1 0 (by omega)
            have x0 := HZ.2 0 (by omega)
            have y1 := HZ.1 1 (by omega)
            have x1 := HZ.2 1 (by omega)
            have y2 := HZ.1 2 (by omega)
            have x2 := HZ.2 2 (by omega)
            have y3 := HZ.1 3 (by omega)
            have x3 := HZ.2 3 (by omega)
            have y4 := HZ.1 4 (by omega)
            have x4 := HZ.2 4 (by omega)
            have y5 := HZ.1 5 (by omega)
            have x5 := HZ.2 5 (by omega)
            have y6 := HZ.1 6 (by omega)
            have x6 := HZ.2 6 (by omega)
            have y7 := HZ.1 7 (by omega)
            have x7 := HZ.2 7 (by omega)
            have y8 := HZ.1 8 (by omega)
            have x8 := HZ.2 8 (by omega)
            clear HZ
            have HB := HJ.out.2.2.2
            go_wp2
            refine bodyPost_ret (v := .tuple #[.agg #[.int .u8 0, .int .u8 0, .int .u8 0, .int .u8 0, .int .u8 0, .int .u8 0, .int .u8 0, .int .u8 0, .int .u8 0], .int .i64 1]) (by simp [results, Try.results19, go_sem, y0, y1, y2, y3, y4, y5, y6, y7, y8]) rfl ⟨?_, ?_⟩
            · rw [HXH.out]; rfl
            · exact (((((((((HB).setCell (p := ⟨w.heap.size, 0, none⟩) (Nat.le_refl _) _).setCell (p := ⟨w.heap.size, 1, none⟩) (Nat.le_refl _) _).setCell (p := ⟨w.heap.size, 2, none⟩) (Nat.le_refl _) _).setCell (p := ⟨w.heap.size, 3, none⟩) (Nat.le_refl _) _).setCell (p := ⟨w.heap.size, 4, none⟩) (Nat.le_refl _) _).setCell (p := ⟨w.heap.size, 5, none⟩) (Nat.le_refl _) _).setCell (p := ⟨w.heap.size, 6, none⟩) (Nat.le_refl _) _).setCell (p := ⟨w.heap.size, 7, none⟩) (Nat.le_refl _) _).setCell (p := ⟨w.heap.size, 8, none⟩) (Nat.le_refl _) _
    · by_cases hlp : k < n + p
      · obtain ⟨j, rfl⟩ : ∃ j, k = n + j := ⟨k - n, by omega⟩
        have HJ0 : Hid ((placeK (fun i => z0[i]?.getD 0) 1 n zeroM).bind (placeK (fun i => z1[i]?.getD 0) 2 j) = some m') := by have h := HJ.out.1; rw [stR_hi] at h; exact h
        have HBj := HJ.out.2.2.2
        obtain ⟨ab, off, rfl, _, hcell⟩ := (HN1.out.below HBj (Nat.le_refl _)) j (by omega)
        clear HBj
        obtain ⟨y, hy⟩ : ∃ y : Int, y = z1[j]?.getD 0 := ⟨_, rfl⟩
        rw [← hy] at hcell
        have EY := lhid hy
        clear hy
        by_cases hneg : y < 0
        · have HX : ofM (fun i => z0[i]?.getD 0) n (fun i => z1[i]?.getD 0) p = (zeroM, 1) := by
            refine ofM_none _ _ _ _ ?_
            cases hq : placeK (fun i => z0[i]?.getD 0) 1 n zeroM with
            | none => rfl
            | some q =>
              have h1 := HJ0.out
              rw [hq, Option.bind_some] at h1
              rw [Option.bind_some]
              exact placeK_none (fun i => z1[i]?.getD 0) 2 q (j + 1) p (by omega) (by rw [placeK, h1]; exact place1_no _ _ _ (.inl (by rw [← EY.out]; exact hneg)))
          have HXH := lhid HX
          clear HX
          have HZ := HJ.out.2.2.1
          have y0 := HZ.1 0 (by omega)
          have x0 := HZ.2 0 (by omega)
          have y1 := HZ.1 1 (by omega)
          have x1 := HZ.2 1 (by omega)
          have y2 := HZ.1 2 (by omega)
          have x2 := HZ.2 2 (by omega)
          have y3 := HZ.1 3 (by omega)
          have x3 := HZ.2 3 (by omega)
          have y4 := HZ.1 4 (by omega)
          have x4 := HZ.2 4 (by omega)
          have y5 := HZ.1 5 (by omega)
          have x5 := HZ.2 5 (by omega)
          have y6 := HZ.1 6 (by omega)
          have x6 := HZ.2 6 (by omega)
          have y7 := HZ.1 7 (by omega)
          have x7 := HZ.2 7 (by omega)
          have y8 := HZ.1 8 (by omega)
          have x8 := HZ.2 8 (by omega)
          clear HZ
          have HB := HJ.out.2.2.2
          go_wp2
          refine bodyPost_ret (v := .tuple #[.agg #[.int .u8 0, .int .u8 0, .int .u8 0, .int .u8 0, .int .u8 0, .int .u8 0, .int .u8 0, .int .u8 0, .int .u8 0], .int .i64 1]) (by simp [results, Try.results19, go_sem, y0, y1, y2, y3, y4, y5, y6, y7, y8]) rfl ⟨?_, ?_⟩
          · rw [HXH.out]; rfl
          · exact (((((((((HB).setCell (p := ⟨w.heap.size, 0, none⟩) (Nat.le_refl _) _).setCell (p := ⟨w.heap.size, 1, none⟩) (Nat.le_refl _) _).setCell (p := ⟨w.heap.size, 2, none⟩) (Nat.le_refl _) _).setCell (p := ⟨w.heap.size, 3, none⟩) (Nat.le_refl _) _).setCell (p := ⟨w.heap.size, 4, none⟩) (Nat.le_refl _) _).setCell (p := ⟨w.heap.size, 5, none⟩) (Nat.le_refl _) _).setCell (p := ⟨w.heap.size, 6, none⟩) (Nat.le_refl _) _).setCell (p := ⟨w.heap.size, 7, none⟩) (Nat.le_refl _) _).setCell (p := ⟨w.heap.size, 8, none⟩) (Nat.le_refl _) _
        · by_cases hbig : 9 ≤ y
          · have HX : ofM (fun i => z0[i]?.getD 0) n (fun i => z1[i]?.getD 0) p = (zeroM, 1) := by
              refine ofM_none _ _ _ _ ?_
              cases hq : placeK (fun i => z0[i]?.getD 0) 1 n zeroM with
              | none => rfl
              | some q =>
                have h1 := HJ0.out
                rw [hq, Option.bind_some] at h1
                rw [Option.bind_some]
                exact placeK_none (fun i => z1[i]?.getD 0) 2 q (j + 1) p (by omega) (by rw [placeK, h1]; exact place1_no _ _ _ (.inr (.inl (by rw [← EY.out]; exact hbig))))
            have HXH := lhid HX
            clear HX
            have HZ := HJ.out.2.2.1
            have y0 := HZ.1 0 (by omega)
            have x0 := HZ.2 0 (by omega)
            have y1 := HZ.1 1 (by omega)
            have x1 := HZ.2 1 (by omega)
            have y2 := HZ.1 2 (by omega)
            have x2 := HZ.2 2 (by omega)
            have y3 := HZ.1 3 (by omega)
            have x3 := HZ.2 3 (by omega)
            have y4 := HZ.1 4 (by omega)
            have x4 := HZ.2 4 (by omega)
            have y5 := HZ.1 5 (by omega)
            have x5 := HZ.2 5 (by omega)
            have y6 := HZ.1 6 (by omega)
            have x6 := HZ.2 6 (by omega)
            have y7 := HZ.1 7 (by omega)
            have x7 := HZ.2 7 (by omega)
            have y8 := HZ.1 8 (by omega)
            have x8 := HZ.2 8 (by omega)
            clear HZ
            have HB := HJ.out.2.2.2
            go_wp2
            refine bodyPost_ret (v := .tuple #[.agg #[.int .u8 0, .int .u8 0, .int .u8 0, .int .u8 0, .int .u8 0, .int .u8 0, .int .u8 0, .int .u8 0, .int .u8 0], .int .i64 1]) (by simp [results, Try.results19, go_sem, y0, y1, y2, y3, y4, y5, y6, y7, y8]) rfl ⟨?_, ?_⟩
            · rw [HXH.out]; rfl
            · exact (((((((((HB).setCell (p := ⟨w.heap.size, 0, none⟩) (Nat.le_refl _) _).setCell (p := ⟨w.heap.size, 1, none⟩) (Nat.le_refl _) _).setCell (p := ⟨w.heap.size, 2, none⟩) (Nat.le_refl _) _).setCell (p := ⟨w.heap.size, 3, none⟩) (Nat.le_refl _) _).setCell (p := ⟨w.heap.size, 4, none⟩) (Nat.le_refl _) _).setCell (p := ⟨w.heap.size, 5, none⟩) (Nat.le_refl _) _).setCell (p := ⟨w.heap.size, 6, none⟩) (Nat.le_refl _) _).setCell (p := ⟨w.heap.size, 7, none⟩) (Nat.le_refl _) _).setCell (p := ⟨w.heap.size, 8, none⟩) (Nat.le_refl _) _
          · obtain ⟨x, hx⟩ : ∃ x : Nat, y = x := ⟨y.toNat, by omega⟩
            subst hx
            have hx9 : x < 9 := by omega
            clear hneg hbig
            have hcx := HJ.out.2.1.1 x hx9
            have hfx := HJ.out.2.1.2 x hx9
            by_cases hmx : m' x = 0
            · rw [hmx] at hcx
              have HN' : Hid (stR (fun i => z0[i]?.getD 0) n (fun i => z1[i]?.getD 0) ((n + j) + 1) = some (upd m' x 2)) := by
                rw [show n + j + 1 = n + (j + 1) by omega, stR_hi]
                cases hq : placeK (fun i => z0[i]?.getD 0) 1 n zeroM with
                | none => have h1 := HJ0.out; rw [hq] at h1; cases h1
                | some q =>
                  have h1 := HJ0.out
                  rw [hq, Option.bind_some] at h1
                  rw [Option.bind_some, placeK, h1]
                  exact place1_yes _ _ _ x hx9 EY.out.symm hmx
              go_wp2
              go_roundw
              case rel => exact ⟨(n + j) + 1, by omega, by go_num, _, lhid ⟨HN'.out, HJ.out.2.1.set x hx9 2, HJ.out.2.2.1.other (by omega) _, HJ.out.2.2.2.setCell (p := ⟨w.heap.size + 1, x, none⟩) (by simp) _⟩⟩
              case measure => simp [intOf]; omega
            · have hbx : (m' x == 0) = false := beq_eq_false_iff_ne.2 hmx
              have hbn : (m' x != 0) = true := by simp [hmx]
              have HX : ofM (fun i => z0[i]?.getD 0) n (fun i => z1[i]?.getD 0) p = (zeroM, 1) := by
                refine ofM_none _ _ _ _ ?_
                cases hq : placeK (fun i => z0[i]?.getD 0) 1 n zeroM with
                | none => rfl
                | some q =>
                  have h1 := HJ0.out
                  rw [hq, Option.bind_some] at h1
                  rw [Option.bind_some]
                  exact placeK_none (fun i => z1[i]?.getD 0) 2 q (j + 1) p (by omega) (by rw [placeK, h1]; exact place1_no _ _ _ (.inr (.inr ⟨by rw [← EY.out]; omega, by rw [← EY.out]; omega, by rw [← EY.out]; simpa using hmx⟩)))
              have HXH := lhid HX
              clear HX
              have HZ := HJ.out.2.2.1
              have y0 := HZ.1 0 (by omega)
              have x0 := HZ.2 0 (by omega)
              have y1 := HZ.1 1 (by omega)
              have x1 := HZ.2 1 (by omega)
              have y2 := HZ.1 2 (by omega)
              have x2 := HZ.2 2 (by omega)
              have y3 := HZ.1 3 (by omega)
              have x3 := HZ.2 3 (by omega)
              have y4 := HZ.1 4 (by omega)
              have x4 := HZ.2 4 (by omega)
              have y5 := HZ.1 5 (by omega)
              have x5 := HZ.2 5 (by omega)
              have y6 := HZ.1 6 (by omega)
              have x6 := HZ.2 6 (by omega)
              have y7 := HZ.1 7 (by omega)
              have x7 := HZ.2 7 (by omega)
              have y8 := HZ.1 8 (by omega)
              have x8 := HZ.2 8 (by omega)
              clear HZ
              have HB := HJ.out.2.2.2
              go_wp2
              refine bodyPost_ret (v := .tuple #[.agg #[.int .u8 0, .int .u8 0, .int .u8 0, .int .u8 0, .int .u8 0, .int .u8 0, .int .u8 0, .int .u8 0, .int .u8 0], .int .i64 1]) (by simp [results, Try.results19, go_sem, y0, y1, y2, y3, y4, y5, y6, y7, y8]) rfl ⟨?_, ?_⟩
              · rw [HXH.out]; rfl
              · exact (((((((((HB).setCell (p := ⟨w.heap.size, 0, none⟩) (Nat.le_refl _) _).setCell (p := ⟨w.heap.size, 1, none⟩) (Nat.le_refl _) _).setCell (p := ⟨w.heap.size, 2, none⟩) (Nat.le_refl _) _).setCell (p := ⟨w.heap.size, 3, none⟩) (Nat.le_refl _) _).setCell (p := ⟨w.heap.size, 4, none⟩) (Nat.le_refl _) _).setCell (p := ⟨w.heap.size, 5, none⟩) (Nat.le_refl _) _).setCell (p := ⟨w.heap.size, 6, none⟩) (Nat.le_refl _) _).setCell (p := ⟨w.heap.size, 7, none⟩) (Nat.le_refl _) _).setCell (p := ⟨w.heap.size, 8, none⟩) (Nat.le_refl _) _
      · obtain rfl : k = n + p := by omega
        by_cases h0 : n = 0
        · subst h0
          have HZ := HJ.out.2.2.1
          have y0 := HZ.1 0 (by omega)
          have x0 := HZ.2 0 (by omega)
          have y1 := HZ.1 1 (by omega)
          have x1 := HZ.2 1 (by omega)
          have y2 := HZ.1 2 (by omega)
          have x2 := HZ.2 2 (by omega)
          have y3 := HZ.1 3 (by omega)
          have x3 := HZ.2 3 (by omega)
          have y4 := HZ.1 4 (by omega)
          have x4 := HZ.2 4 (by omega)
          have y5 := HZ.1 5 (by omega)
          have x5 := HZ.2 5 (by omega)
          have y6 := HZ.1 6 (by omega)
          have x6 := HZ.2 6 (by omega)
          have y7 := HZ.1 7 (by omega)
          have x7 := HZ.2 7 (by omega)
          have y8 := HZ.1 8 (by omega)
          have x8 := HZ.2 8 (by omega)
          clear HZ
          have HB := HJ.out.2.2.2
          go_wp2
          refine bodyPost_ret (v := .tuple #[.agg #[.int .u8 0, .int .u8 0, .int .u8 0, .int .u8 0, .int .u8 0, .int .u8 0, .int .u8 0, .int .u8 0, .int .u8 0], .int .i64 1]) (by simp [results, Try.results19, go_sem, y0, y1, y2, y3, y4, y5, y6, y7, y8]) rfl ⟨?_, ?_⟩
          · rw [ofM_empty]; rfl
          · exact (((((((((HB).setCell (p := ⟨w.heap.size, 0, none⟩) (Nat.le_refl _) _).setCell (p := ⟨w.heap.size, 1, none⟩) (Nat.le_refl _) _).setCell (p := ⟨w.heap.size, 2, none⟩) (Nat.le_refl _) _).setCell (p := ⟨w.heap.size, 3, none⟩) (Nat.le_refl _) _).setCell (p := ⟨w.heap.size, 4, none⟩) (Nat.le_refl _) _).setCell (p := ⟨w.heap.size, 5, none⟩) (Nat.le_refl _) _).setCell (p := ⟨w.heap.size, 6, none⟩) (Nat.le_refl _) _).setCell (p := ⟨w.heap.size, 7, none⟩) (Nat.le_refl _) _).setCell (p := ⟨w.heap.size, 8, none⟩) (Nat.le_refl _) _
        · have hb0 : ((n : Int) == 0) = false := beq_eq_false_iff_ne.2 (by omega)
          have HE : Hid (ofM (fun i => z0[i]?.getD 0) n (fun i => z1[i]?.getD 0) p = (m', 0)) := ofM_some _ _ _ _ _ (by omega) (by have h := HJ.out.1; rw [stR_hi] at h; exact h)
          have HA := HJ.out.2.1
          have q0 := HA.1 0 (by omega)
          have q1 := HA.1 1 (by omega)
          have q2 := HA.1 2 (by omega)
          have q3 := HA.1 3 (by omega)
          have q4 := HA.1 4 (by omega)
          have q5 := HA.1 5 (by omega)
          have q6 := HA.1 6 (by omega)
          have q7 := HA.1 7 (by omega)
          have q8 := HA.1 8 (by omega)
          clear HA
          have HZ := HJ.out.2.2.1
          have y0 := HZ.1 0 (by omega)
          have x0 := HZ.2 0 (by omega)
          have y1 := HZ.1 1 (by omega)
          have x1 := HZ.2 1 (by omega)
          have y2 := HZ.1 2 (by omega)
          have x2 := HZ.2 2 (by omega)
          have y3 := HZ.1 3 (by omega)
          have x3 := HZ.2 3 (by omega)
          have y4 := HZ.1 4 (by omega)
          have x4 := HZ.2 4 (by omega)
          have y5 := HZ.1 5 (by omega)
          have x5 := HZ.2 5 (by omega)
          have y6 := HZ.1 6 (by omega)
          have x6 := HZ.2 6 (by omega)
          have y7 := HZ.1 7 (by omega)
          have x7 := HZ.2 7 (by omega)
          have y8 := HZ.1 8 (by omega)
          have x8 := HZ.2 8 (by omega)
          clear HZ
          have HB := HJ.out.2.2.2
          go_wp2
          refine bodyPost_ret (v := .tuple #[.agg #[.int .u8 (m' 0), .int .u8 (m' 1), .int .u8 (m' 2), .int .u8 (m' 3), .int .u8 (m' 4), .int .u8 (m' 5), .int .u8 (m' 6), .int .u8 (m' 7), .int .u8 (m' 8)], .int .i64 0]) (by simp [results, Try.results19, go_sem, y0, y1, y2, y3, y4, y5, y6, y7, y8]) rfl ⟨?_, ?_⟩
          · rw [HE.out]
          · exact (((((((((HB).setCell (p := ⟨w.heap.size, 0, none⟩) (Nat.le_refl _) _).setCell (p := ⟨w.heap.size, 1, none⟩) (Nat.le_refl _) _).setCell (p := ⟨w.heap.size, 2, none⟩) (Nat.le_refl _) _).setCell (p := ⟨w.heap.size, 3, none⟩) (Nat.le_refl _) _).setCell (p := ⟨w.heap.size, 4, none⟩) (Nat.le_refl _) _).setCell (p := ⟨w.heap.size, 5, none⟩) (Nat.le_refl _) _).setCell (p := ⟨w.heap.size, 6, none⟩) (Nat.le_refl _) _).setCell (p := ⟨w.heap.size, 7, none⟩) (Nat.le_refl _) _).setCell (p := ⟨w.heap.size, 8, none⟩) (Nat.le_refl _) _

end Go.Proofs.Ytccopcbemflemaa
