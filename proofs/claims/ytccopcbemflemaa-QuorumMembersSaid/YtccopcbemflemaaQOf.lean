/-
  The walk of quorum.Of.
-/
import Derived.Test.YtccopcbemflemaaQPlain
namespace Go.Proofs.Ytccopcbemflemaa
open Go Go.RowKit

def stageOf (fv : Nat → Int) (n : Nat) (fl : Nat → Int) (p : Nat) : Nat → Option (Nat → Int)
  | 0 => some zeroM
  | 1 => some zeroM
  | 2 => placeK fv 1 n zeroM
  | _ => (placeK fv 1 n zeroM).bind (placeK fl 2 p)

/-- What lies in memory as quorum.Of goes round. -/
def OfMem (w wr : World) (m : Nat → Int) (v l : Value) : Prop :=
  ArrAt wr (w.heap.size + 1) m ∧ ArrAt wr w.heap.size zeroM ∧ wr.cell? ⟨w.heap.size + 1 + 1, 0, none⟩ = some (.slice none 0 0) ∧ wr.cell? ⟨w.heap.size + 1 + 1, 1, none⟩ = some v ∧ wr.cell? ⟨w.heap.size + 1 + 1, 2, none⟩ = some l ∧ Below w.heap.size w wr

set_option maxRecDepth 100000 in
set_option maxHeartbeats 2000000 in
theorem of_any (a0 a1 : Option Addr) (n c0 p c1 : Nat) (z0 z1 : List Int) (hn : n ≤ 100) (hp : p ≤ 100) (w : World) (hN0 : Nums w a0 n z0) (hN1 : Nums w a1 p z1) :
    Calls Try.prog 18 #[.slice a0 n c0, .slice a1 p c1] w fun e w' =>
      e = .returned (.tuple #[.agg #[.int .u8 ((ofM (fun i => z0[i]?.getD 0) n (fun i => z1[i]?.getD 0) p).1 0), .int .u8 ((ofM (fun i => z0[i]?.getD 0) n (fun i => z1[i]?.getD 0) p).1 1), .int .u8 ((ofM (fun i => z0[i]?.getD 0) n (fun i => z1[i]?.getD 0) p).1 2), .int .u8 ((ofM (fun i => z0[i]?.getD 0) n (fun i => z1[i]?.getD 0) p).1 3), .int .u8 ((ofM (fun i => z0[i]?.getD 0) n (fun i => z1[i]?.getD 0) p).1 4), .int .u8 ((ofM (fun i => z0[i]?.getD 0) n (fun i => z1[i]?.getD 0) p).1 5), .int .u8 ((ofM (fun i => z0[i]?.getD 0) n (fun i => z1[i]?.getD 0) p).1 6), .int .u8 ((ofM (fun i => z0[i]?.getD 0) n (fun i => z1[i]?.getD 0) p).1 7), .int .u8 ((ofM (fun i => z0[i]?.getD 0) n (fun i => z1[i]?.getD 0) p).1 8)], .int .i64 (ofM (fun i => z0[i]?.getD 0) n (fun i => z1[i]?.getD 0) p).2]) ∧ Below w.heap.size w w' := by
  have HN0 := lhid hN0
  have HN1 := lhid hN1
  clear hN0 hN1
  go_enter Try.func18, Try.ntmps18
  go_wp2
  go_loopw [15] (fun i wr => ∃ k : Nat, k ≤ 3 ∧ i = .int .i64 k ∧ ∃ m, Hid (stageOf (fun i => z0[i]?.getD 0) n (fun i => z1[i]?.getD 0) p k = some m ∧ OfMem w wr m (.slice a0 n c0) (.slice a1 p c1))) (fun i _ => 3 - (intOf i).toNat)
  case atStart =>
    refine ⟨0, by omega, rfl, zeroM, lhid ⟨rfl, ((ArrAt.new _ zeroM 42 _ (by simp)).alloc _), (((ArrAt.new _ zeroM 42 _ rfl).alloc _).alloc _), ?_⟩⟩
    refine ⟨by go_simp, by go_simp, by go_simp, (((Below.refl _ _).alloc (Nat.le_refl _) _).alloc (by simp) _).alloc (by simp; omega) _⟩
  case round =>
    obtain ⟨k, hk, rfl, m, HS⟩ := hrel
    have hs0 := HS.out.2.2.2.1
    have hs1 := HS.out.2.2.2.2.1
    have hs2 := HS.out.2.2.2.2.2.1
    rcases (show k = 0 ∨ k = 1 ∨ k = 2 ∨ k = 3 by omega) with rfl | rfl | rfl | rfl
    · rw [show ((0 : Nat) : Int) = 0 from rfl]
      go_wp2_with fail
      refine wp_loop_rounds 1 ?_
      rw [rounds_succ]
      go_wp2
      go_roundw
      case rel => exact ⟨1, by omega, rfl, m, HS⟩
      case measure => simp [intOf]
    · have HS0 : Hid (placeK (fun i => z0[i]?.getD 0) 1 0 zeroM = some m) := HS.out.1
      rw [show ((1 : Nat) : Int) = 1 from rfl]
      go_wp2_with fail
      go_loopw [22] (fun i wi => ∃ j : Nat, j ≤ n ∧ i = .int .i64 j ∧ ∃ m', Hid (placeK (fun i => z0[i]?.getD 0) 1 j zeroM = some m' ∧ OfMem w wi m' (.slice a0 n c0) (.slice a1 p c1))) (fun i _ => n - (intOf i).toNat)
      case atStart => exact ⟨0, by omega, rfl, m, lhid ⟨HS0.out, HS.out.2⟩⟩
      case round =>
        obtain ⟨j, hj, rfl, m', HJ⟩ := hrel
        by_cases hlt : j < n
        · have HBj := HJ.out.2.2.2.2.2.2
          obtain ⟨ab, off, rfl, _, hcell⟩ := (HN0.out.below HBj (Nat.le_refl _)) j hlt
          clear HBj
          obtain ⟨y, hy⟩ : ∃ y : Int, y = z0[j]?.getD 0 := ⟨_, rfl⟩
          rw [← hy] at hcell
          have EY := lhid hy
          clear hy
          by_cases hneg : y < 0
          · have HX : Hid (placeK (fun i => z0[i]?.getD 0) 1 (j + 1) zeroM = none) := by rw [placeK, HJ.out.1]; exact place1_no _ _ _ (.inl (by rw [← EY.out]; exact hneg))
            have HZ := HJ.out.2.2.1
            have y0 := HZ.1 0 (by omega)
            have x0 := HZ.2 0 (by omega)
            have y1 := HZ.1 1 (by omega)
            have x1 := HZ.2 1 (by omega)
            have y2 := HZ.1 2 (by omega)
            have x2 := HZ.2 2 (by omega)
            have y3 := HZ.1 3 (by omega)
            have x3 := HZ.2 3 (by omega)
            have y4 := HZ.1 4 (by omega)
            have x4 := HZ.2 4 (by omega)
            have y5 := HZ.1 5 (by omega)
            have x5 := HZ.2 5 (by omega)
            have y6 := HZ.1 6 (by omega)
            have x6 := HZ.2 6 (by omega)
            have y7 := HZ.1 7 (by omega)
            have x7 := HZ.2 7 (by omega)
            have y8 := HZ.1 8 (by omega)
            have x8 := HZ.2 8 (by omega)
            clear HZ
            have HB := HJ.out.2.2.2.2.2.2
            go_wp2
            refine bodyPost_ret (v := .tuple #[.agg #[.int .u8 0, .int .u8 0, .int .u8 0, .int .u8 0, .int .u8 0, .int .u8 0, .int .u8 0, .int .u8 0, .int .u8 0], .int .i64 1]) (by simp [results, Try.results18, go_sem, y0, y1, y2, y3, y4, y5, y6, y7, y8]) rfl ⟨?_, ?_⟩
            · rw [ofM_none _ _ _ _ (by rw [placeK_none (fun i => z0[i]?.getD 0) 1 zeroM (j + 1) n (by omega) HX.out]; rfl)]; rfl
            · exact (((((((((HB).setCell (p := ⟨w.heap.size, 0, none⟩) (Nat.le_refl _) _).setCell (p := ⟨w.heap.size, 1, none⟩) (Nat.le_refl _) _).setCell (p := ⟨w.heap.size, 2, none⟩) (Nat.le_refl _) _).setCell (p := ⟨w.heap.size, 3, none⟩) (Nat.le_refl _) _).setCell (p := ⟨w.heap.size, 4, none⟩) (Nat.le_refl _) _).setCell (p := ⟨w.heap.size, 5, none⟩) (Nat.le_refl _) _).setCell (p := ⟨w.heap.size, 6, none⟩) (Nat.le_refl _) _).setCell (p := ⟨w.heap.size, 7, none⟩) (Nat.le_refl _) _).setCell (p := ⟨w.heap.size, 8, none⟩) (Nat.le_refl _) _
          · by_cases hbig : 9 ≤ y
            · have HX : Hid (placeK (fun i => z0[i]?.getD 0) 1 (j + 1) zeroM = none) := by rw [placeK, HJ.out.1]; exact place1_no _ _ _ (.inr (.inl (by rw [← EY.out]; exact hbig)))
              have HZ := HJ.out.2.2.1
              have y0 := HZ.1 0 (by omega)
              have x0 := HZ.2 0 (by omega)
              have y1 := HZ.1 1 (by omega)
              have x1 := HZ.2 1 (by omega)
              have y2 := HZ.1 2 (by omega)
              have x2 := HZ.2 2 (by omega)
              have y3 := HZ.1 3 (by omega)
              have x3 := HZ.2 3 (by omega)
              have y4 := HZ.1 4 (by omega)
              have x4 := HZ.2 4 (by omega)
              have y5 := HZ.1 5 (by omega)
              have x5 := HZ.2 5 (by omega)
              have y6 := HZ.1 6 (by omega)
              have x6 := HZ.2 6 (by omega)
              have y7 := HZ.1 7 (by omega)
              have x7 := HZ.2 7 (by omega)
              have y8 := HZ.1 8 (by omega)
              have x8 := HZ.2 8 (by omega)
              clear HZ
              have HB := HJ.out.2.2.2.2.2.2
              go_wp2
              refine bodyPost_ret (v := .tuple #[.agg #[.int .u8 0, .int .u8 0, .int .u8 0, .int .u8 0, .int .u8 0, .int .u8 0, .int .u8 0, .int .u8 0, .int .u8 0], .int .i64 1]) (by simp [results, Try.results18, go_sem, y0, y1, y2, y3, y4, y5, y6, y7, y8]) rfl ⟨?_, ?_⟩
              · rw [ofM_none _ _ _ _ (by rw [placeK_none (fun i => z0[i]?.getD 0) 1 zeroM (j + 1) n (by omega) HX.out]; rfl)]; rfl
              · exact (((((((((HB).setCell (p := ⟨w.heap.size, 0, none⟩) (Nat.le_refl _) _).setCell (p := ⟨w.heap.size, 1, none⟩) (Nat.le_refl _) _).setCell (p := ⟨w.heap.size, 2, none⟩) (Nat.le_refl _) _).setCell (p := ⟨w.heap.size, 3, none⟩) (Nat.le_refl _) _).setCell (p := ⟨w.heap.size, 4, none⟩) (Nat.le_refl _) _).setCell (p := ⟨w.heap.size, 5, none⟩) (Nat.le_refl _) _).setCell (p := ⟨w.heap.size, 6, none⟩) (Nat.le_refl _) _).setCell (p := ⟨w.heap.size, 7, none⟩) (Nat.le_refl _) _).setCell (p := ⟨w.heap.size, 8, none⟩) (Nat.le_refl _) _
            · obtain ⟨x, hx⟩ : ∃ x : Nat, y = x := ⟨y.toNat, by omega⟩
              subst hx
              have hx9 : x < 9 := by omega
              clear hneg hbig
              have hcx := HJ.out.2.1.1 x hx9
              have hfx := HJ.out.2.1.2 x hx9
              by_cases hmx : m' x = 0
              · have EX := lhid EY.out
                rw [hmx] at hcx
                have HN' : Hid (placeK (fun i => z0[i]?.getD 0) 1 (j + 1) zeroM = some (upd m' x 1)) := by rw [placeK, HJ.out.1]; exact place1_yes _ _ _ x hx9 EX.out.symm hmx
                go_wp2
                go_roundw
                case rel => exact ⟨j + 1, by omega, by go_num, _, lhid ⟨HN'.out, HJ.out.2.1.set x hx9 1, HJ.out.2.2.1.other (by omega) _, (cs_far (by simp)).trans HJ.out.2.2.2.1, (cs_far (by simp)).trans HJ.out.2.2.2.2.1, (cs_far (by simp)).trans HJ.out.2.2.2.2.2.1, HJ.out.2.2.2.2.2.2.setCell (p := ⟨w.heap.size + 1, x, none⟩) (by simp) _⟩⟩
                case measure => simp [intOf]; omega
              · have hbx : (m' x == 0) = false := beq_eq_false_iff_ne.2 hmx
                have hbn : (m' x != 0) = true := by simp [hmx]
                have HX : Hid (placeK (fun i => z0[i]?.getD 0) 1 (j + 1) zeroM = none) := by rw [placeK, HJ.out.1]; exact place1_no _ _ _ (.inr (.inr ⟨by rw [← EY.out]; omega, by rw [← EY.out]; omega, by rw [← EY.out]; simpa using hmx⟩))
                have HZ := HJ.out.2.2.1
                have y0 := HZ.1 0 (by omega)
                have x0 := HZ.2 0 (by omega)
                have y1 := HZ.1 1 (by omega)
                have x1 := HZ.2 1 (by omega)
                have y2 := HZ.1 2 (by omega)
                have x2 := HZ.2 2 (by omega)
                have y3 := HZ.1 3 (by omega)
                have x3 := HZ.2 3 (by omega)
                have y4 := HZ.1 4 (by omega)
                have x4 := HZ.2 4 (by omega)
                have y5 := HZ.1 5 (by omega)
                have x5 := HZ.2 5 (by omega)
                have y6 := HZ.1 6 (by omega)
                have x6 := HZ.2 6 (by omega)
                have y7 := HZ.1 7 (by omega)
                have x7 := HZ.2 7 (by omega)
                have y8 := HZ.1 8 (by omega)
                have x8 := HZ.2 8 (by omega)
                clear HZ
                have HB := HJ.out.2.2.2.2.2.2
                go_wp2
                refine bodyPost_ret (v := .tuple #[.agg #[.int .u8 0, .int .u8 0, .int .u8 0, .int .u8 0, .int .u8 0, .int .u8 0, .int .u8 0, .int .u8 0, .int .u8 0], .int .i64 1]) (by simp [results, Try.results18, go_sem, y0, y1, y2, y3, y4, y5, y6, y7, y8]) rfl ⟨?_, ?_⟩
                · rw [ofM_none _ _ _ _ (by rw [placeK_none (fun i => z0[i]?.getD 0) 1 zeroM (j + 1) n (by omega) HX.out]; rfl)]; rfl
                · exact (((((((((HB).setCell (p := ⟨w.heap.size, 0, none⟩) (Nat.le_refl _) _).setCell (p := ⟨w.heap.size, 1, none⟩) (Nat.le_refl _) _).setCell (p := ⟨w.heap.size, 2, none⟩) (Nat.le_refl _) _).setCell (p := ⟨w.heap.size, 3, none⟩) (Nat.le_refl _) _).setCell (p := ⟨w.heap.size, 4, none⟩) (Nat.le_refl _) _).setCell (p := ⟨w.heap.size, 5, none⟩) (Nat.le_refl _) _).setCell (p := ⟨w.heap.size, 6, none⟩) (Nat.le_refl _) _).setCell (p := ⟨w.heap.size, 7, none⟩) (Nat.le_refl _) _).setCell (p := ⟨w.heap.size, 8, none⟩) (Nat.le_refl _) _
        · obtain rfl : n = j := by omega
          go_wp2_with fail
          go_roundw
          case rel => exact ⟨2, by omega, rfl, m', HJ⟩
          case measure => simp [intOf]
    · have HS0 : Hid ((placeK (fun i => z0[i]?.getD 0) 1 n zeroM).bind (placeK (fun i => z1[i]?.getD 0) 2 0) = some m) := by
        have h := HS.out.1
        simp only [stageOf] at h
        rw [h]; rfl
      rw [show ((2 : Nat) : Int) = 2 from rfl]
      go_wp2_with fail
      go_loopw [22] (fun i wi => ∃ j : Nat, j ≤ p ∧ i = .int .i64 j ∧ ∃ m', Hid ((placeK (fun i => z0[i]?.getD 0) 1 n zeroM).bind (placeK (fun i => z1[i]?.getD 0) 2 j) = some m' ∧ OfMem w wi m' (.slice a0 n c0) (.slice a1 p c1))) (fun i _ => p - (intOf i).toNat)
      case atStart => exact ⟨0, by omega, rfl, m, lhid ⟨HS0.out, HS.out.2⟩⟩
      case round =>
        obtain ⟨j, hj, rfl, m', HJ⟩ := hrel
        by_cases hlt : j < p
        · have HBj := HJ.out.2.2.2.2.2.2
          obtain ⟨ab, off, rfl, _, hcell⟩ := (HN1.out.below HBj (Nat.le_refl _)) j hlt
          clear HBj
          obtain ⟨y, hy⟩ : ∃ y : Int, y = z1[j]?.getD 0 := ⟨_, rfl⟩
          rw [← hy] at hcell
          have EY := lhid hy
          clear hy
          by_cases hneg : y < 0
          · have HX : Hid ((placeK (fun i => z0[i]?.getD 0) 1 n zeroM).bind (placeK (fun i => z1[i]?.getD 0) 2 p) = none) := by
              cases hq : placeK (fun i => z0[i]?.getD 0) 1 n zeroM with
              | none => rfl
              | some q =>
                have h1 := HJ.out.1
                rw [hq, Option.bind_some] at h1
                rw [Option.bind_some]
                exact placeK_none (fun i => z1[i]?.getD 0) 2 q (j + 1) p (by omega) (by rw [placeK, h1]; exact place1_no _ _ _ (.inl (by rw [← EY.out]; exact hneg)))
            have HZ := HJ.out.2.2.1
            have y0 := HZ.1 0 (by omega)
            have x0 := HZ.2 0 (by omega)
            have y1 := HZ.1 1 (by omega)
            have x1 := HZ.2 1 (by omega)
            have y2 := HZ.1 2 (by omega)
            have x2 := HZ.2 2 (by omega)
            have y3 := HZ.1 3 (by omega)
            have x3 := HZ.2 3 (by omega)
            have y4 := HZ.1 4 (by omega)
            have x4 := HZ.2 4 (by omega)
            have y5 := HZ.1 5 (by omega)
            have x5 := HZ.2 5 (by omega)
            have y6 := HZ.1 6 (by omega)
            have x6 := HZ.2 6 (by omega)
            have y7 := HZ.1 7 (by omega)
            have x7 := HZ.2 7 (by omega)
            have y8 := HZ.1 8 (by omega)
            have x8 := HZ.2 8 (by omega)
            clear HZ
            have HB := HJ.out.2.2.2.2.2.2
            go_wp2
            refine bodyPost_ret (v := .tuple #[.agg #[.int .u8 0, .int .u8 0, .int .u8 0, .int .u8 0, .int .u8 0, .int .u8 0, .int .u8 0, .int .u8 0, .int .u8 0], .int .i64 1]) (by simp [results, Try.results18, go_sem, y0, y1, y2, y3, y4, y5, y6, y7, y8]) rfl ⟨?_, ?_⟩
            · rw [ofM_none _ _ _ _ HX.out]; rfl
            · exact (((((((((HB).setCell (p := ⟨w.heap.size, 0, none⟩) (Nat.le_refl _) _).setCell (p := ⟨w.heap.size, 1, none⟩) (Nat.le_refl _) _).setCell (p := ⟨w.heap.size, 2, none⟩) (Nat.le_refl _) _).setCell (p := ⟨w.heap.size, 3, none⟩) (Nat.le_refl _) _).setCell (p := ⟨w.heap.size, 4, none⟩) (Nat.le_refl _) _).setCell (p := ⟨w.heap.size, 5, none⟩) (Nat.le_refl _) _).setCell (p := ⟨w.heap.size, 6, none⟩) (Nat.le_refl _) _).setCell (p := ⟨w.heap.size, 7, none⟩) (Nat.le_refl _) _).setCell (p := ⟨w.heap.size, 8, none⟩) (Nat.le_refl _) _
          · by_cases hbig : 9 ≤ y
            · have HX : Hid ((placeK (fun i => z0[i]?.getD 0) 1 n zeroM).bind (placeK (fun i => z1[i]?.getD 0) 2 p) = none) := by
                cases hq : placeK (fun i => z0[i]?.getD 0) 1 n zeroM with
                | none => rfl
                | some q =>
                  have h1 := HJ.out.1
                  rw [hq, Option.bind_some] at h1
                  rw [Option.bind_some]
                  exact placeK_none (fun i => z1[i]?.getD 0) 2 q (j + 1) p (by omega) (by rw [placeK, h1]; exact place1_no _ _ _ (.inr (.inl (by rw [← EY.out]; exact hbig))))
              have HZ := HJ.out.2.2.1
              have y0 := HZ.1 0 (by omega)
              have x0 := HZ.2 0 (by omega)
              have y1 := HZ.1 1 (by omega)
              have x1 := HZ.2 1 (by omega)
              have y2 := HZ.1 2 (by omega)
              have x2 := HZ.2 2 (by omega)
              have y3 := HZ.1 3 (by omega)
              have x3 := HZ.2 3 (by omega)
              have y4 := HZ.1 4 (by omega)
              have x4 := HZ.2 4 (by omega)
              have y5 := HZ.1 5 (by omega)
              have x5 := HZ.2 5 (by omega)
              have y6 := HZ.1 6 (by omega)
              have x6 := HZ.2 6 (by omega)
              have y7 := HZ.1 7 (by omega)
              have x7 := HZ.2 7 (by omega)
              have y8 := HZ.1 8 (by omega)
              have x8 := HZ.2 8 (by omega)
              clear HZ
              have HB := HJ.out.2.2.2.2.2.2
              go_wp2
              refine bodyPost_ret (v := .tuple #[.agg #[.int .u8 0, .int .u8 0, .int .u8 0, .int .u8 0, .int .u8 0, .int .u8 0, .int .u8 0, .int .u8 0, .int .u8 0], .int .i64 1]) (by simp [results, Try.results18, go_sem, y0, y1, y2, y3, y4, y5, y6, y7, y8]) rfl ⟨?_, ?_⟩
              · rw [ofM_none _ _ _ _ HX.out]; rfl
              · exact (((((((((HB).setCell (p := ⟨w.heap.size, 0, none⟩) (Nat.le_refl _) _).setCell (p := ⟨w.heap.size, 1, none⟩) (Nat.le_refl _) _).setCell (p := ⟨w.heap.size, 2, none⟩) (Nat.le_refl _) _).setCell (p := ⟨w.heap.size, 3, none⟩) (Nat.le_refl _) _).setCell (p := ⟨w.heap.size, 4, none⟩) (Nat.le_refl _) _).setCell (p := ⟨w.heap.size, 5, none⟩) (Nat.le_refl _) _).setCell (p := ⟨w.heap.size, 6, none⟩) (Nat.le_refl _) _).setCell (p := ⟨w.heap.size, 7, none⟩) (Nat.le_refl _) _).setCell (p := ⟨w.heap.size, 8, none⟩) (Nat.le_refl _) _
            · obtain ⟨x, hx⟩ : ∃ x : Nat, y = x := ⟨y.toNat, by omega⟩
              subst hx
              have hx9 : x < 9 := by omega
              clear hneg hbig
              have hcx := HJ.out.2.1.1 x hx9
              have hfx := HJ.out.2.1.2 x hx9
              by_cases hmx : m' x = 0
              · have EX := lhid EY.out
                rw [hmx] at hcx
                have HN' : Hid ((placeK (fun i => z0[i]?.getD 0) 1 n zeroM).bind (placeK (fun i => z1[i]?.getD 0) 2 (j + 1)) = some (upd m' x 2)) := by
                    cases hq : placeK (fun i => z0[i]?.getD 0) 1 n zeroM with
                    | none => have h1 := HJ.out.1; rw [hq] at h1; cases h1
                    | some q =>
                      have h1 := HJ.out.1
                      rw [hq, Option.bind_some] at h1
                      rw [Option.bind_some, placeK, h1]
                      exact place1_yes _ _ _ x hx9 EX.out.symm hmx
                go_wp2
                go_roundw
                case rel => exact ⟨j + 1, by omega, by go_num, _, lhid ⟨HN'.out, HJ.out.2.1.set x hx9 2, HJ.out.2.2.1.other (by omega) _, (cs_far (by simp)).trans HJ.out.2.2.2.1, (cs_far (by simp)).trans HJ.out.2.2.2.2.1, (cs_far (by simp)).trans HJ.out.2.2.2.2.2.1, HJ.out.2.2.2.2.2.2.setCell (p := ⟨w.heap.size + 1, x, none⟩) (by simp) _⟩⟩
                case measure => simp [intOf]; omega
              · have hbx : (m' x == 0) = false := beq_eq_false_iff_ne.2 hmx
                have hbn : (m' x != 0) = true := by simp [hmx]
                have HX : Hid ((placeK (fun i => z0[i]?.getD 0) 1 n zeroM).bind (placeK (fun i => z1[i]?.getD 0) 2 p) = none) := by
                  cases hq : placeK (fun i => z0[i]?.getD 0) 1 n zeroM with
                  | none => rfl
                  | some q =>
                    have h1 := HJ.out.1
                    rw [hq, Option.bind_some] at h1
                    rw [Option.bind_some]
                    exact placeK_none (fun i => z1[i]?.getD 0) 2 q (j + 1) p (by omega) (by rw [placeK, h1]; exact place1_no _ _ _ (.inr (.inr ⟨by rw [← EY.out]; omega, by rw [← EY.out]; omega, by rw [← EY.out]; simpa using hmx⟩)))
                have HZ := HJ.out.2.2.1
                have y0 := HZ.1 0 (by omega)
                have x0 := HZ.2 0 (by omega)
                have y1 := HZ.1 1 (by omega)
                have x1 := HZ.2 1 (by omega)
                have y2 := HZ.1 2 (by omega)
                have x2 := HZ.2 2 (by omega)
                have y3 := HZ.1 3 (by omega)
                have x3 := HZ.2 3 (by omega)
                have y4 := HZ.1 4 (by omega)
                have x4 := HZ.2 4 (by omega)
                have y5 := HZ.1 5 (by omega)
                have x5 := HZ.2 5 (by omega)
                have y6 := HZ.1 6 (by omega)
                have x6 := HZ.2 6 (by omega)
                have y7 := HZ.1 7 (by omega)
                have x7 := HZ.2 7 (by omega)
                have y8 := HZ.1 8 (by omega)
                have x8 := HZ.2 8 (by omega)
                clear HZ
                have HB := HJ.out.2.2.2.2.2.2
                go_wp2
                refine bodyPost_ret (v := .tuple #[.agg #[.int .u8 0, .int .u8 0, .int .u8 0, .int .u8 0, .int .u8 0, .int .u8 0, .int .u8 0, .int .u8 0, .int .u8 0], .int .i64 1]) (by simp [results, Try.results18, go_sem, y0, y1, y2, y3, y4, y5, y6, y7, y8]) rfl ⟨?_, ?_⟩
                · rw [ofM_none _ _ _ _ HX.out]; rfl
                · exact (((((((((HB).setCell (p := ⟨w.heap.size, 0, none⟩) (Nat.le_refl _) _).setCell (p := ⟨w.heap.size, 1, none⟩) (Nat.le_refl _) _).setCell (p := ⟨w.heap.size, 2, none⟩) (Nat.le_refl _) _).setCell (p := ⟨w.heap.size, 3, none⟩) (Nat.le_refl _) _).setCell (p := ⟨w.heap.size, 4, none⟩) (Nat.le_refl _) _).setCell (p := ⟨w.heap.size, 5, none⟩) (Nat.le_refl _) _).setCell (p := ⟨w.heap.size, 6, none⟩) (Nat.le_refl _) _).setCell (p := ⟨w.heap.size, 7, none⟩) (Nat.le_refl _) _).setCell (p := ⟨w.heap.size, 8, none⟩) (Nat.le_refl _) _
        · obtain rfl : p = j := by omega
          go_wp2_with fail
          go_roundw
          case rel => exact ⟨3, by omega, rfl, m', HJ⟩
          case measure => simp [intOf]
    · rw [show ((3 : Nat) : Int) = 3 from rfl]
      by_cases h0 : n = 0
      · subst h0
        have HZ := HS.out.2.2.1
        have y0 := HZ.1 0 (by omega)
        have x0 := HZ.2 0 (by omega)
        have y1 := HZ.1 1 (by omega)
        have x1 := HZ.2 1 (by omega)
        have y2 := HZ.1 2 (by omega)
        have x2 := HZ.2 2 (by omega)
        have y3 := HZ.1 3 (by omega)
        have x3 := HZ.2 3 (by omega)
        have y4 := HZ.1 4 (by omega)
        have x4 := HZ.2 4 (by omega)
        have y5 := HZ.1 5 (by omega)
        have x5 := HZ.2 5 (by omega)
        have y6 := HZ.1 6 (by omega)
        have x6 := HZ.2 6 (by omega)
        have y7 := HZ.1 7 (by omega)
        have x7 := HZ.2 7 (by omega)
        have y8 := HZ.1 8 (by omega)
        have x8 := HZ.2 8 (by omega)
        clear HZ
        have HB := HS.out.2.2.2.2.2.2
        go_wp2
        refine bodyPost_ret (v := .tuple #[.agg #[.int .u8 0, .int .u8 0, .int .u8 0, .int .u8 0, .int .u8 0, .int .u8 0, .int .u8 0, .int .u8 0, .int .u8 0], .int .i64 1]) (by simp [results, Try.results18, go_sem, y0, y1, y2, y3, y4, y5, y6, y7, y8]) rfl ⟨?_, ?_⟩
        · rw [ofM_empty]; rfl
        · exact (((((((((HB).setCell (p := ⟨w.heap.size, 0, none⟩) (Nat.le_refl _) _).setCell (p := ⟨w.heap.size, 1, none⟩) (Nat.le_refl _) _).setCell (p := ⟨w.heap.size, 2, none⟩) (Nat.le_refl _) _).setCell (p := ⟨w.heap.size, 3, none⟩) (Nat.le_refl _) _).setCell (p := ⟨w.heap.size, 4, none⟩) (Nat.le_refl _) _).setCell (p := ⟨w.heap.size, 5, none⟩) (Nat.le_refl _) _).setCell (p := ⟨w.heap.size, 6, none⟩) (Nat.le_refl _) _).setCell (p := ⟨w.heap.size, 7, none⟩) (Nat.le_refl _) _).setCell (p := ⟨w.heap.size, 8, none⟩) (Nat.le_refl _) _
      · have hb0 : ((n : Int) == 0) = false := beq_eq_false_iff_ne.2 (by omega)
        have HE : Hid (ofM (fun i => z0[i]?.getD 0) n (fun i => z1[i]?.getD 0) p = (m, 0)) := ofM_some _ _ _ _ _ (by omega) HS.out.1
        have HA := HS.out.2.1
        have q0 := HA.1 0 (by omega)
        have q1 := HA.1 1 (by omega)
        have q2 := HA.1 2 (by omega)
        have q3 := HA.1 3 (by omega)
        have q4 := HA.1 4 (by omega)
        have q5 := HA.1 5 (by omega)
        have q6 := HA.1 6 (by omega)
        have q7 := HA.1 7 (by omega)
        have q8 := HA.1 8 (by omega)
        clear HA
        have HZ := HS.out.2.2.1
        have y0 := HZ.1 0 (by omega)
        have x0 := HZ.2 0 (by omega)
        have y1 := HZ.1 1 (by omega)
        have x1 := HZ.2 1 (by omega)
        have y2 := HZ.1 2 (by omega)
        have x2 := HZ.2 2 (by omega)
        have y3 := HZ.1 3 (by omega)
        have x3 := HZ.2 3 (by omega)
        have y4 := HZ.1 4 (by omega)
        have x4 := HZ.2 4 (by omega)
        have y5 := HZ.1 5 (by omega)
        have x5 := HZ.2 5 (by omega)
        have y6 := HZ.1 6 (by omega)
        have x6 := HZ.2 6 (by omega)
        have y7 := HZ.1 7 (by omega)
        have x7 := HZ.2 7 (by omega)
        have y8 := HZ.1 8 (by omega)
        have x8 := HZ.2 8 (by omega)
        clear HZ
        have HB := HS.out.2.2.2.2.2.2
        go_wp2
        refine bodyPost_ret (v := .tuple #[.agg #[.int .u8 (m 0), .int .u8 (m 1), .int .u8 (m 2), .int .u8 (m 3), .int .u8 (m 4), .int .u8 (m 5), .int .u8 (m 6), .int .u8 (m 7), .int .u8 (m 8)], .int .i64 0]) (by simp [results, Try.results18, go_sem, y0, y1, y2, y3, y4, y5, y6, y7, y8]) rfl ⟨?_, ?_⟩
        · rw [HE.out]
        · exact (((((((((HB).setCell (p := ⟨w.heap.size, 0, none⟩) (Nat.le_refl _) _).setCell (p := ⟨w.heap.size, 1, none⟩) (Nat.le_refl _) _).setCell (p := ⟨w.heap.size, 2, none⟩) (Nat.le_refl _) _).setCell (p := ⟨w.heap.size, 3, none⟩) (Nat.le_refl _) _).setCell (p := ⟨w.heap.size, 4, none⟩) (Nat.le_refl _) _).setCell (p := ⟨w.heap.size, 5, none⟩) (Nat.le_refl _) _).setCell (p := ⟨w.heap.size, 6, none⟩) (Nat.le_refl _) _).setCell (p := ⟨w.heap.size, 7, none⟩) (Nat.le_refl _) _).setCell (p := ⟨w.heap.size, 8, none⟩) (Nat.le_refl _) _

end Go.Proofs.Ytccopcbemflemaa
