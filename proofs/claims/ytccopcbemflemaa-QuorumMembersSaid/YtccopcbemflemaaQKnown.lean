/-
  The law's own known (layer 8).
-/
import Derived.Test.YtccopcbemflemaaQIndex
import Derived.Test.YtccopcbemflemaaQOf
namespace Go.Proofs.Ytccopcbemflemaa
open Go Go.RowKit Go.Shelf

/-- Three voters and a learner. -/
def kM (j : Nat) : Int := ([1, 0, 1, 0, 0, 1, 0, 2, 0] : List Int)[j]?.getD 0
theorem kM_bd : ∀ k, k < 9 → 0 ≤ kM k ∧ kM k ≤ 255 := by decide
def kY (j : Nat) : Bool := ([true, false, true] : List Bool)[j]?.getD false
theorem k_of : ∀ j, j < 9 → (ofM (fun i => ([0, 2, 5] : List Int)[i]?.getD 0) 3 (fun i => ([7] : List Int)[i]?.getD 0) 1).1 j = kM j := by decide
theorem k_of2 : (ofM (fun i => ([0, 2, 5] : List Int)[i]?.getD 0) 3 (fun i => ([7] : List Int)[i]?.getD 0) 1).2 = 0 := by decide
theorem k_right : rightB kM = true := by decide
theorem k_most : mst kM = 2 := by decide
theorem k_won : wonB kM kY 3 = true := by decide
theorem k_lost : lostB kM kY 3 = false := by decide
theorem k_index : idxL kM [4, 9, 3, 0, 0, 1, 0, 9] 8 (selK kM 1 9) = 3 := by decide

theorem nums_lit {w : World} {b : Nat} {zs : List Int} {len : Nat} (hb : b < w.heap.size) (hc : ∀ i, i < len → w.cell? ⟨b, i, none⟩ = some (.int .i64 (zs[i]?.getD 0))) : Nums w (some ⟨b, 0, none⟩) len zs :=
  fun i hi => ⟨b, 0, rfl, hb, by simpa using hc i hi⟩
theorem bools_lit {w : World} {b : Nat} {f : Nat → Bool} {len : Nat} (hb : b < w.heap.size) (hc : ∀ i, i < len → w.cell? ⟨b, i, none⟩ = some (.bool (f i))) : Bools w (some ⟨b, 0, none⟩) len f :=
  fun i hi => ⟨b, 0, rfl, hb, by simpa using hc i hi⟩

theorem k_ofc (a0 a1 : Option Addr) (c0 c1 : Nat) (w : World) (h0 : Nums w a0 3 [0, 2, 5]) (h1 : Nums w a1 1 [7]) :
    Calls Try.prog 18 #[.slice a0 3 c0, .slice a1 1 c1] w fun e w' => e = .returned (.tuple #[.agg #[.int .u8 1, .int .u8 0, .int .u8 1, .int .u8 0, .int .u8 0, .int .u8 1, .int .u8 0, .int .u8 2, .int .u8 0], .int .i64 0]) ∧ Below w.heap.size w w' := by
  have h := of_any a0 a1 3 c0 1 c1 [0, 2, 5] [7] (by omega) (by omega) w h0 h1
  rw [k_of2, k_of 0 (by omega), k_of 1 (by omega), k_of 2 (by omega), k_of 3 (by omega), k_of 4 (by omega), k_of 5 (by omega), k_of 6 (by omega), k_of 7 (by omega), k_of 8 (by omega)] at h
  exact h
theorem k_votesc (a : Option Addr) (c : Nat) (w : World) (h : Bools w a 3 kY) :
    Calls Try.prog 23 #[.agg #[.int .u8 1, .int .u8 0, .int .u8 1, .int .u8 0, .int .u8 0, .int .u8 1, .int .u8 0, .int .u8 2, .int .u8 0], .slice a 3 c] w fun e w' => e = .returned (.tuple #[.bool true, .bool false]) ∧ Below w.heap.size w w' := by
  have h := votes_any kM kM_bd a 3 c kY w h
  rw [k_won, k_lost] at h
  exact h
theorem k_rightc (w : World) : Calls Try.prog 20 #[.agg #[.int .u8 1, .int .u8 0, .int .u8 1, .int .u8 0, .int .u8 0, .int .u8 1, .int .u8 0, .int .u8 2, .int .u8 0]] w fun e w' => e = .returned (.bool true) ∧ Below w.heap.size w w' := by
  have h := right_any kM kM_bd w
  rw [k_right] at h
  exact h
theorem k_mostc (w : World) : Calls Try.prog 22 #[.agg #[.int .u8 1, .int .u8 0, .int .u8 1, .int .u8 0, .int .u8 0, .int .u8 1, .int .u8 0, .int .u8 2, .int .u8 0]] w fun e w' => e = .returned (.int .i64 2) ∧ Below w.heap.size w w' := by
  have h := most_of_any kM kM_bd w
  rw [k_most] at h
  exact h
theorem k_indexc (a : Option Addr) (c : Nat) (w : World) (h : Nums w a 8 [4, 9, 3, 0, 0, 1, 0, 9]) :
    Calls Try.prog 21 #[.agg #[.int .u8 1, .int .u8 0, .int .u8 1, .int .u8 0, .int .u8 0, .int .u8 1, .int .u8 0, .int .u8 2, .int .u8 0], .slice a 8 c] w fun e w' => e = .returned (.int .i64 3) ∧ Below w.heap.size w w' := by
  have h := index_any kM kM_bd a 8 c [4, 9, 3, 0, 0, 1, 0, 9] w h
  rw [k_index] at h
  exact h

set_option maxRecDepth 100000 in
set_option maxHeartbeats 1000000 in
theorem knownQ_any (w : World) : Calls Try.prog 17 #[] w fun e w' => e = .returned (.bool true) ∧ Below w.heap.size w w' := by
  go_enter Try.func17, Try.ntmps17
  go_wp2_with fail
  refine (k_ofc _ _ _ _ _ (nums_lit (by simp; omega) ?_) (nums_lit (by simp) ?_)).mono ?_
  · intro i hi
    rcases (show i = 0 ∨ i = 1 ∨ i = 2 by omega) with rfl | rfl | rfl <;> go_simp
  · intro i hi
    obtain rfl : i = 0 := by omega
    go_simp
  rintro e w1 ⟨rfl, hb1⟩
  have HB1 : Below w.heap.size w w1 := (((Below.refl _ _).alloc (Nat.le_refl _) _).alloc (by simp) _).trans (hb1.mono (by simp; omega))
  have hs1 := HB1.size
  clear hb1
  go_wp2_with fail
  refine (k_votesc _ _ _ (bools_lit (by simp) ?_)).mono ?_
  · intro i hi
    rcases (show i = 0 ∨ i = 1 ∨ i = 2 by omega) with rfl | rfl | rfl <;> go_simp <;> rfl
  rintro e w2 ⟨rfl, hb2⟩
  have hc2 := (bcell hb2).1
  have hl2 : w1.heap.size < w2.heap.size := by have := hb2.size; simp at this; omega
  have HB2 : Below w.heap.size w w2 := HB1.trans ((((Below.refl _ _).alloc hs1 _).alloc (by simp; omega) _).trans (hb2.mono (by simp; omega)))
  clear hb2
  have hs2 := HB2.size
  go_wp2_with fail
  refine (k_rightc _).mono ?_
  rintro e w3 ⟨rfl, hb3⟩
  have hc3 := (bcell hb3).1
  have hl3 : w1.heap.size < w3.heap.size := by have := hb3.size; omega
  have HB3 : Below w.heap.size w w3 := HB2.trans (hb3.mono hs2)
  clear hb3
  have hs3 := HB3.size
  go_wp2_with fail
  refine (k_mostc _).mono ?_
  rintro e w4 ⟨rfl, hb4⟩
  have hc4 := (bcell hb4).1
  have hl4 : w1.heap.size < w4.heap.size := by have := hb4.size; omega
  have HB4 : Below w.heap.size w w4 := HB3.trans (hb4.mono hs3)
  clear hb4
  have hs4 := HB4.size
  go_wp2_with fail
  refine (k_indexc _ _ _ (nums_lit (by simp) ?_)).mono ?_
  · intro i hi
    rcases (show i = 0 ∨ i = 1 ∨ i = 2 ∨ i = 3 ∨ i = 4 ∨ i = 5 ∨ i = 6 ∨ i = 7 by omega) with rfl | rfl | rfl | rfl | rfl | rfl | rfl | rfl <;> go_simp
  rintro e w5 ⟨rfl, hb5⟩
  go_wp2_with fail
  go_ret
  exact ⟨rfl, HB4.trans (((Below.refl _ _).alloc hs4 _).trans (hb5.mono (by simp; omega)))⟩

end Go.Proofs.Ytccopcbemflemaa
