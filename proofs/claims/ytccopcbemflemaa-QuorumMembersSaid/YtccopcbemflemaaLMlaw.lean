/-
  Small laws for the walk of QuorumMembers: the nodes of a role, one after the other; Encode, as a string.
-/
import Derived.Test.YtccopcbemflemaaRefE
namespace Go.Proofs.Ytccopcbemflemaa
open Go Go.RowKit Go.Shelf

theorem selK_grow (m : Nat → Int) (r : Int) {i j : Nat} (h : i ≤ j) : ∃ l, selK m r j = selK m r i ++ l := by
  induction j with
  | zero => obtain rfl : i = 0 := by omega
            exact ⟨[], rfl⟩
  | succ j ih =>
    by_cases e : i = j + 1
    · subst e; exact ⟨[], by simp⟩
    · obtain ⟨l, hl⟩ := ih (by omega)
      by_cases hj : j < 9 ∧ m j = r
      · exact ⟨l ++ [⟨j, hj.1⟩], by rw [selK_yes m r j hj.1 hj.2, hl, List.append_assoc]⟩
      · exact ⟨l, by rw [← hl, selK, dif_neg hj]⟩
theorem selK_next {m : Nat → Int} {k k' : Nat} {x : Fin 9} (hk' : k' ≤ 9) (hs : k = 9 ∨ m k = 1) (h : selK m 1 k ++ [x] = selK m 1 k') : k < 9 ∧ x.val = k := by
  have hlt : k < k' := by
    rcases Nat.lt_or_ge k k' with h1 | h1
    · exact h1
    · obtain ⟨l, hl⟩ := selK_grow m 1 h1
      have h2 := congrArg List.length h
      have h3 := congrArg List.length hl
      simp at h2 h3
      omega
  have hm : m k = 1 := hs.elim (fun h1 => by omega) id
  refine ⟨by omega, ?_⟩
  obtain ⟨l, hl⟩ := selK_grow m 1 (show k + 1 ≤ k' from hlt)
  rw [selK_yes m 1 k (by omega) hm, List.append_assoc] at hl
  rw [hl] at h
  have h4 := List.append_cancel_left h
  simp at h4
  rw [h4.1]
theorem selK_end {m : Nat → Int} {k : Nat} (hk : k ≤ 9) (he : selK m 1 k = selK m 1 9) (hs : k = 9 ∨ m k = 1) : k = 9 := by
  rcases hs with h | h
  · exact h
  · rcases Nat.lt_or_ge k 9 with h1 | h1
    · obtain ⟨l, hl⟩ := selK_grow m 1 (show k + 1 ≤ 9 from h1)
      rw [selK_yes m 1 k h1 h, ← he, List.append_assoc] at hl
      have h2 := congrArg List.length hl
      simp at h2
    · omega

theorem encode_str (m : Nat → Int) (w : World) :
    Calls Try.prog 34 #[.agg #[.int .u8 (m 0), .int .u8 (m 1), .int .u8 (m 2), .int .u8 (m 3), .int .u8 (m 4), .int .u8 (m 5), .int .u8 (m 6), .int .u8 (m 7), .int .u8 (m 8)]] w fun e w' =>
      ∃ v, e = .returned v ∧ Below w.heap.size w w' ∧ (convert 59 9 v).run Try.prog w' = .ok (.string (strOfNums [m 0, m 1, m 2, m 3, m 4, m 5, m 6, m 7, m 8])) w' :=
  (encode_any m w).mono fun _ w' ⟨g, cap, he, hN, hb⟩ => ⟨_, he, hb, nine_string 59 m w' g cap Try.underlying59 hN⟩

theorem arr_of {w : World} {b : Nat} {m : Nat → Int} (h : BlockAt w b #[.int .u8 (m 0), .int .u8 (m 1), .int .u8 (m 2), .int .u8 (m 3), .int .u8 (m 4), .int .u8 (m 5), .int .u8 (m 6), .int .u8 (m 7), .int .u8 (m 8)] 42) : ArrAt w b m := by
  refine arrAt_block h fun j hj => ?_
  rcases (show j = 0 ∨ j = 1 ∨ j = 2 ∨ j = 3 ∨ j = 4 ∨ j = 5 ∨ j = 6 ∨ j = 7 ∨ j = 8 by omega) with rfl | rfl | rfl | rfl | rfl | rfl | rfl | rfl | rfl <;> rfl

/-- The number in a box. -/
def boxNum (W : World) (B : Nat) : Nat := match W.cell? ⟨B, 0, none⟩ with
  | some (.int _ n) => n.toNat
  | _ => 0
theorem boxNum_of {W : World} {B k : Nat} {t : TypeId} (h : Boxed W B t (.int .i64 k)) : boxNum W B = k := by
  unfold boxNum
  rw [h.cell]
  simp

end Go.Proofs.Ytccopcbemflemaa
