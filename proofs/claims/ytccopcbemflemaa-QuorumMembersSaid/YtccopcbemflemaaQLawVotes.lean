/-
  The law QuorumVotes: the plain facts, and the walk.
-/
import Derived.Test.YtccopcbemflemaaQIndexLaw
import Derived.Deep.AppendLies
namespace Go.Proofs.Ytccopcbemflemaa
open Go Go.RowKit Go.Shelf

theorem aye_noe (f : Nat → Bool) (n : Nat) (l : List (Fin 9)) : ayeN f n l + noeN f n l ≤ l.length := by
  unfold ayeN noeN
  induction l with
  | nil => simp
  | cons x l ih =>
    simp only [List.filter_cons]
    by_cases h1 : x.val < n
    · cases f x.val <;> simp [h1] <;> omega
    · simp [h1]; omega
theorem aye_mono (f g : Nat → Bool) (n n' : Nat) (l : List (Fin 9)) (h : ∀ i, i < n → f i = true → i < n' ∧ g i = true) : ayeN f n l ≤ ayeN g n' l :=
  filter_mono _ _ _ fun x _ hx => by
    simp only [Bool.and_eq_true, decide_eq_true_iff] at hx ⊢
    exact h x.val hx.1 hx.2
theorem noe_mono (f g : Nat → Bool) (n n' : Nat) (l : List (Fin 9)) (h : ∀ i, i < n → f i = false → i < n' ∧ g i = false) : noeN f n l ≤ noeN g n' l :=
  filter_mono _ _ _ fun x _ hx => by
    simp only [Bool.and_eq_true, decide_eq_true_iff, Bool.not_eq_true'] at hx ⊢
    exact h x.val hx.1 hx.2

def updB (f : Nat → Bool) (k : Nat) (b : Bool) : Nat → Bool := fun i => if i = k then b else f i
theorem not_both (m : Nat → Int) (f : Nat → Bool) (n : Nat) : ¬ (wonB m f n = true ∧ lostB m f n = true) := by
  intro h
  have h1 : mst m ≤ ayeN f n (selK m 1 9) := by simpa [wonB] using h.1
  have h2 : cnt m 1 - noeN f n (selK m 1 9) < mst m := by simpa [lostB] using h.2
  have h3 := aye_noe f n (selK m 1 9)
  unfold cnt at h2
  omega
theorem won_mono (m : Nat → Int) (f g : Nat → Bool) (n n' : Nat) (h : ∀ i, i < n → f i = true → i < n' ∧ g i = true) (hw : wonB m f n = true) : wonB m g n' = true := by
  have h1 : mst m ≤ ayeN f n (selK m 1 9) := by simpa [wonB] using hw
  have h2 := aye_mono f g n n' (selK m 1 9) h
  simp only [wonB, decide_eq_true_iff]
  omega
theorem lost_mono (m : Nat → Int) (f g : Nat → Bool) (n n' : Nat) (h : ∀ i, i < n → f i = false → i < n' ∧ g i = false) (hw : lostB m f n = true) : lostB m g n' = true := by
  have h1 : cnt m 1 - noeN f n (selK m 1 9) < mst m := by simpa [lostB] using hw
  have h2 := noe_mono f g n n' (selK m 1 9) h
  simp only [lostB, decide_eq_true_iff]
  omega

/-! ### A slice of bools of the call's own -/
def boolRow (f : Nat → Bool) (n : Nat) : List Value := (List.range n).map fun i => .bool (f i)
theorem boolRow_length (f : Nat → Bool) (n : Nat) : (boolRow f n).length = n := by simp [boolRow]
theorem boolRow_get (f : Nat → Bool) (n j : Nat) (h : j < n) : (boolRow f n)[j]? = some (.bool (f j)) := by simp [boolRow, h]
theorem bools_own {w : World} {base g cap n : Nat} {f : Nat → Bool} (h : w.ownsRow base 4 1 (.slice (some ⟨g, 0, none⟩) n cap) n (boolRow f n)) (hg : g < w.heap.size) : Bools w (some ⟨g, 0, none⟩) n f := by
  intro i hi
  refine ⟨g, 0, rfl, hg, ?_⟩
  rw [Nat.zero_add, h.cellAt i (by omega), boolRow_get f n i hi]
theorem boolRow_set (f : Nat → Bool) (n k : Nat) (b : Bool) : (boolRow f n).set k (.bool b) = boolRow (updB f k b) n := by
  apply List.ext_getElem?
  intro j
  by_cases hj : j < n
  · rw [boolRow_get _ n j hj, List.getElem?_set]
    by_cases hk : k = j
    · subst hk; simp [boolRow_length, hj, updB]
    · rw [if_neg hk, boolRow_get _ n j hj]
      simp [updB, show ¬ j = k from fun e => hk e.symm]
  · rw [List.getElem?_eq_none (by simp [boolRow_length]; omega), List.getElem?_eq_none (by simp [boolRow_length]; omega)]
theorem boolRow_snoc (f : Nat → Bool) (n : Nat) (b : Bool) : boolRow f n ++ [.bool b] = boolRow (updB f n b) (n + 1) := by
  unfold boolRow
  rw [List.range_succ, List.map_append]
  congr 1
  · apply List.map_congr_left
    intro i hi
    have := List.mem_range.1 hi
    simp [updB, show ¬ i = n from by omega]
  · simp [updB]
/-- The cells of a slice of bools that came in, as append's law asks for them. -/
theorem bools_news {w : World} {a : Option Addr} {n : Nat} {f : Nat → Bool} (h : Bools w a n f) {b off : Nat} (ha : a = some ⟨b, off, none⟩) : ∀ j u, (boolRow f n)[j]? = some u → w.cell? ((⟨b, off, none⟩ : Addr).add j) = some u := by
  intro j u hj
  have hjn : j < n := by
    have := (List.getElem?_eq_some_iff.1 hj).1
    rw [boolRow_length] at this
    exact this
  rw [boolRow_get f n j hjn] at hj
  obtain ⟨b', off', e, _, hc⟩ := h j hjn
  rw [ha] at e
  cases e
  rw [← Option.some.inj hj]
  have hadd : (⟨b, off, none⟩ : Addr).add j = ⟨b, off + j, none⟩ := by unfold Addr.add; split <;> simp_all
  rw [hadd]
  exact hc
theorem info4 : (Try.prog.info? 4).map (fun i => (i.zero, i.size, i.bytes)) = some (some (.bool false), 1, 1) := by kernel_rfl

set_option maxRecDepth 100000 in
set_option maxHeartbeats 1000000 in
theorem lawVotes_out (m : Nat → Int) (hm : ∀ k, k < 9 → 0 ≤ m k ∧ m k ≤ 255) (a : Option Addr) (n c : Nat) (k : Int) (more : Bool) (w : World) (h : rightB m = false ∨ (rightB m = true ∧ 9 < n) ∨ (rightB m = true ∧ n ≤ 9 ∧ k < 0) ∨ (rightB m = true ∧ n ≤ 9 ∧ 0 ≤ k ∧ (n : Int) ≤ k)) :
    Calls Try.prog 7 #[.agg #[.int .u8 (m 0), .int .u8 (m 1), .int .u8 (m 2), .int .u8 (m 3), .int .u8 (m 4), .int .u8 (m 5), .int .u8 (m 6), .int .u8 (m 7), .int .u8 (m 8)], .slice a n c, .int .i64 k, .bool more] w fun e w' => e = .returned (.bool true) ∧ Below w.heap.size w w' := by
  have HM := lhid hm
  clear hm
  rcases h with h | ⟨h0, h⟩ | ⟨h0, h1, h⟩ | ⟨h0, h1, h2, h⟩
  all_goals
    go_enter Try.func7, Try.ntmps7
    go_wp2_with (first | (go_at_call 17; refine (knownQ_any _).mono ?_; rintro e w1 ⟨rfl, hb1⟩; have hc := (bcell hb1).1; have hlt : w.heap.size < w1.heap.size := (by have := hb1.size; simp at this; omega)) | (go_at_call 20; refine (right_any m HM.out _).mono ?_; rintro e w2 ⟨rfl, hb2⟩))
    go_ret
    exact ⟨rfl, (((Below.refl _ _).alloc (Nat.le_refl _) _).trans (hb1.mono (by simp))).trans (hb2.mono (by omega))⟩

end Go.Proofs.Ytccopcbemflemaa
