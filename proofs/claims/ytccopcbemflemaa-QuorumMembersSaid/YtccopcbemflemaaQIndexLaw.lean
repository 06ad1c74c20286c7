/-
  The law QuorumIndex: the plain facts, and the walk.
-/
import Derived.Test.YtccopcbemflemaaQKnown
namespace Go.Proofs.Ytccopcbemflemaa
open Go Go.RowKit Go.Shelf

/-! ### Plain -/
theorem idxStep_ge (m : Nat → Int) (z : List Int) (n : Nat) (best : Int) (x : Fin 9) : best ≤ idxStep m z n best x := by
  unfold idxStep
  split
  · omega
  · exact Int.le_refl _
theorem idxStep_max (m : Nat → Int) (z : List Int) (n : Nat) (best : Int) (x : Fin 9) (h1 : x.val < n) (h2 : mst m ≤ geN z n (z[x.val]?.getD 0) (selK m 1 9)) : z[x.val]?.getD 0 ≤ idxStep m z n best x := by
  by_cases h : best < z[x.val]?.getD 0
  · rw [idxStep_yes ⟨h1, h, h2⟩]; exact Int.le_refl _
  · have := idxStep_ge m z n best x
    omega
theorem foldl_ge (m : Nat → Int) (z : List Int) (n : Nat) (l : List (Fin 9)) : ∀ best, best ≤ l.foldl (idxStep m z n) best := by
  induction l with
  | nil => intro best; exact Int.le_refl _
  | cons x l ih => intro best; exact Int.le_trans (idxStep_ge m z n best x) (ih _)
theorem foldl_max (m : Nat → Int) (z : List Int) (n : Nat) (l : List (Fin 9)) : ∀ best, ∀ x ∈ l, x.val < n → mst m ≤ geN z n (z[x.val]?.getD 0) (selK m 1 9) → z[x.val]?.getD 0 ≤ l.foldl (idxStep m z n) best := by
  induction l with
  | nil => intro best x hx; cases hx
  | cons y l ih =>
    intro best x hx h1 h2
    rcases List.mem_cons.1 hx with rfl | hx
    · exact Int.le_trans (idxStep_max m z n best x h1 h2) (foldl_ge m z n l _)
    · exact ih _ x hx h1 h2
theorem foldl_is (m : Nat → Int) (z : List Int) (n : Nat) (l : List (Fin 9)) : ∀ best, l.foldl (idxStep m z n) best = best ∨ ∃ x ∈ l, x.val < n ∧ mst m ≤ geN z n (z[x.val]?.getD 0) (selK m 1 9) ∧ l.foldl (idxStep m z n) best = z[x.val]?.getD 0 := by
  induction l with
  | nil => intro best; exact .inl rfl
  | cons y l ih =>
    intro best
    rcases ih (idxStep m z n best y) with h | ⟨x, hx, h1, h2, h3⟩
    · by_cases hc : y.val < n ∧ best < z[y.val]?.getD 0 ∧ mst m ≤ geN z n (z[y.val]?.getD 0) (selK m 1 9)
      · refine .inr ⟨y, by simp, hc.1, hc.2.2, ?_⟩
        rw [List.foldl_cons, h, idxStep_yes hc]
      · refine .inl ?_
        rw [List.foldl_cons, h, idxStep_no hc]
    · exact .inr ⟨x, List.mem_cons_of_mem _ hx, h1, h2, h3⟩

/-- A node's number as it counts. -/
def vOf (z : List Int) (n k : Nat) : Int := if k < n ∧ 0 < z[k]?.getD 0 then z[k]?.getD 0 else 0
theorem vOf_yes (z : List Int) (n k : Nat) (h : k < n) (h' : 0 < z[k]?.getD 0) : vOf z n k = z[k]?.getD 0 := if_pos ⟨h, h'⟩
theorem vOf_no (z : List Int) (n k : Nat) (h : ¬ (k < n ∧ 0 < z[k]?.getD 0)) : vOf z n k = 0 := if_neg h
theorem vOf_nonneg (z : List Int) (n k : Nat) : 0 ≤ vOf z n k := by
  unfold vOf
  split
  · omega
  · exact Int.le_refl _

def atF (m : Nat → Int) (i : Int) (v : Nat → Int) (k : Nat) : Nat := ((selK m 1 k).filter fun j => decide (i ≤ v j.val)).length
def moF (m : Nat → Int) (i : Int) (v : Nat → Int) (k : Nat) : Nat := ((selK m 1 k).filter fun j => decide (i < v j.val)).length
theorem atF_le (m : Nat → Int) (i : Int) (v : Nat → Int) (k : Nat) : atF m i v k ≤ k := Nat.le_trans (List.length_filter_le _ _) (selK_length m 1 k)
theorem moF_le (m : Nat → Int) (i : Int) (v : Nat → Int) (k : Nat) : moF m i v k ≤ k := Nat.le_trans (List.length_filter_le _ _) (selK_length m 1 k)
theorem atF_yes (m : Nat → Int) (i : Int) (v : Nat → Int) (k : Nat) (hk : k < 9) (h : m k = 1) (h' : i ≤ v k) : atF m i v (k + 1) = atF m i v k + 1 := by
  unfold atF; rw [selK_yes m 1 k hk h, List.filter_append, List.length_append]; simp [h']
theorem atF_no (m : Nat → Int) (i : Int) (v : Nat → Int) (k : Nat) (hk : k < 9) (h : m k = 1) (h' : ¬ i ≤ v k) : atF m i v (k + 1) = atF m i v k := by
  unfold atF; rw [selK_yes m 1 k hk h, List.filter_append, List.length_append]; simp [h']
theorem atF_other (m : Nat → Int) (i : Int) (v : Nat → Int) (k : Nat) (h : ¬ m k = 1) : atF m i v (k + 1) = atF m i v k := by
  unfold atF; rw [selK_no m 1 k h]
theorem moF_yes (m : Nat → Int) (i : Int) (v : Nat → Int) (k : Nat) (hk : k < 9) (h : m k = 1) (h' : i < v k) : moF m i v (k + 1) = moF m i v k + 1 := by
  unfold moF; rw [selK_yes m 1 k hk h, List.filter_append, List.length_append]; simp [h']
theorem moF_no (m : Nat → Int) (i : Int) (v : Nat → Int) (k : Nat) (hk : k < 9) (h : m k = 1) (h' : ¬ i < v k) : moF m i v (k + 1) = moF m i v k := by
  unfold moF; rw [selK_yes m 1 k hk h, List.filter_append, List.length_append]; simp [h']
theorem moF_other (m : Nat → Int) (i : Int) (v : Nat → Int) (k : Nat) (h : ¬ m k = 1) : moF m i v (k + 1) = moF m i v k := by
  unfold moF; rw [selK_no m 1 k h]

theorem filter_mono {α : Type} (p q : α → Bool) (l : List α) (h : ∀ x ∈ l, p x = true → q x = true) : (l.filter p).length ≤ (l.filter q).length := by
  rw [← List.countP_eq_length_filter, ← List.countP_eq_length_filter]
  exact List.countP_mono_left h
theorem exists_least {α : Type} (g : α → Int) (l : List α) (h : l ≠ []) : ∃ x ∈ l, ∀ y ∈ l, g x ≤ g y := by
  induction l with
  | nil => exact absurd rfl h
  | cons a l ih =>
    by_cases hl : l = []
    · subst hl
      exact ⟨a, by simp, fun y hy => by simp at hy; subst hy; exact Int.le_refl _⟩
    · obtain ⟨x, hx, hm⟩ := ih hl
      by_cases hax : g a ≤ g x
      · refine ⟨a, by simp, fun y hy => ?_⟩
        rcases List.mem_cons.1 hy with rfl | hy
        · exact Int.le_refl _
        · have := hm y hy; omega
      · refine ⟨x, List.mem_cons_of_mem _ hx, fun y hy => ?_⟩
        rcases List.mem_cons.1 hy with rfl | hy
        · omega
        · exact hm y hy

theorem index_law (m : Nat → Int) (z : List Int) (n : Nat) (hc : 0 < cnt m 1) :
    0 ≤ idxL m z n (selK m 1 9) ∧ mst m ≤ atF m (idxL m z n (selK m 1 9)) (vOf z n) 9 ∧ (moF m (idxL m z n (selK m 1 9)) (vOf z n) 9 : Int) < mst m := by
  have h0 : 0 ≤ idxL m z n (selK m 1 9) := foldl_ge m z n _ 0
  obtain ⟨i, hi⟩ : ∃ i, i = idxL m z n (selK m 1 9) := ⟨_, rfl⟩
  rw [← hi] at h0 ⊢
  refine ⟨h0, ?_, ?_⟩
  · rcases foldl_is m z n (selK m 1 9) 0 with h | ⟨x, hx, h1, h2, h3⟩
    · have hi0 : i = 0 := hi.trans h
      have : atF m i (vOf z n) 9 = (selK m 1 9).length := by
        unfold atF
        rw [List.filter_eq_self.2]
        intro j _
        rw [hi0]
        simpa using vOf_nonneg z n j.val
      rw [this]
      unfold mst
      unfold cnt at hc ⊢
      omega
    · have hix : i = z[x.val]?.getD 0 := hi.trans h3
      refine Int.le_trans h2 ?_
      have : geN z n (z[x.val]?.getD 0) (selK m 1 9) ≤ atF m i (vOf z n) 9 := by
        refine filter_mono _ _ _ (fun j _ hj => ?_)
        rw [Bool.and_eq_true, decide_eq_true_iff, decide_eq_true_iff, ← hix] at hj
        rw [decide_eq_true_iff]
        by_cases hp : 0 < z[j.val]?.getD 0
        · rw [vOf_yes z n j.val hj.1 hp]; exact hj.2
        · have := vOf_nonneg z n j.val
          omega
      omega
  · by_cases hm : (moF m i (vOf z n) 9 : Int) < mst m
    · exact hm
    · exfalso
      have hb := mst_bd m
      have hne : ((selK m 1 9).filter fun j => decide (i < vOf z n j.val)) ≠ [] := by
        intro e
        unfold moF at hm
        rw [e] at hm
        simp at hm
        omega
      obtain ⟨x, hx, hmin⟩ := exists_least (fun j : Fin 9 => vOf z n j.val) _ hne
      rw [List.mem_filter, decide_eq_true_iff] at hx
      obtain ⟨hxl, hxi⟩ := hx
      have hcond : x.val < n ∧ 0 < z[x.val]?.getD 0 := by
        by_cases h : x.val < n ∧ 0 < z[x.val]?.getD 0
        · exact h
        · rw [vOf_no z n x.val h] at hxi; omega
      have hvx := vOf_yes z n x.val hcond.1 hcond.2
      have hge : mst m ≤ geN z n (z[x.val]?.getD 0) (selK m 1 9) := by
        have : moF m i (vOf z n) 9 ≤ geN z n (z[x.val]?.getD 0) (selK m 1 9) := by
          refine filter_mono _ _ _ (fun j hj hji => ?_)
          have hj2 := hmin j (List.mem_filter.2 ⟨hj, hji⟩)
          rw [decide_eq_true_iff] at hji
          rw [Bool.and_eq_true, decide_eq_true_iff, decide_eq_true_iff]
          have hcj : j.val < n ∧ 0 < z[j.val]?.getD 0 := by
            by_cases h : j.val < n ∧ 0 < z[j.val]?.getD 0
            · exact h
            · rw [vOf_no z n j.val h] at hji; omega
          rw [hvx, vOf_yes z n j.val hcj.1 hcj.2] at hj2
          exact ⟨hcj.1, hj2⟩
        omega
      have := foldl_max m z n (selK m 1 9) 0 x hxl hcond.1 hge
      rw [hvx] at hxi
      have hh : i = (selK m 1 9).foldl (idxStep m z n) 0 := hi
      omega

end Go.Proofs.Ytccopcbemflemaa
