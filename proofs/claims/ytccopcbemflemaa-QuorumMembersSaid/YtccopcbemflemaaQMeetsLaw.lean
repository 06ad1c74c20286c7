/-
  The law QuorumMeets: the plain facts.
-/
import Derived.Test.YtccopcbemflemaaQLawVotes
import Derived.Test.YtccopcbemflemaaQChange
namespace Go.Proofs.Ytccopcbemflemaa
open Go Go.RowKit Go.Shelf

/-- How many below n. -/
def cntP (p : Nat → Bool) : Nat → Nat
  | 0 => 0
  | n + 1 => cntP p n + (if p n = true then 1 else 0)
theorem sel_filter (m : Nat → Int) (r : Int) (p : Nat → Bool) (n : Nat) (hn : n ≤ 9) : ((selK m r n).filter fun j => p j.val).length = cntP (fun j => decide (m j = r) && p j) n := by
  induction n with
  | zero => rfl
  | succ n ih =>
    by_cases h : m n = r
    · rw [selK_yes m r n (by omega) h, List.filter_append, List.length_append, ih (by omega), cntP]
      cases hp : p n <;> simp [h, hp]
    · rw [selK_no m r n h, ih (by omega), cntP]
      simp [h]
theorem sel_length (m : Nat → Int) (r : Int) (n : Nat) (hn : n ≤ 9) : (selK m r n).length = cntP (fun j => decide (m j = r)) n := by
  have h := sel_filter m r (fun _ => true) n hn
  simp only [Bool.and_true] at h
  rw [← h, List.filter_eq_self.2 (fun _ _ => rfl)]
theorem aye_cntP (m : Nat → Int) (f : Nat → Bool) : ayeN f 9 (selK m 1 9) = cntP (fun j => decide (m j = 1) && f j) 9 := by
  rw [← sel_filter m 1 f 9 (by omega)]
  unfold ayeN
  congr 1
  apply List.filter_congr
  intro x _
  have := x.isLt
  simp [this]
theorem cntP_apart (p q u : Nat → Bool) (n : Nat) (h1 : ∀ j, j < n → p j = true → u j = true) (h2 : ∀ j, j < n → q j = true → u j = true) (h3 : ∀ j, j < n → ¬ (p j = true ∧ q j = true)) : cntP p n + cntP q n ≤ cntP u n := by
  induction n with
  | zero => exact Nat.le_refl _
  | succ n ih =>
    have := ih (fun j hj => h1 j (by omega)) (fun j hj => h2 j (by omega)) (fun j hj => h3 j (by omega))
    have a1 := h1 n (by omega)
    have a2 := h2 n (by omega)
    have a3 := h3 n (by omega)
    unfold cntP
    cases hp : p n <;> cases hq : q n <;> cases hu : u n <;> simp_all <;> omega
theorem cntP_congr (p q : Nat → Bool) (n : Nat) (h : ∀ j, j < n → p j = q j) : cntP p n = cntP q n := by
  induction n with
  | zero => rfl
  | succ n ih => rw [cntP, cntP, ih (fun j hj => h j (by omega)), h n (by omega)]
theorem cntP_one (p q : Nat → Bool) (k n : Nat) (hk : k < n) (h : ∀ j, j < n → j ≠ k → p j = q j) : cntP p n + (if q k = true then 1 else 0) = cntP q n + (if p k = true then 1 else 0) := by
  induction n with
  | zero => omega
  | succ n ih =>
    rw [cntP, cntP]
    by_cases e : k = n
    · subst e
      rw [cntP_congr p q k (fun j hj => h j (by omega) (by omega))]
      omega
    · have := ih (by omega) (fun j hj => h j (by omega))
      rw [h n (by omega) (fun e' => e e'.symm)]
      omega

theorem cnt_upd (m : Nat → Int) (k : Nat) (hk : k < 9) (r : Int) : cnt (upd m k r) 1 + (if m k = 1 then 1 else 0) = cnt m 1 + (if r = 1 then 1 else 0) := by
  have h := cntP_one (fun j => decide (upd m k r j = 1)) (fun j => decide (m j = 1)) k 9 hk (fun j _ hj => by simp [upd, hj])
  unfold cnt
  rw [sel_length _ 1 9 (by omega), sel_length m 1 9 (by omega)]
  have e1 : upd m k r k = r := by simp [upd]
  simp only [e1, decide_eq_true_eq] at h
  by_cases hm : m k = 1 <;> by_cases hr : r = 1
  · rw [if_pos hm, if_pos hr] at h ⊢; omega
  · rw [if_pos hm, if_neg hr] at h ⊢; omega
  · rw [if_neg hm, if_pos hr] at h ⊢; omega
  · rw [if_neg hm, if_neg hr] at h ⊢; omega

/-- What the law goes on with: the members that the change makes, or the old ones. -/
def nextM (m : Nat → Int) (node role : Int) : Nat → Int := if (changeM m node role).2 = 0 then (changeM m node role).1 else m

theorem changeM_zero {m : Nat → Int} {node role : Int} (h : (changeM m node role).2 = 0) : ∃ k : Nat, node = k ∧ k < 9 ∧ 0 ≤ role ∧ role ≤ 2 ∧ ¬ m k = role ∧ ¬ ((m k = 0 ∧ role = 1) ∨ (m k = 1 ∧ role = 2) ∨ (m k = 1 ∧ cnt m 1 = 1)) ∧ (changeM m node role).1 = upd m k role := by
  by_cases h0 : node < 0 ∨ 9 ≤ node ∨ role < 0 ∨ 2 < role
  · rw [changeM_out h0] at h; cases h
  · obtain ⟨k, rfl⟩ : ∃ k : Nat, node = k := ⟨node.toNat, by omega⟩
    have hk : k < 9 := by omega
    rw [changeM_in hk (by omega) (by omega)] at h ⊢
    refine ⟨k, rfl, hk, by omega, by omega, ?_⟩
    by_cases h1 : m k = role
    · rw [if_pos h1] at h; cases h
    · rw [if_neg h1] at h ⊢
      by_cases h2 : (m k = 0 ∧ role = 1) ∨ (m k = 1 ∧ role = 2) ∨ (m k = 1 ∧ cnt m 1 = 1)
      · rw [if_pos h2] at h; cases h
      · rw [if_neg h2]
        exact ⟨h1, h2, rfl⟩

theorem next_right (m : Nat → Int) (node role : Int) (hr : rightB m = true) : rightB (nextM m node role) = true := by
  unfold nextM
  by_cases h : (changeM m node role).2 = 0
  · rw [if_pos h]
    obtain ⟨k, rfl, hk, h0, h2, h3, h4, h5⟩ := changeM_zero h
    rw [h5]
    unfold rightB at hr ⊢
    rw [Bool.and_eq_true, leK_all, decide_eq_true_iff] at hr ⊢
    refine ⟨fun j hj => ?_, ?_⟩
    · unfold upd
      split
      · exact h2
      · exact hr.1 j hj
    · have hc := cnt_upd m k hk role
      have hp := hr.2
      by_cases hm : m k = 1
      · rw [if_pos hm] at hc
        by_cases hr1 : role = 1
        · omega
        · rw [if_neg hr1] at hc
          omega
      · rw [if_neg hm] at hc
        split at hc <;> omega
  · rw [if_neg h]; exact hr

/-- Voters of the one and of the other differ at one node at most: any two sets of most share one. -/
theorem meets (m g : Nat → Int) (f f' : Nat → Bool) (k : Nat) (hk : k < 9) (hg : ∀ j, j < 9 → j ≠ k → g j = m j) (h1 : wonB m f 9 = true) (h2 : wonB g f' 9 = true) :
    ∃ j, j < 9 ∧ f j = true ∧ f' j = true ∧ m j = 1 ∧ g j = 1 := by
  apply Classical.byContradiction
  intro hno
  have a1 : mst m ≤ ayeN f 9 (selK m 1 9) := by simpa [wonB] using h1
  have a2 : mst g ≤ ayeN f' 9 (selK g 1 9) := by simpa [wonB] using h2
  rw [aye_cntP] at a1 a2
  unfold mst cnt at a1 a2
  rw [sel_length _ 1 9 (by omega)] at a1 a2
  have b := cntP_one (fun j => decide (g j = 1)) (fun j => decide (m j = 1)) k 9 hk (fun j hj hjk => by rw [hg j hj hjk])
  have hap : ∀ j, j < 9 → ¬ ((decide (m j = 1) && f j) = true ∧ (decide (g j = 1) && f' j) = true) := fun j hj h => by
    simp only [Bool.and_eq_true, decide_eq_true_iff] at h
    exact hno ⟨j, hj, h.1.2, h.2.2, h.1.1, h.2.1⟩
  by_cases hv : g k = 1
  · have c := cntP_apart (fun j => decide (m j = 1) && f j) (fun j => decide (g j = 1) && f' j) (fun j => decide (g j = 1)) 9
      (fun j hj h => by
        simp only [Bool.and_eq_true, decide_eq_true_iff] at h ⊢
        by_cases e : j = k
        · subst e; exact hv
        · rw [hg j hj e]; exact h.1)
      (fun j hj h => by simp only [Bool.and_eq_true, decide_eq_true_iff] at h ⊢; exact h.1) hap
    simp only [hv, decide_true, if_true, decide_eq_true_iff] at b
    split at b <;> omega
  · have c := cntP_apart (fun j => decide (m j = 1) && f j) (fun j => decide (g j = 1) && f' j) (fun j => decide (m j = 1)) 9
      (fun j hj h => by simp only [Bool.and_eq_true, decide_eq_true_iff] at h ⊢; exact h.1)
      (fun j hj h => by
        simp only [Bool.and_eq_true, decide_eq_true_iff] at h ⊢
        by_cases e : j = k
        · subst e; exact absurd h.1 hv
        · rw [← hg j hj e]; exact h.1) hap
    simp only [hv, decide_false, Bool.false_eq_true, if_false, decide_eq_true_iff] at b
    split at b <;> omega

theorem next_meets (m : Nat → Int) (node role : Int) (f f' : Nat → Bool) (h1 : wonB m f 9 = true) (h2 : wonB (nextM m node role) f' 9 = true) :
    ∃ j, j < 9 ∧ f j = true ∧ f' j = true ∧ m j = 1 ∧ nextM m node role j = 1 := by
  unfold nextM at h2 ⊢
  by_cases h : (changeM m node role).2 = 0
  · rw [if_pos h] at h2 ⊢
    obtain ⟨k, rfl, hk, _, _, _, _, h5⟩ := changeM_zero h
    rw [h5] at h2 ⊢
    exact meets m _ f f' k hk (fun j _ hj => by simp [upd, hj]) h1 h2
  · rw [if_neg h] at h2 ⊢
    exact meets m m f f' 0 (by omega) (fun _ _ _ => rfl) h1 h2

theorem changeM_bd (m : Nat → Int) (hm : ∀ k, k < 9 → 0 ≤ m k ∧ m k ≤ 255) (node role : Int) : ∀ k, k < 9 → 0 ≤ (changeM m node role).1 k ∧ (changeM m node role).1 k ≤ 255 := by
  intro j hj
  by_cases h0 : node < 0 ∨ 9 ≤ node ∨ role < 0 ∨ 2 < role
  · rw [changeM_out h0]; exact ⟨Int.le_refl 0, (by decide : (0 : Int) ≤ 255)⟩
  · obtain ⟨k, rfl⟩ : ∃ k : Nat, node = k := ⟨node.toNat, by omega⟩
    rw [changeM_in (by omega) (by omega) (by omega)]
    split
    · exact ⟨Int.le_refl 0, (by decide : (0 : Int) ≤ 255)⟩
    · split
      · exact ⟨Int.le_refl 0, (by decide : (0 : Int) ≤ 255)⟩
      · show 0 ≤ upd m k role j ∧ upd m k role j ≤ 255
        unfold upd
        split
        · omega
        · exact hm j hj
theorem nextM_bd (m : Nat → Int) (hm : ∀ k, k < 9 → 0 ≤ m k ∧ m k ≤ 255) (node role : Int) : ∀ k, k < 9 → 0 ≤ nextM m node role k ∧ nextM m node role k ≤ 255 := by
  unfold nextM
  split
  · exact changeM_bd m hm node role
  · exact hm

end Go.Proofs.Ytccopcbemflemaa
