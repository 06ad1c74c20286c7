/-
  quorum.Most, quorum.Right.
-/
import Derived.Test.YtccopcbemflemaaQCount
namespace Go.Proofs.Ytccopcbemflemaa
open Go Go.RowKit Go.Shelf

/-- How many make most of the voters. -/
def mst (m : Nat → Int) : Int := cnt m 1 / 2 + 1
theorem mst_bd (m : Nat → Int) : 1 ≤ mst m ∧ mst m ≤ 5 := by
  have := cnt_bd m 1
  unfold mst
  omega

set_option maxRecDepth 100000 in
set_option maxHeartbeats 1000000 in
theorem most_of_any (m : Nat → Int) (hm : ∀ k, k < 9 → 0 ≤ m k ∧ m k ≤ 255) (w : World) :
    Calls Try.prog 22 #[.agg #[.int .u8 (m 0), .int .u8 (m 1), .int .u8 (m 2), .int .u8 (m 3), .int .u8 (m 4), .int .u8 (m 5), .int .u8 (m 6), .int .u8 (m 7), .int .u8 (m 8)]] w fun e w' => e = .returned (.int .i64 (mst m)) ∧ Below w.heap.size w w' := by
  have HM := lhid hm
  clear hm
  obtain ⟨c, hc⟩ : ∃ c, c = cnt m 1 := ⟨_, rfl⟩
  have hb := cnt_bd m 1
  have hmst : mst m = c / 2 + 1 := by rw [hc]; rfl
  rw [← hc] at hb
  have HC := lhid hc
  have HD := lhid hmst
  clear hc hmst
  go_enter Try.func22, Try.ntmps22
  go_wp2_with (go_at_call 32; refine (count_any m 1 HM.out _).mono ?_; rintro e w1 ⟨rfl, hb1⟩; rw [← HC.out])
  go_ret
  exact ⟨by rw [HD.out]; rfl, ((Below.refl _ _).alloc (Nat.le_refl _) _).trans (hb1.mono (by simp))⟩

/-- Are the first k at most 2? -/
def leK (m : Nat → Int) : Nat → Bool
  | 0 => true
  | k + 1 => leK m k && decide (m k ≤ 2)
theorem leK_no (m : Nat → Int) (k n : Nat) (h : k < n) (hk : 2 < m k) : leK m n = false := by
  induction n with
  | zero => omega
  | succ n ih =>
    by_cases e : k = n
    · subst e; simp [leK]; omega
    · rw [leK, ih (by omega)]; rfl
theorem leK_all (m : Nat → Int) (n : Nat) : leK m n = true ↔ ∀ k, k < n → m k ≤ 2 := by
  induction n with
  | zero => exact ⟨fun _ k h => by omega, fun _ => rfl⟩
  | succ n ih =>
    rw [leK, Bool.and_eq_true, ih, decide_eq_true_iff]
    constructor
    · rintro ⟨h1, h2⟩ k hk
      by_cases e : k = n
      · subst e; exact h2
      · exact h1 k (by omega)
    · intro h
      exact ⟨fun k hk => h k (by omega), h n (by omega)⟩

def rightB (m : Nat → Int) : Bool := leK m 9 && decide (0 < cnt m 1)

set_option maxRecDepth 100000 in
set_option maxHeartbeats 1000000 in
theorem right_any (m : Nat → Int) (hm : ∀ k, k < 9 → 0 ≤ m k ∧ m k ≤ 255) (w : World) :
    Calls Try.prog 20 #[.agg #[.int .u8 (m 0), .int .u8 (m 1), .int .u8 (m 2), .int .u8 (m 3), .int .u8 (m 4), .int .u8 (m 5), .int .u8 (m 6), .int .u8 (m 7), .int .u8 (m 8)]] w fun e w' => e = .returned (.bool (rightB m)) ∧ Below w.heap.size w w' := by
  have HM := lhid hm
  clear hm
  go_enter Try.func20, Try.ntmps20
  go_wp2
  go_loop [6] (fun i => ∃ k : Nat, k ≤ 9 ∧ i = .int .i64 k ∧ leK m k = true) (fun i => 9 - (intOf i).toNat)
  case atStart => exact ⟨0, by omega, rfl, rfl⟩
  case round =>
    obtain ⟨k, hk, rfl, hle⟩ := hrel
    have HL := lhid hle
    clear hle
    by_cases hlt : k < 9
    · have hi := index_m m k hlt
      have hmk0 := (HM.out k hlt).1
      have hmk1 := (HM.out k hlt).2
      by_cases h2 : m k ≤ 2
      · go_wp2
        go_round
        case rel => exact ⟨k + 1, by omega, by go_num, by rw [leK, HL.out]; simpa using h2⟩
        case measure => simp [intOf]; omega
      · have h3 : 2 < m k := by omega
        clear h2
        go_wp2
        go_ret
        exact ⟨by rw [rightB, leK_no m k 9 hlt h3]; rfl, (Below.refl _ _).alloc (Nat.le_refl _) _⟩
    · obtain rfl : k = 9 := by omega
      go_wp2_with (go_at_call 32; refine (count_any m 1 HM.out _).mono ?_; rintro e w1 ⟨rfl, hb1⟩)
      go_ret
      exact ⟨by rw [rightB, HL.out]; rfl, ((Below.refl _ _).alloc (Nat.le_refl _) _).trans (hb1.mono (by simp))⟩

end Go.Proofs.Ytccopcbemflemaa
