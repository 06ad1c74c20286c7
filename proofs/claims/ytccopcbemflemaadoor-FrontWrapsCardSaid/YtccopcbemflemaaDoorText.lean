/-
  The text of a chain; front.Wrap.
-/
import Derived.Test.YtccopcbemflemaaDoorTab
import Derived.Test.YtccopcbemflemaaDoorFam
namespace Go.Proofs.YtccopcbemflemaaDoor
open Go Go.RowKit Go.Extern.Stop Go.Stop Go.Extern

/-- The words, each with a colon and a blank behind it, then the text within. -/
def textOf : List ByteArray → ByteArray → ByteArray
  | [], i => i
  | s :: l, i => s ++ ⟨#[58, 32]⟩ ++ textOf l i
theorem textOf_cons (s : ByteArray) (l : List ByteArray) (i : ByteArray) : textOf (s :: l) i = s ++ ⟨#[58, 32]⟩ ++ textOf l i := rfl

theorem Chain.nil {W : World} {inn E : Value} (h : Chain W inn E []) : E = inn := by
  cases h; rfl
theorem Chain.cons {W : World} {inn : Value} {b : Nat} {s : ByteArray} {l : List ByteArray} (h : Chain W inn (.iface 59 (.pointer (some ⟨b, 0, none⟩))) (s :: l)) :
    ∃ E1, W.cell? ⟨b, 0, none⟩ = some (.string s) ∧ W.cell? ⟨b, 1, none⟩ = some E1 ∧ Chain W inn E1 l := by
  cases h with
  | wrap _ _ E1 _ h0 h1 hc => exact ⟨E1, h0, h1, hc⟩
theorem Chain.said {W : World} {inn E : Value} {s : ByteArray} {l : List ByteArray} (h : Chain W inn E (s :: l)) : ∃ b, E = .iface 59 (.pointer (some ⟨b, 0, none⟩)) := by
  cases h with
  | wrap b _ _ _ _ _ _ => exact ⟨b, rfl⟩

set_option maxHeartbeats 1000000 in
theorem plain_any (v : ByteArray) (W : World) : Calls Tryd.prog 45 #[.string v] W fun e w' => e = .returned (.string v) ∧ w' = W := by
  go_enter Tryd.func45, Tryd.ntmps45
  go_wp2
  go_ret
  exact ⟨rfl, rfl⟩

set_option maxRecDepth 100000 in
set_option maxHeartbeats 2000000 in
theorem text_any29 (n : Int) : ∀ (l : List ByteArray) (b : Nat) (W : World), Chain W (.iface 29 (.int .i64 n)) (.iface 59 (.pointer (some ⟨b, 0, none⟩))) l → (textOf l (errI n)).size ≤ 1000000 →
    Calls Tryd.prog 49 #[.pointer (some ⟨b, 0, none⟩)] W fun e w' => e = .returned (.string (textOf l (errI n))) ∧ Below W.heap.size W w' := by
  intro l
  induction l with
  | nil => intro b W hch _; exact absurd hch.nil (by intro h; cases h)
  | cons s l ih =>
    intro b W hch hsz
    obtain ⟨E1, h0, h1, hc1⟩ := hch.cons
    rw [textOf_cons] at hsz ⊢
    rw [ByteArray.size_append', ByteArray.size_append'] at hsz
    have hcol : (⟨#[58, 32]⟩ : ByteArray).size = 2 := rfl
    rw [hcol] at hsz
    have p0 := Fam.cell (block_lt_of_cell' h0) h0
    have p1 := Fam.cell (block_lt_of_cell' h1) h1
    obtain ⟨T, hT⟩ : ∃ T, T = textOf l (errI n) := ⟨_, rfl⟩
    rw [← hT] at hsz ⊢
    cases hc1 with
    | leaf =>
      have hT2 : T = (errI n) := hT
      have mX := d_mError29
      have HT := lhid hT2
      have kL : Hid (∀ X : World, Calls Tryd.prog 9 #[.int .i64 n] X fun e w' => e = .returned (.string T) ∧ Below X.heap.size X w') := lhid (fun X => by rw [hT2]; exact (errno_any n X).mono (fun e w' h => ⟨h.1, h.2 ▸ Below.refl _ _⟩))
      clear hT hT2 ih h0 h1 hch
      go_enter Tryd.func49, Tryd.ntmps49
      go_wp2_with fail
      refine wp_region_fam W.heap.size (by kernel_rfl) (by kernel_rfl) ?_
      repeat (go_big_quiet_step ((go_at_call 9; with_reducible exact Calls.fam (Nat.le_refl _) (kL.out _))))
      refine wpQuiet_nil ?_
      intro t
      have hb := t.below
      generalize t.at = w2 at *
      clear p0 p1
      go_wp2
      go_ret
      exact ⟨rfl, hb⟩
    | wrap b1 s1 E2 l1 k0 k1 kc =>
      have mX := d_mError59
      have kL : Hid (∀ X : World, Below W.heap.size W X → Calls Tryd.prog 49 #[.pointer (some ⟨b1, 0, none⟩)] X fun e w' => e = .returned (.string T) ∧ Below X.heap.size X w') := lhid (fun X hX => by rw [hT]; exact ih b1 X ((Chain.wrap b1 s1 E2 l1 k0 k1 kc).kept hX) (by rw [← hT]; omega))
      clear hT ih h0 h1 hch k0 k1 kc
      go_enter Tryd.func49, Tryd.ntmps49
      go_wp2_with fail
      refine wp_region_fam W.heap.size (by kernel_rfl) (by kernel_rfl) ?_
      repeat (go_big_quiet_step ((go_at_call 49; with_reducible exact Calls.fam (Nat.le_refl _) (kL.out _ (Fam.below _)))))
      refine wpQuiet_nil ?_
      intro t
      have hb := t.below
      generalize t.at = w2 at *
      clear p0 p1
      go_wp2
      go_ret
      exact ⟨rfl, hb⟩

set_option maxRecDepth 100000 in
set_option maxHeartbeats 2000000 in
theorem text_any41 (v : ByteArray) : ∀ (l : List ByteArray) (b : Nat) (W : World), Chain W (.iface 41 (.string v)) (.iface 59 (.pointer (some ⟨b, 0, none⟩))) l → (textOf l v).size ≤ 1000000 →
    Calls Tryd.prog 49 #[.pointer (some ⟨b, 0, none⟩)] W fun e w' => e = .returned (.string (textOf l v)) ∧ Below W.heap.size W w' := by
  intro l
  induction l with
  | nil => intro b W hch _; exact absurd hch.nil (by intro h; cases h)
  | cons s l ih =>
    intro b W hch hsz
    obtain ⟨E1, h0, h1, hc1⟩ := hch.cons
    rw [textOf_cons] at hsz ⊢
    rw [ByteArray.size_append', ByteArray.size_append'] at hsz
    have hcol : (⟨#[58, 32]⟩ : ByteArray).size = 2 := rfl
    rw [hcol] at hsz
    have p0 := Fam.cell (block_lt_of_cell' h0) h0
    have p1 := Fam.cell (block_lt_of_cell' h1) h1
    obtain ⟨T, hT⟩ : ∃ T, T = textOf l v := ⟨_, rfl⟩
    rw [← hT] at hsz ⊢
    cases hc1 with
    | leaf =>
      have hT2 : T = v := hT
      have mX := d_mError41
      have HT := lhid hT2
      have kL : Hid (∀ X : World, Calls Tryd.prog 45 #[.string v] X fun e w' => e = .returned (.string T) ∧ Below X.heap.size X w') := lhid (fun X => by rw [hT2]; exact (plain_any v X).mono (fun e w' h => ⟨h.1, h.2 ▸ Below.refl _ _⟩))
      clear hT hT2 ih h0 h1 hch
      go_enter Tryd.func49, Tryd.ntmps49
      go_wp2_with fail
      refine wp_region_fam W.heap.size (by kernel_rfl) (by kernel_rfl) ?_
      repeat (go_big_quiet_step ((go_at_call 45; with_reducible exact Calls.fam (Nat.le_refl _) (kL.out _))))
      refine wpQuiet_nil ?_
      intro t
      have hb := t.below
      generalize t.at = w2 at *
      clear p0 p1
      go_wp2
      go_ret
      exact ⟨rfl, hb⟩
    | wrap b1 s1 E2 l1 k0 k1 kc =>
      have mX := d_mError59
      have kL : Hid (∀ X : World, Below W.heap.size W X → Calls Tryd.prog 49 #[.pointer (some ⟨b1, 0, none⟩)] X fun e w' => e = .returned (.string T) ∧ Below X.heap.size X w') := lhid (fun X hX => by rw [hT]; exact ih b1 X ((Chain.wrap b1 s1 E2 l1 k0 k1 kc).kept hX) (by rw [← hT]; omega))
      clear hT ih h0 h1 hch k0 k1 kc
      go_enter Tryd.func49, Tryd.ntmps49
      go_wp2_with fail
      refine wp_region_fam W.heap.size (by kernel_rfl) (by kernel_rfl) ?_
      repeat (go_big_quiet_step ((go_at_call 49; with_reducible exact Calls.fam (Nat.le_refl _) (kL.out _ (Fam.below _)))))
      refine wpQuiet_nil ?_
      intro t
      have hb := t.below
      generalize t.at = w2 at *
      clear p0 p1
      go_wp2
      go_ret
      exact ⟨rfl, hb⟩

/-- A slice whose first 'len' strings are f's. -/
def StrRow (w : World) (a : Option Addr) (len : Nat) (f : Nat → ByteArray) : Prop :=
  ∀ i, i < len → ∃ b off, a = some ⟨b, off, none⟩ ∧ b < w.heap.size ∧ w.cell? ⟨b, off + i, none⟩ = some (.string (f i))
theorem StrRow.below {w w' : World} {B : Nat} {a : Option Addr} {len : Nat} {f : Nat → ByteArray} (h : StrRow w a len f) (hb : Below B w w') (hB : w.heap.size ≤ B) : StrRow w' a len f := by
  intro i hi
  obtain ⟨b, off, ha, hlt, hc⟩ := h i hi
  exact ⟨b, off, ha, Nat.lt_of_lt_of_le hlt hb.size, (hb.cell (p := ⟨b, off + i, none⟩) (Nat.lt_of_lt_of_le hlt hB)).trans hc⟩

/-- The last j words. -/
def sfx (f : Nat → ByteArray) (n : Nat) : Nat → List ByteArray
  | 0 => []
  | j + 1 => f (n - 1 - j) :: sfx f n j

set_option maxRecDepth 100000 in
set_option maxHeartbeats 2000000 in
theorem wrap_any (inn : Value) (hinn : ∃ u v, inn = .iface u v) (E0 : Value) (l0 : List ByteArray) (a : Option Addr) (n c : Nat) (hn : n ≤ 9223372036854775807) (f : Nat → ByteArray) {W : World} (hch : Chain W inn E0 l0) (hN : StrRow W a n f) :
    Calls Tryd.prog 16 #[E0, .slice a n c] W fun e w' => ∃ E1, e = .returned E1 ∧ Chain w' inn E1 (sfx f n n ++ l0) ∧ Below W.heap.size W w' := by
  obtain ⟨u0, v0, rfl⟩ := hch.iface hinn
  have HC := lhid hch
  have HN := lhid hN
  clear hch hN
  go_enter Tryd.func16, Tryd.ntmps16
  go_wp2_with fail
  go_loopw [0, 5] (fun E' i wr => ∃ j : Nat, j ≤ n ∧ i = .int .i64 ((n : Int) - 1 - (j : Int)) ∧ Chain wr inn E' (sfx f n j ++ l0) ∧ Below W.heap.size W wr) (fun _ i _ => (intOf i + 1).toNat)
  case atStart => exact ⟨0, by omega, by simp, HC.out, Below.refl _ _⟩
  case round =>
    obtain ⟨j, hj, rfl, hc, hb⟩ := hrel
    obtain ⟨u1, v1, rfl⟩ := hc.iface hinn
    by_cases hlt : j < n
    · obtain ⟨ab, ao, rfl, _, hcz⟩ := (HN.out.below hb (Nat.le_refl _)) (n - 1 - j) (by omega)
      obtain ⟨k, hk⟩ : ∃ k : Nat, k = n - 1 - j := ⟨_, rfl⟩
      have hki : (n : Int) - 1 - (j : Int) = (k : Int) := by omega
      rw [← hk] at hcz
      rw [hki]
      have hkn : k < n := by omega
      have HC2 := lhid hc
      have HK := lhid hk
      clear hc hk
      go_wp2
      go_roundw
      case rel => exact ⟨j + 1, by omega, by rw [← hki]; simp; omega, by
        have h3 : Chain (wr.alloc (.cells #[.string (f k), .iface u1 v1] 61)) inn (.iface u1 v1) (sfx f n j ++ l0) := HC2.out.kept ((Below.refl _ _).alloc (Nat.le_refl _) _)
        have h4 := Chain.wrap wr.heap.size (f k) (.iface u1 v1) (sfx f n j ++ l0) (by simp) (by simp) h3
        rw [show sfx f n (j + 1) = f k :: sfx f n j from by rw [sfx, ← HK.out]]
        exact h4, hb.alloc hb.size _⟩
      case measure => simp [intOf]
    · obtain rfl : j = n := by omega
      have HC2 := lhid hc
      clear hc
      have hneg : (j : Int) - 1 - (j : Int) = -1 := by omega
      rw [hneg]
      go_wp2
      go_ret
      exact ⟨_, rfl, HC2.out, hb⟩

set_option maxHeartbeats 1000000 in
theorem wrap_nil (v : Value) (W : World) : Calls Tryd.prog 16 #[.nilIface, v] W fun e w' => e = .returned .nilIface ∧ w' = W := by
  go_enter Tryd.func16, Tryd.ntmps16
  go_wp2
  go_ret
  exact ⟨rfl, rfl⟩

end Go.Proofs.YtccopcbemflemaaDoor
