/-
  teasellaw21.known, wrapped; plain facts on texts.
-/
import Derived.Test.YtccopcbemflemaaDoorText
import Derived.Deep.RegionWith
namespace Go.Proofs.YtccopcbemflemaaDoor
open Go Go.RowKit Go.Extern.Stop Go.Stop Go.Extern

def sumS (f : Nat → ByteArray) : Nat → Nat
  | 0 => 0
  | k + 1 => sumS f k + (f k).size
def pfx (f : Nat → ByteArray) : Nat → ByteArray
  | 0 => ⟨#[]⟩
  | k + 1 => pfx f k ++ f k ++ ⟨#[58, 32]⟩
theorem sumS_mono (f : Nat → ByteArray) {i j : Nat} (h : i ≤ j) : sumS f i ≤ sumS f j := by
  induction j with
  | zero => obtain rfl : i = 0 := by omega
            exact Nat.le_refl _
  | succ j ih =>
    by_cases e : i = j + 1
    · subst e; exact Nat.le_refl _
    · have := ih (by omega)
      rw [sumS]; omega
theorem sumS_bd (f : Nat → ByteArray) (B : Nat) (n : Nat) (h : ∀ i, i < n → (f i).size ≤ B) (k : Nat) (hk : k ≤ n) : sumS f k ≤ k * B := by
  induction k with
  | zero => simp [sumS]
  | succ k ih =>
    have h1 := ih (by omega)
    have h2 := h k (by omega)
    rw [sumS, Nat.succ_mul]
    omega
theorem col_size : (⟨#[58, 32]⟩ : ByteArray).size = 2 := rfl
theorem pfx_size (f : Nat → ByteArray) (k : Nat) : (pfx f k).size = sumS f k + 2 * k := by
  induction k with
  | zero => rfl
  | succ k ih =>
    rw [pfx, ByteArray.size_append', ByteArray.size_append', ih, col_size, sumS]
    omega
theorem text_size (f : Nat → ByteArray) (n : Nat) (I : ByteArray) (j : Nat) (hj : j ≤ n) : (textOf (sfx f n j) I).size + sumS f (n - j) = sumS f n + 2 * j + I.size := by
  induction j with
  | zero => simp [sfx, textOf]; omega
  | succ j ih =>
    have h1 := ih (by omega)
    rw [sfx, textOf_cons, ByteArray.size_append', ByteArray.size_append', col_size]
    have h2 : n - j = (n - 1 - j) + 1 := by omega
    rw [h2, sumS] at h1
    rw [show n - (j + 1) = n - 1 - j by omega]
    omega
theorem text_size_all (f : Nat → ByteArray) (n : Nat) (I : ByteArray) : (textOf (sfx f n n) I).size = sumS f n + 2 * n + I.size := by
  have := text_size f n I n (Nat.le_refl n)
  rw [Nat.sub_self, sumS] at this
  omega
theorem text_pfx (f : Nat → ByteArray) (n : Nat) (I : ByteArray) (j : Nat) (hj : j ≤ n) : pfx f (n - j) ++ textOf (sfx f n j) I = pfx f n ++ I := by
  induction j with
  | zero => rfl
  | succ j ih =>
    rw [← ih (by omega), sfx, textOf_cons]
    have h2 : n - j = (n - 1 - j) + 1 := by omega
    rw [h2, pfx, show n - (j + 1) = n - 1 - j by omega]
    simp only [ByteArray.append_assoc]
theorem text_pfx_all (f : Nat → ByteArray) (n : Nat) (I : ByteArray) : pfx f n ++ I = textOf (sfx f n n) I := by
  have := text_pfx f n I n (Nat.le_refl n)
  rw [Nat.sub_self, pfx] at this
  rw [← this]
  apply ByteArray.ext
  simp [ByteArray.data_append]
theorem errI_size (n : Int) : (errI n).size ≤ 10 := by
  rcases casesE n with rfl | rfl | rfl | rfl | rfl | rfl | rfl | rfl | rfl | rfl | rfl | rfl | rfl | rfl | rfl | rfl | rfl | rfl | rfl | rfl | ⟨h0, h1, h2, h3, h4, h5, h6, h7, h8, h9, h10, h11, h20, h21, h22, h23, h24, h25, h26, h27⟩
  · decide
  · decide
  · decide
  · decide
  · decide
  · decide
  · decide
  · decide
  · decide
  · decide
  · decide
  · decide
  · decide
  · decide
  · decide
  · decide
  · decide
  · decide
  · decide
  · decide
  · have hd : errI n = ⟨#[101, 114, 114, 111, 114]⟩ := by unfold errI; simp only [h0, h1, h2, h3, h4, h5, h6, h7, h8, h9, h10, h11, h20, h21, h22, h23, h24, h25, h26, h27, if_false]
    rw [hd]
    decide

def kF : Nat → ByteArray := fun i => if i = 0 then ⟨#[97]⟩ else ⟨#[98]⟩

set_option maxRecDepth 100000 in
set_option maxHeartbeats 2000000 in
theorem known_any {W : World} (hg : W.cell? ⟨0, 0, none⟩ = some (.iface 63 (.agg #[.pointer (some ⟨1, 25, none⟩)]))) : Calls Tryd.prog 5 #[] W fun e w' => e = .returned (.bool true) ∧ Below W.heap.size W w' := by
  have hg0 : (⟨0, 0, none⟩ : Addr).block < W.heap.size := block_lt_of_cell' hg
  have HG := lhid hg
  clear hg
  go_enter Tryd.func5, Tryd.ntmps5
  go_wp2_with fail
  refine (wrap_any (.iface 29 (.int .i64 21)) ⟨_, _, rfl⟩ _ [] _ 2 2 (by omega) kF .leaf ?_).mono ?_
  · intro i hi
    rcases (show i = 0 ∨ i = 1 by omega) with rfl | rfl
    · exact ⟨_, _, rfl, by simp, by go_simp; rfl⟩
    · exact ⟨_, _, rfl, by simp, by go_simp; rfl⟩
  rintro e w1 ⟨E1, rfl, hc, hb⟩
  have hc' : Chain w1 (.iface 29 (.int .i64 21)) E1 (kF 0 :: (sfx kF 2 1 ++ [])) := hc
  obtain ⟨b, rfl⟩ := hc'.said
  have HB : Below W.heap.size W w1 := ((Below.refl _ _).alloc (Nat.le_refl _) _).trans (hb.mono (by simp))
  have HC := lhid hc
  clear hc hc' hb
  have hs1 := HB.size
  have k10 : Hid (∀ X : World, Below w1.heap.size w1 X → Calls Tryd.prog 10 #[.iface 59 (.pointer (some ⟨b, 0, none⟩))] X fun e w' => e = .returned (.int .i64 4) ∧ Below X.heap.size X w') := lhid (fun X hX => sort_any29 21 (((HB.trans (hX.mono hs1)).cell hg0).trans HG.out) _ _ (HC.out.kept hX))
  have k12 : Hid (∀ X : World, Below w1.heap.size w1 X → Calls Tryd.prog 12 #[.iface 59 (.pointer (some ⟨b, 0, none⟩))] X fun e w' => e = .returned (.int .i64 409) ∧ Below X.heap.size X w') := lhid (fun X hX => code_any29 21 (((HB.trans (hX.mono hs1)).cell hg0).trans HG.out) _ _ (HC.out.kept hX))
  have k7 : Hid (∀ X : World, Calls Tryd.prog 7 #[.int .i64 7] X fun e w' => e = .returned (.string ⟨#[112, 111, 108, 108, 100]⟩) ∧ Below X.heap.size X w') := lhid (fun X => name_any 7 X)
  go_wp2_with (first
    | (go_at_call 15; refine (is_any29 21 21 _ _ HC.out).mono ?_; rintro e w' ⟨rfl, rfl⟩)
    | (go_at_call 12; refine (k12.out _ hb2).mono ?_; rintro e w3 ⟨rfl, hb3⟩)
    | (go_at_call 7; refine (k7.out _).mono ?_; rintro e w4 ⟨rfl, hb4⟩)
    | (go_at_call_of 10 Value.nilIface; refine (sort_nil _).mono ?_; rintro e w' ⟨rfl, rfl⟩)
    | (go_at_call 10; refine (k10.out _ (Below.refl _ _)).mono ?_; rintro e w2 ⟨rfl, hb2⟩))
  go_ret
  exact ⟨rfl, ((HB.trans (hb2.mono HB.size)).trans (hb3.mono (by have := hb2.size; omega))).trans (hb4.mono (by have := hb2.size; have := hb3.size; omega))⟩

set_option maxRecDepth 100000 in
set_option maxHeartbeats 2000000 in
theorem wrapped_neg (a : Option Addr) (n c : Nat) (hn : n ≤ 9223372036854775807) (f : Nat → ByteArray) {W : World} (hN : StrRow W a n f) :
    Calls Tryd.prog 6 #[.int .i64 (-1), .slice a n c] W fun e w' => ∃ E1, e = .returned (.tuple #[E1, .int .i64 (-1)]) ∧ Chain w' (.iface 41 (.string ⟨#[120]⟩)) E1 (sfx f n n) ∧ Below W.heap.size W w' := by
  have HN := lhid hN
  clear hN
  go_enter Tryd.func6, Tryd.ntmps6
  go_wp2_with (go_at_call 16; refine (wrap_any (.iface 41 (.string ⟨#[120]⟩)) ⟨_, _, rfl⟩ _ [] a n c hn f .leaf HN.out).mono ?_; rintro e w1 ⟨E1, rfl, hc, hb⟩)
  go_ret2
  exact ⟨E1, rfl, by rw [List.append_nil] at hc; exact hc, hb⟩
set_option maxRecDepth 100000 in
set_option maxHeartbeats 2000000 in
theorem wrapped_pos (k : Int) (hk : (k == -1) = false) (a : Option Addr) (n c : Nat) (hn : n ≤ 9223372036854775807) (f : Nat → ByteArray) {W : World} (hN : StrRow W a n f) :
    Calls Tryd.prog 6 #[.int .i64 k, .slice a n c] W fun e w' => ∃ E1, e = .returned (.tuple #[E1, .int .i64 k]) ∧ Chain w' (.iface 29 (.int .i64 k)) E1 (sfx f n n) ∧ Below W.heap.size W w' := by
  have HN := lhid hN
  clear hN
  go_enter Tryd.func6, Tryd.ntmps6
  go_wp2_with (go_at_call 16; refine (wrap_any (.iface 29 (.int .i64 k)) ⟨_, _, rfl⟩ _ [] a n c hn f .leaf HN.out).mono ?_; rintro e w1 ⟨E1, rfl, hc, hb⟩)
  go_ret2
  exact ⟨E1, rfl, by rw [List.append_nil] at hc; exact hc, hb⟩

end Go.Proofs.YtccopcbemflemaaDoor
