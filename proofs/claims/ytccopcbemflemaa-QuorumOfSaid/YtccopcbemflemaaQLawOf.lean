/-
  The walk of the law QuorumOf.
-/
import Derived.Test.YtccopcbemflemaaQKnown
import Derived.Test.YtccopcbemflemaaQRefOf
import Derived.Test.YtccopcbemflemaaArrEq
namespace Go.Proofs.Ytccopcbemflemaa
open Go Go.RowKit Go.Shelf

set_option maxRecDepth 100000 in
set_option maxHeartbeats 1000000 in
theorem lawOf_out (a0 a1 : Option Addr) (n c0 p c1 : Nat) (w : World) (h : 100 < n ∨ (n ≤ 100 ∧ 100 < p)) :
    Calls Try.prog 5 #[.slice a0 n c0, .slice a1 p c1] w fun e w' => e = .returned (.bool true) ∧ Below w.heap.size w w' := by
  rcases h with h | ⟨h0, h⟩
  all_goals
    go_enter Try.func5, Try.ntmps5
    go_wp2_with (go_at_call 17; refine (knownQ_any _).mono ?_; rintro e w1 ⟨rfl, hb1⟩)
    go_ret
    exact ⟨rfl, hb1⟩

set_option maxRecDepth 100000 in
set_option maxHeartbeats 1000000 in
theorem lawOf_in (a0 a1 : Option Addr) (n c0 p c1 : Nat) (z0 z1 : List Int) (hn : n ≤ 100) (hp : p ≤ 100) (w : World) (hN0 : Nums w a0 n z0) (hN1 : Nums w a1 p z1) :
    Calls Try.prog 5 #[.slice a0 n c0, .slice a1 p c1] w fun e w' => e = .returned (.bool true) ∧ Below w.heap.size w w' := by
  have HN0 := lhid hN0
  have HN1 := lhid hN1
  clear hN0 hN1
  obtain ⟨f, hf⟩ : ∃ f, f = (ofM (fun i => z0[i]?.getD 0) n (fun i => z1[i]?.getD 0) p).1 := ⟨_, rfl⟩
  obtain ⟨e, he⟩ : ∃ e, e = (ofM (fun i => z0[i]?.getD 0) n (fun i => z1[i]?.getD 0) p).2 := ⟨_, rfl⟩
  have k18 : Hid (∀ X : World, Below w.heap.size w X → Calls Try.prog 18 #[.slice a0 n c0, .slice a1 p c1] X fun x w' => x = .returned (.tuple #[.agg #[.int .u8 (f 0), .int .u8 (f 1), .int .u8 (f 2), .int .u8 (f 3), .int .u8 (f 4), .int .u8 (f 5), .int .u8 (f 6), .int .u8 (f 7), .int .u8 (f 8)], .int .i64 e]) ∧ Below X.heap.size X w') := fun X hX => by
    rw [hf, he]; exact of_any a0 a1 n c0 p c1 z0 z1 hn hp X (HN0.out.below hX (Nat.le_refl _)) (HN1.out.below hX (Nat.le_refl _))
  have k19 : Hid (∀ X : World, Below w.heap.size w X → Calls Try.prog 19 #[.slice a0 n c0, .slice a1 p c1] X fun x w' => x = .returned (.tuple #[.agg #[.int .u8 (f 0), .int .u8 (f 1), .int .u8 (f 2), .int .u8 (f 3), .int .u8 (f 4), .int .u8 (f 5), .int .u8 (f 6), .int .u8 (f 7), .int .u8 (f 8)], .int .i64 e]) ∧ Below X.heap.size X w') := fun X hX => by
    rw [hf, he]; exact refOf_any a0 a1 n c0 p c1 z0 z1 hn hp X (HN0.out.below hX (Nat.le_refl _)) (HN1.out.below hX (Nat.le_refl _))
  clear hf he
  have hq : ∀ w, (binOp .eql 41 (.agg #[.int .u8 (f 0), .int .u8 (f 1), .int .u8 (f 2), .int .u8 (f 3), .int .u8 (f 4), .int .u8 (f 5), .int .u8 (f 6), .int .u8 (f 7), .int .u8 (f 8)]) (.agg #[.int .u8 (f 0), .int .u8 (f 1), .int .u8 (f 2), .int .u8 (f 3), .int .u8 (f 4), .int .u8 (f 5), .int .u8 (f 6), .int .u8 (f 7), .int .u8 (f 8)])).run Try.prog w = .ok (.bool true) w := fun w => by rw [eql_arr 41 Try.underlying41 f f w, allEq_self]
  go_enter Try.func5, Try.ntmps5
  go_wp2_with (go_at_call 17; refine (knownQ_any _).mono ?_; rintro e w1 ⟨rfl, hb1⟩)
  refine (k18.out _ hb1).mono ?_
  rintro x w2 ⟨rfl, hb2⟩
  have HB2 := hb1.trans (hb2.mono hb1.size)
  have hs2 := HB2.size
  clear hb1 hb2
  go_wp2_with fail
  refine (k19.out _ (HB2.alloc hs2 _)).mono ?_
  rintro x w3 ⟨rfl, hb3⟩
  have hc3 := (bcell hb3).1
  have hl3 : w2.heap.size < w3.heap.size := by have := hb3.size; simp at this; omega
  have HB3 : Below w.heap.size w w3 := (HB2.alloc hs2 _).trans (hb3.mono (by simp; omega))
  clear hb3
  go_wp2_with fail
  go_ret
  exact ⟨rfl, HB3.alloc HB3.size _⟩

theorem lawOf_all (a0 a1 : Option Addr) (n c0 p c1 : Nat) (z0 z1 : List Int) (w : World) (hN0 : Nums w a0 n z0) (hN1 : Nums w a1 p z1) :
    Calls Try.prog 5 #[.slice a0 n c0, .slice a1 p c1] w fun e w' => e = .returned (.bool true) ∧ Below w.heap.size w w' := by
  by_cases h0 : 100 < n
  · exact lawOf_out a0 a1 n c0 p c1 w (.inl h0)
  by_cases h1 : 100 < p
  · exact lawOf_out a0 a1 n c0 p c1 w (.inr ⟨by omega, h1⟩)
  exact lawOf_in a0 a1 n c0 p c1 z0 z1 (by omega) (by omega) w hN0 hN1

end Go.Proofs.Ytccopcbemflemaa
