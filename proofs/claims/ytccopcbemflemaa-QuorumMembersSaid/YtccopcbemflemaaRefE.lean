/-
  quorum.Encode; nine bytes as a string.
-/
import Derived.Test.YtccopcbemflemaaRefD
namespace Go.Proofs.Ytccopcbemflemaa
open Go Go.RowKit Go.Shelf

/-- Nine bytes lie at the head of block b. -/
def NineAt (w : World) (b : Nat) (m : Nat → Int) : Prop := ∀ j, j < 9 → w.cell? ⟨b, j, none⟩ = some (.int .u8 (m j))
theorem NineAt.below {w w' : World} {b n : Nat} {m : Nat → Int} (h : NineAt w b m) (hb : Below n w w') (hn : b < n) : NineAt w' b m := fun j hj => (hb.cell (p := ⟨b, j, none⟩) hn).trans (h j hj)

theorem append_nine {ops : Array Oper} {rest : List Oper} {o : Oper} {a : Act} {Q : Exit → Act → World → Prop} {w : World} (hgd : o.guard = none) (s x : Operand)
    (ho : o.op = .call { callee := .builtin .append, args := #[s, x], argTypes := #[59, 59] }) (base : Nat) (hbase : base ≤ w.heap.size) (g0 : Nat) (hs : a.eval s = .slice (some ⟨g0, 0, none⟩) 0 0)
    (hg0 : w.heap[g0]? = some (.cells #[] 5 (0, 0))) (hbg : base ≤ g0) (b : Nat) (m : Nat → Int) (hx : a.eval x = .slice (some ⟨b, 0, none⟩) 9 9) (hN : NineAt w b m)
    (h : ∀ g cap w', NineAt w' g m → Below base w w' → g < w'.heap.size → wpList Try.prog ops Q rest (a.put o.dst (.slice (some ⟨g, 0, none⟩) 9 cap)) w') : wpList Try.prog ops Q (o :: rest) a w := by
  obtain ⟨i0, hi, hz0, hz1, hz2⟩ := info_parts info5
  have hown : w.ownsRow base 5 1 (.slice (some ⟨g0, 0, none⟩) 0 0) 0 [] := ⟨rfl, .inr ⟨g0, 0, #[], rfl, hbg, hg0, Nat.le_refl _, Nat.zero_le _, rfl, rfl⟩⟩
  refine wpList_append_lies w hgd s x 59 ho base 5 i0 (.int .u8 0) 1 1 Try.underlying59 hi hz0 hz1 hz2 rfl (by omega) _ 0 [] hs hown ⟨b, 0, none⟩ 9 9 [.int .u8 (m 0), .int .u8 (m 1), .int .u8 (m 2), .int .u8 (m 3), .int .u8 (m 4), .int .u8 (m 5), .int .u8 (m 6), .int .u8 (m 7), .int .u8 (m 8)] hx rfl ?_ (copyOne m) (by omega) (by unfold maxLen; omega) (by omega) hbase _ rfl ?_
  · intro j u hj
    have hlt : j < 9 := by have := (List.getElem?_eq_some_iff.1 hj).1; simpa using this
    have hadd : (⟨b, 0, none⟩ : Addr).add j = ⟨b, j, none⟩ := by unfold Addr.add; split <;> simp_all
    rw [hadd, hN j hlt]
    rcases (show j = 0 ∨ j = 1 ∨ j = 2 ∨ j = 3 ∨ j = 4 ∨ j = 5 ∨ j = 6 ∨ j = 7 ∨ j = 8 by omega) with rfl | rfl | rfl | rfl | rfl | rfl | rfl | rfl | rfl <;> exact hj
  intro g cap w' hown' hgrow hat hlt
  refine h g cap w' (fun j hj => ?_) ((Below.refl base w).grown hgrow hbase (fun k e => by cases e; exact hbg)) hlt
  have := hown'.cellAt j (by simpa using hj)
  rw [this]
  rcases (show j = 0 ∨ j = 1 ∨ j = 2 ∨ j = 3 ∨ j = 4 ∨ j = 5 ∨ j = 6 ∨ j = 7 ∨ j = 8 by omega) with rfl | rfl | rfl | rfl | rfl | rfl | rfl | rfl | rfl <;> rfl

set_option maxRecDepth 100000 in
set_option maxHeartbeats 1000000 in
theorem encode_any (m : Nat → Int) (w : World) :
    Calls Try.prog 34 #[.agg #[.int .u8 (m 0), .int .u8 (m 1), .int .u8 (m 2), .int .u8 (m 3), .int .u8 (m 4), .int .u8 (m 5), .int .u8 (m 6), .int .u8 (m 7), .int .u8 (m 8)]] w fun e w' => ∃ g cap, e = .returned (.slice (some ⟨g, 0, none⟩) 9 cap) ∧ NineAt w' g m ∧ Below w.heap.size w w' := by
  go_enter Try.func34, Try.ntmps34
  go_upto_region 1 with (fail)
  refine wp_named (fun w' => NineAt w' w.heap.size m ∧ Below w.heap.size w w') ⟨(ArrAt.new w m 42 _ rfl).1, (Below.refl _ _).alloc (Nat.le_refl _) _⟩ ?_
  rintro w1 ⟨hA, HB⟩
  have HA := lhid hA
  have hlt : w.heap.size < w1.heap.size := block_lt_of_cell (hA 0 (by omega))
  clear hA
  go_wp2_with (refine append_nine rfl (.tmp 3) (.tmp 4) rfl w1.heap.size (by simp) w1.heap.size rfl (World.alloc_heap_new w1 _) (Nat.le_refl _) w.heap.size m rfl (HA.out.below ((Below.refl _ _).alloc (Nat.le_refl _) _) hlt) ?_; intro g cap w2 hN2 hb2 hlt2)
  go_ret
  exact ⟨g, cap, rfl, hN2, HB.trans ((((Below.refl _ w1).alloc (Nat.le_refl _) _).trans hb2).mono HB.size)⟩

theorem nine_string (src : TypeId) (m : Nat → Int) (w : World) (b cap : Nat) (hs : Try.prog.underlying src = some (.slice 5)) (h : NineAt w b m) :
    (convert src 9 (.slice (some ⟨b, 0, none⟩) 9 cap)).run Try.prog w = .ok (.string (strOfNums [m 0, m 1, m 2, m 3, m 4, m 5, m 6, m 7, m 8])) w := by
  refine run_convert_bytes_arg w src 5 hs Try.underlying5 b 0 9 cap [m 0, m 1, m 2, m 3, m 4, m 5, m 6, m 7, m 8] rfl (fun j hj => ?_) 9 Try.underlying9
  rw [Nat.zero_add, h j hj]
  rcases (show j = 0 ∨ j = 1 ∨ j = 2 ∨ j = 3 ∨ j = 4 ∨ j = 5 ∨ j = 6 ∨ j = 7 ∨ j = 8 by omega) with rfl | rfl | rfl | rfl | rfl | rfl | rfl | rfl | rfl <;> rfl

end Go.Proofs.Ytccopcbemflemaa
