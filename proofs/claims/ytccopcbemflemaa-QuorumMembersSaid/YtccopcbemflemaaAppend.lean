/-
  append([]bool{}, yes...) and one bool more, as the laws want them.
-/
import Derived.Test.YtccopcbemflemaaQLawVotes
namespace Go.Proofs.Ytccopcbemflemaa
open Go Go.RowKit Go.Shelf

theorem boolRow_cells (f : Nat → Bool) (n : Nat) : ∀ u ∈ boolRow f n, u.oneCell' = true := by
  intro u hu
  unfold boolRow at hu
  obtain ⟨i, _, rfl⟩ := List.mem_map.1 hu
  rfl

theorem append_empty {ops : Array Oper} {rest : List Oper} {o : Oper} {a : Act} {Q : Exit → Act → World → Prop} {w : World} (hgd : o.guard = none) (s x : Operand)
    (ho : o.op = .call { callee := .builtin .append, args := #[s, x], argTypes := #[53, 53] }) (base : Nat) (hbase : base ≤ w.heap.size) (g0 : Nat) (hs : a.eval s = .slice (some ⟨g0, 0, none⟩) 0 0)
    (hg0 : w.heap[g0]? = some (.cells #[] 4 (0, 0))) (hbg : base ≤ g0) (b off n c : Nat) (f : Nat → Bool) (hx : a.eval x = .slice (some ⟨b, off, none⟩) n c) (hN : Bools w (some ⟨b, off, none⟩) n f) (hn0 : 0 < n) (hn : n ≤ 100)
    (h : ∀ g cap w', w'.ownsRow base 4 1 (.slice (some ⟨g, 0, none⟩) n cap) n (boolRow f n) → Below base w w' → base ≤ g → g < w'.heap.size → wpList Try.prog ops Q rest (a.put o.dst (.slice (some ⟨g, 0, none⟩) n cap)) w') : wpList Try.prog ops Q (o :: rest) a w := by
  obtain ⟨i0, hi, hz0, hz1, hz2⟩ := info_parts info4
  have hown : w.ownsRow base 4 1 (.slice (some ⟨g0, 0, none⟩) 0 0) 0 [] := ⟨rfl, .inr ⟨g0, 0, #[], rfl, hbg, hg0, Nat.le_refl _, Nat.zero_le _, rfl, rfl⟩⟩
  refine wpList_append_lies w hgd s x 53 ho base 4 i0 (.bool false) 1 1 Try.underlying53 hi hz0 hz1 hz2 rfl (by omega) _ 0 [] hs hown ⟨b, off, none⟩ n c (boolRow f n) hx (by rw [boolRow_length, Nat.mul_one]) (bools_news hN rfl) (boolRow_cells f n) hn0 (by unfold maxLen; omega) (by omega) hbase _ rfl ?_
  intro g cap w' hown' hgrow hat hlt
  rw [Nat.zero_add, List.nil_append] at hown'
  rw [Nat.zero_add]
  refine h g cap w' hown' ((Below.refl base w).grown hgrow hbase (fun k e => by cases e; exact hbg)) ?_ hlt
  rcases hat with e | e
  · cases e; exact hbg
  · omega

theorem append_one {ops : Array Oper} {rest : List Oper} {o : Oper} {a : Act} {Q : Exit → Act → World → Prop} {w : World} (hgd : o.guard = none) (s x : Operand)
    (ho : o.op = .call { callee := .builtin .append, args := #[s, x], argTypes := #[53, 53] }) (base : Nat) (hbase : base ≤ w.heap.size) (g0 n cap0 : Nat) (f : Nat → Bool) (hs : a.eval s = .slice (some ⟨g0, 0, none⟩) n cap0)
    (hown : w.ownsRow base 4 1 (.slice (some ⟨g0, 0, none⟩) n cap0) n (boolRow f n)) (hbg : base ≤ g0) (q : Nat) (v : Bool) (hx : a.eval x = .slice (some ⟨q, 0, none⟩) 1 1) (hq : w.cell? ⟨q, 0, none⟩ = some (.bool v)) (hn : n ≤ 100)
    (h : ∀ g cap w', w'.ownsRow base 4 1 (.slice (some ⟨g, 0, none⟩) (n + 1) cap) (n + 1) (boolRow (updB f n v) (n + 1)) → Below base w w' → base ≤ g → g < w'.heap.size → wpList Try.prog ops Q rest (a.put o.dst (.slice (some ⟨g, 0, none⟩) (n + 1) cap)) w') : wpList Try.prog ops Q (o :: rest) a w := by
  obtain ⟨i0, hi, hz0, hz1, hz2⟩ := info_parts info4
  refine wpList_append_lies w hgd s x 53 ho base 4 i0 (.bool false) 1 1 Try.underlying53 hi hz0 hz1 hz2 rfl (by omega) _ n (boolRow f n) hs hown ⟨q, 0, none⟩ 1 1 [.bool v] hx rfl ?_ ?_ (by omega) (by unfold maxLen; omega) (by omega) hbase _ rfl ?_
  · intro j u hj
    have hj0 : j = 0 := by
      have := (List.getElem?_eq_some_iff.1 hj).1
      simp at this
      exact this
    subst hj0
    rw [← Option.some.inj hj]
    simpa [Addr.add] using hq
  · intro u hu
    simp at hu
    subst hu
    rfl
  intro g cap w' hown' hgrow hat hlt
  rw [boolRow_snoc] at hown'
  refine h g cap w' hown' ((Below.refl base w).grown hgrow hbase (fun k e => by cases e; exact hbg)) ?_ hlt
  rcases hat with e | e
  · cases e; exact hbg
  · omega

end Go.Proofs.Ytccopcbemflemaa
