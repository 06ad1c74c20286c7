/-
  quorum.All: what it hands back, and what a range over that is told.
-/
import Derived.Test.YtccopcbemflemaaFam
import Derived.Test.YtccopcbemflemaaRows
import Derived.RangeFuncNested
import Derived.RangeFuncBound
import Derived.RangeFuncCalls
import Derived.RangeFuncLeaves
import Derived.RangeFuncBox
import Derived.OwnWalkIn
import Derived.Shelf.Abstract
import Derived.TacticsInMore
import Derived.LoopNIn
import Derived.LoopIn
namespace Go.Proofs.Ytccopcbemflemaa
open Go Go.RowKit

attribute [local go_sem] Oper.semAt_some

/-- The nodes below k that have the role. -/
def selK (m : Nat → Int) (role : Int) : Nat → List (Fin 9)
  | 0 => []
  | k + 1 => if h : k < 9 ∧ m k = role then selK m role k ++ [⟨k, h.1⟩] else selK m role k
theorem selK_yes (m : Nat → Int) (role : Int) (k : Nat) (hk : k < 9) (h : m k = role) : selK m role (k + 1) = selK m role k ++ [⟨k, hk⟩] := by
  rw [selK, dif_pos ⟨hk, h⟩]
theorem selK_no (m : Nat → Int) (role : Int) (k : Nat) (h : ¬ m k = role) : selK m role (k + 1) = selK m role k := by
  rw [selK, dif_neg (fun e => h e.2)]
theorem selK_length (m : Nat → Int) (role : Int) (k : Nat) : (selK m role k).length ≤ k := by
  induction k with
  | zero => exact Nat.le_refl _
  | succ k ih =>
    by_cases h : k < 9 ∧ m k = role
    · rw [selK, dif_pos h]; simp; omega
    · rw [selK, dif_neg h]; omega

/-- Block B lies as it lay. -/
def KeepB (B : Nat) (W W' : World) : Prop := W'.heap[B]? = W.heap[B]?
theorem KeepB.refl (B : Nat) (W : World) : KeepB B W W := rfl
theorem KeepB.trans {B : Nat} {X Y Z : World} (h : KeepB B X Y) (k : KeepB B Y Z) : KeepB B X Z := Eq.trans k h
theorem KeepB.cell {B : Nat} {X Y : World} (h : KeepB B X Y) {o : Nat} {v : Value} (hc : X.cell? ⟨B, o, none⟩ = some v) : Y.cell? ⟨B, o, none⟩ = some v := (World.cell?_of_block (w := X) (w' := Y) (a := ⟨B, o, none⟩) (by exact h)).trans hc
theorem KeepB.put {B : Nat} {w : World} (hB : B < w.heap.size) (W : World) (l : Nat) (o o' : Obj) (hl : w.heap.size ≤ l) (_ : W.heap[l]? = some o) (_ : o.isCells = false) (_ : o.isWalk = false) : KeepB B W (W.putObj l o') :=
  World.putObj_heap_other (by omega)
theorem KeepB.setCell {B b : Nat} (W : World) (h : B ≠ b) (v : Value) : KeepB B W (W.setCell ⟨b, 0, none⟩ v) := Below.heap_setCell W ⟨b, 0, none⟩ v B h
theorem KeepB.alloc {B : Nat} (W : World) (h : B < W.heap.size) (o : Obj) : KeepB B W (W.alloc o) := Below.heap_alloc W o B h
theorem KeepB.below {B n : Nat} {X Y : World} (h : Below n X Y) (hB : B < n) : KeepB B X Y := h.block B hB

theorem Boxed.at_size (W : World) (t : TypeId) (v : Value) (B : Nat) (h : B = W.heap.size) : Boxed (W.alloc (.cells #[v] t)) B t v := by subst h; exact Boxed.new W t v

theorem index_m (m : Nat → Int) (k : Nat) (hk : k < 9) (w : World) : (Instr.index 42 (.agg #[.int .u8 (m 0), .int .u8 (m 1), .int .u8 (m 2), .int .u8 (m 3), .int .u8 (m 4), .int .u8 (m 5), .int .u8 (m 6), .int .u8 (m 7), .int .u8 (m 8)]) (.int .i64 k)).run Try.prog w = .ok (.int .u8 (m k)) w := by
  rcases (show k = 0 ∨ k = 1 ∨ k = 2 ∨ k = 3 ∨ k = 4 ∨ k = 5 ∨ k = 6 ∨ k = 7 ∨ k = 8 by omega) with rfl | rfl | rfl | rfl | rfl | rfl | rfl | rfl | rfl <;> kernel_rfl

set_option maxRecDepth 100000 in
set_option maxHeartbeats 2000000 in
/-- quorum.All's closure, for every loop body that keeps the role's box. -/
theorem all1_in (F : Fence) (n : Nat) (hf : F.fn 37) (hro : F.round = none) (hn : 1 ≤ n) (l Bm Br : Nat) (m : Nat → Int) (role : Int) (hm : ∀ k, k < 9 → 0 ≤ m k ∧ m k ≤ 255) (J Jx : List (Fin 9) → World → Prop)
    (hY : ∀ pre x W, J pre W → pre.length < 9 → YieldAt F (n - 1) Try.prog l #[.int .i64 (x.val : Int)] W fun e W' =>
      (e = .returned (.bool true) ∧ J (pre ++ [x]) W' ∧ KeepB Br W W') ∨ (e = .returned (.bool false) ∧ Jx (pre ++ [x]) W'))
    (W : World)
    (c0 : W.cell? ⟨Bm, 0, none⟩ = some (.int .u8 (m 0))) (c1 : W.cell? ⟨Bm, 1, none⟩ = some (.int .u8 (m 1))) (c2 : W.cell? ⟨Bm, 2, none⟩ = some (.int .u8 (m 2))) (c3 : W.cell? ⟨Bm, 3, none⟩ = some (.int .u8 (m 3))) (c4 : W.cell? ⟨Bm, 4, none⟩ = some (.int .u8 (m 4)))
    (c5 : W.cell? ⟨Bm, 5, none⟩ = some (.int .u8 (m 5))) (c6 : W.cell? ⟨Bm, 6, none⟩ = some (.int .u8 (m 6))) (c7 : W.cell? ⟨Bm, 7, none⟩ = some (.int .u8 (m 7))) (c8 : W.cell? ⟨Bm, 8, none⟩ = some (.int .u8 (m 8)))
    (cr : W.cell? ⟨Br, 0, none⟩ = some (.int .i64 role)) (h0 : J [] W) :
    CallsIn F n Try.prog 37 #[.func (.yield l) #[] #[], .pointer (some ⟨Bm, 0, none⟩), .pointer (some ⟨Br, 0, none⟩)] W fun e W' => (∃ v, e = .returned v) ∧
      ((∃ ys, ys = selK m role 9 ∧ J ys W') ∨ (∃ pre, (∃ k, k ≤ 9 ∧ pre = selK m role k) ∧ Jx pre W')) := by
  have HM := lhid hm
  clear hm
  refine callsIn_of_wp Try.func37 rfl hf ?_ hro
  simp only [Try.ntmps37, List.size_toArray, List.length_cons, List.length_nil, Nat.reduceAdd, Nat.reduceSub, Array.replicate_succ, Array.replicate_zero, List.push_toArray, List.append_toArray, List.nil_append, List.cons_append]
  gi_wp2
  clear c0 c1 c2 c3 c4 c5 c6 c7 c8
  gi_loopw [7] (fun i wr => ∃ k : Nat, k ≤ 9 ∧ i = .int .i64 k ∧ J (selK m role k) wr ∧ KeepB Br W wr)
    (fun i _ => 9 - (intOf i).toNat)
  case atStart => exact ⟨0, Nat.zero_le _, rfl, h0, KeepB.refl _ _⟩
  case round =>
    obtain ⟨k, hk, rfl, hJs, hnx⟩ := hrel
    have hcr : wr.cell? ⟨Br, 0, none⟩ = some (.int .i64 role) := hnx.cell cr
    by_cases hlt : k < 9
    · have hi := index_m m k hlt
      have hmk0 := (HM.out k hlt).1
      have hmk1 := (HM.out k hlt).2
      by_cases hr : m k = role
      · obtain ⟨fn, tmps, assign, body, hy, hR⟩ := hY _ ⟨k, hlt⟩ wr hJs (by have := selK_length m role k; omega)
        dsimp only at hy
        have hb : (m k == role) = true := beq_iff_eq.2 hr
        have HR := lhid hr
        clear hr
        gi_wp2
        refine hR.mono ?_
        rintro e W3 (⟨rfl, hJ3, hk3⟩ | ⟨rfl, hJx3⟩)
        · gi_wp2
          go_roundw
          case rel => exact ⟨k + 1, by omega, by simp, by rw [selK_yes m role k hlt HR.out]; exact hJ3, hnx.trans hk3⟩
          case measure => simp [intOf]; omega
        · gi_wp2
          refine bodyPost_ret (results_none rfl _ _ _) rfl ?_
          exact ⟨⟨_, rfl⟩, .inr ⟨_, ⟨k + 1, by omega, (selK_yes m role k hlt HR.out).symm⟩, hJx3⟩⟩
      · have hb : (m k == role) = false := beq_eq_false_iff_ne.2 hr
        gi_wp2
        refine ⟨fun _ h => (by cases h), ?_⟩
        gi_wp2
        go_roundw
        case rel => exact ⟨k + 1, by omega, by simp, by rw [selK_no m role k hr]; exact hJs, hnx⟩
        case measure => simp [intOf]; omega
    · obtain rfl : k = 9 := by omega
      gi_wp2
      go_end0
      exact ⟨⟨_, rfl⟩, .inl ⟨_, rfl, hJs⟩⟩

set_option maxRecDepth 100000 in
set_option maxHeartbeats 1000000 in
/-- quorum.All: both arguments are boxed; the function value captures the boxes. -/
theorem all_in (F : Fence) (n : Nat) (hf : F.fn 35) (hro : F.round = none) (m : Nat → Int) (role : Int) (w : World) :
    CallsIn F n Try.prog 35 #[.agg #[.int .u8 (m 0), .int .u8 (m 1), .int .u8 (m 2), .int .u8 (m 3), .int .u8 (m 4), .int .u8 (m 5), .int .u8 (m 6), .int .u8 (m 7), .int .u8 (m 8)], .int .i64 role] w fun e w' => e = .returned (.func (.func 37) #[] #[.pointer (some ⟨w.heap.size, 0, none⟩), .pointer (some ⟨w.heap.size + 1, 0, none⟩)]) ∧
      w' = (w.alloc (.cells #[.int .u8 (m 0), .int .u8 (m 1), .int .u8 (m 2), .int .u8 (m 3), .int .u8 (m 4), .int .u8 (m 5), .int .u8 (m 6), .int .u8 (m 7), .int .u8 (m 8)] 42)).alloc (.cells #[.int .i64 role] 3) := by
  refine callsIn_of_wp Try.func35 rfl hf ?_ hro
  simp only [Try.ntmps35, List.size_toArray, List.length_cons, List.length_nil, Nat.reduceAdd, Nat.reduceSub, Array.replicate_succ, Array.replicate_zero, List.push_toArray, List.append_toArray, List.nil_append, List.cons_append]
  gi_wp2
  go_ret
  exact ⟨rfl, rfl⟩

theorem all_any (m : Nat → Int) (role : Int) (w : World) :
    Calls Try.prog 35 #[.agg #[.int .u8 (m 0), .int .u8 (m 1), .int .u8 (m 2), .int .u8 (m 3), .int .u8 (m 4), .int .u8 (m 5), .int .u8 (m 6), .int .u8 (m 7), .int .u8 (m 8)], .int .i64 role] w fun e w' => e = .returned (.func (.func 37) #[] #[.pointer (some ⟨w.heap.size, 0, none⟩), .pointer (some ⟨w.heap.size + 1, 0, none⟩)]) ∧
      w' = (w.alloc (.cells #[.int .u8 (m 0), .int .u8 (m 1), .int .u8 (m 2), .int .u8 (m 3), .int .u8 (m 4), .int .u8 (m 5), .int .u8 (m 6), .int .u8 (m 7), .int .u8 (m 8)] 42)).alloc (.cells #[.int .i64 role] 3) :=
  (callsIn_wide (n := 3)).1 (all_in Fence.wide 3 trivial rfl m role w)

/-- What a range over quorum.All(m, role) is told: the nodes of that role, in order; or the first of them. -/
theorem all_stops (F : Fence) (n : Nat) (hf : F.fn 37) (hro : F.round = none) (hn : 1 ≤ n) (Bm Br : Nat) (m : Nat → Int) (role : Int) (hm : ∀ k, k < 9 → 0 ≤ m k ∧ m k ≤ 255) (w : World) (hBm : Bm < w.heap.size) (hBr : Br < w.heap.size)
    (c0 : w.cell? ⟨Bm, 0, none⟩ = some (.int .u8 (m 0))) (c1 : w.cell? ⟨Bm, 1, none⟩ = some (.int .u8 (m 1))) (c2 : w.cell? ⟨Bm, 2, none⟩ = some (.int .u8 (m 2))) (c3 : w.cell? ⟨Bm, 3, none⟩ = some (.int .u8 (m 3))) (c4 : w.cell? ⟨Bm, 4, none⟩ = some (.int .u8 (m 4))) (c5 : w.cell? ⟨Bm, 5, none⟩ = some (.int .u8 (m 5))) (c6 : w.cell? ⟨Bm, 6, none⟩ = some (.int .u8 (m 6))) (c7 : w.cell? ⟨Bm, 7, none⟩ = some (.int .u8 (m 7))) (c8 : w.cell? ⟨Bm, 8, none⟩ = some (.int .u8 (m 8)))
    (cr : w.cell? ⟨Br, 0, none⟩ = some (.int .i64 role)) :
    SeqStopsK F n Try.prog 37 #[.pointer (some ⟨Bm, 0, none⟩), .pointer (some ⟨Br, 0, none⟩)] (fun x : Fin 9 => #[Value.int .i64 (x.val : Int)]) (KeepB Br) (fun ys => ys = selK m role 9) (fun pre => ∃ k, k ≤ 9 ∧ pre = selK m role k) 9 w := fun l J Jx W hW _ _ hY h0 =>
  all1_in F n hf hro hn l Bm Br m role hm J Jx hY W
    ((hW.cell (p := ⟨Bm, 0, none⟩) hBm).trans c0) ((hW.cell (p := ⟨Bm, 1, none⟩) hBm).trans c1) ((hW.cell (p := ⟨Bm, 2, none⟩) hBm).trans c2) ((hW.cell (p := ⟨Bm, 3, none⟩) hBm).trans c3) ((hW.cell (p := ⟨Bm, 4, none⟩) hBm).trans c4) ((hW.cell (p := ⟨Bm, 5, none⟩) hBm).trans c5) ((hW.cell (p := ⟨Bm, 6, none⟩) hBm).trans c6) ((hW.cell (p := ⟨Bm, 7, none⟩) hBm).trans c7) ((hW.cell (p := ⟨Bm, 8, none⟩) hBm).trans c8)
    ((hW.cell (p := ⟨Br, 0, none⟩) hBr).trans cr) h0

end Go.Proofs.Ytccopcbemflemaa
