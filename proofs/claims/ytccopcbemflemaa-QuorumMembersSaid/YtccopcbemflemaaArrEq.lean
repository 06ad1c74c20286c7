/-
  Two arrays of nine bytes: == and !=.
-/
import Derived.Test.YtccopcbemflemaaRows
import Derived.WalkKit
import Derived.WalkSpells
import Derived.ProofKit
import Derived.ChangeKeysEq
namespace Go.Proofs.Ytccopcbemflemaa
open Go Go.RowKit

def allEq (f g : Nat → Int) : Bool := (List.range 9).all fun i => f i == g i
theorem allEq_self (f : Nat → Int) : allEq f f = true := by simp [allEq]
theorem allEq_iff (f g : Nat → Int) : allEq f g = true ↔ ∀ i, i < 9 → f i = g i := by simp [allEq]

theorem arr_get (f : Nat → Int) (i : Nat) (hi : i < 9) : (#[Value.int .u8 (f 0), Value.int .u8 (f 1), Value.int .u8 (f 2), Value.int .u8 (f 3), Value.int .u8 (f 4), Value.int .u8 (f 5), Value.int .u8 (f 6), Value.int .u8 (f 7), Value.int .u8 (f 8)] : Array Value)[i]? = some (.int .u8 (f i)) := by
  rcases (show i = 0 ∨ i = 1 ∨ i = 2 ∨ i = 3 ∨ i = 4 ∨ i = 5 ∨ i = 6 ∨ i = 7 ∨ i = 8 by omega) with rfl | rfl | rfl | rfl | rfl | rfl | rfl | rfl | rfl <;> rfl

theorem info5_some : ∃ i, Try.prog.info? 5 = some i := ⟨Try.t5, by kernel_rfl⟩
theorem cells5 : Try.prog.cellsOf 5 = 1 := by kernel_rfl

theorem eqItems_ints (f g : Nat → Int) (d : Nat) (w : World) : ∀ (is : List Nat), (∀ i ∈ is, i < 9) →
    (Op.eqItems (d + 1) 5 1 #[.int .u8 (f 0), .int .u8 (f 1), .int .u8 (f 2), .int .u8 (f 3), .int .u8 (f 4), .int .u8 (f 5), .int .u8 (f 6), .int .u8 (f 7), .int .u8 (f 8)] #[.int .u8 (g 0), .int .u8 (g 1), .int .u8 (g 2), .int .u8 (g 3), .int .u8 (g 4), .int .u8 (g 5), .int .u8 (g 6), .int .u8 (g 7), .int .u8 (g 8)] is).run Try.prog w = .ok (is.all fun i => f i == g i) w := by
  intro is
  induction is with
  | nil => intro _; simp [Op.eqItems]
  | cons i is ih =>
    intro h
    have hi : i < 9 := h i (by simp)
    have px : (part 5 #[.int .u8 (f 0), .int .u8 (f 1), .int .u8 (f 2), .int .u8 (f 3), .int .u8 (f 4), .int .u8 (f 5), .int .u8 (f 6), .int .u8 (f 7), .int .u8 (f 8)] (i * 1)).run Try.prog w = .ok (.int .u8 (f i)) w := by
      simp [part, isAgg, run_underlying Try.underlying5, arr_get f i hi]
    have py : (part 5 #[.int .u8 (g 0), .int .u8 (g 1), .int .u8 (g 2), .int .u8 (g 3), .int .u8 (g 4), .int .u8 (g 5), .int .u8 (g 6), .int .u8 (g 7), .int .u8 (g 8)] (i * 1)).run Try.prog w = .ok (.int .u8 (g i)) w := by
      simp [part, isAgg, run_underlying Try.underlying5, arr_get g i hi]
    simp only [Op.eqItems, Sem.run_bind, px, py, run_equalIn_int w d 5 .u8 .u8 _ _ Try.underlying5, Result.andThen_ok, List.all_cons]
    cases hb : (f i == g i)
    · simp
    · simp only [Bool.not_true, Bool.false_eq_true, if_false, Bool.true_and]
      exact ih fun j hj => h j (by simp [hj])

theorem equal_arr (t : TypeId) (ht : Try.prog.underlying t = some (.array 9 5)) (f g : Nat → Int) (w : World) :
    (Op.equal t (.agg #[.int .u8 (f 0), .int .u8 (f 1), .int .u8 (f 2), .int .u8 (f 3), .int .u8 (f 4), .int .u8 (f 5), .int .u8 (f 6), .int .u8 (f 7), .int .u8 (f 8)]) (.agg #[.int .u8 (g 0), .int .u8 (g 1), .int .u8 (g 2), .int .u8 (g 3), .int .u8 (g 4), .int .u8 (g 5), .int .u8 (g 6), .int .u8 (g 7), .int .u8 (g 8)])).run Try.prog w = .ok (allEq f g) w := by
  obtain ⟨i, hi⟩ := info5_some
  have h := run_equalIn_array (P := Try.prog) w 9999 (t := t) (e := 5) (n := 9) (i := i) #[.int .u8 (f 0), .int .u8 (f 1), .int .u8 (f 2), .int .u8 (f 3), .int .u8 (f 4), .int .u8 (f 5), .int .u8 (f 6), .int .u8 (f 7), .int .u8 (f 8)] #[.int .u8 (g 0), .int .u8 (g 1), .int .u8 (g 2), .int .u8 (g 3), .int .u8 (g 4), .int .u8 (g 5), .int .u8 (g 6), .int .u8 (g 7), .int .u8 (g 8)] ht hi
  rw [cells5, eqItems_ints f g 9998 w (List.range 9) (by simp)] at h
  exact h

theorem eql_arr (t : TypeId) (ht : Try.prog.underlying t = some (.array 9 5)) (f g : Nat → Int) (w : World) :
    (binOp .eql t (.agg #[.int .u8 (f 0), .int .u8 (f 1), .int .u8 (f 2), .int .u8 (f 3), .int .u8 (f 4), .int .u8 (f 5), .int .u8 (f 6), .int .u8 (f 7), .int .u8 (f 8)]) (.agg #[.int .u8 (g 0), .int .u8 (g 1), .int .u8 (g 2), .int .u8 (g 3), .int .u8 (g 4), .int .u8 (g 5), .int .u8 (g 6), .int .u8 (g 7), .int .u8 (g 8)])).run Try.prog w = .ok (.bool (allEq f g)) w := by
  simp only [binOp]
  simp [equal_arr t ht f g w]
theorem neq_arr (t : TypeId) (ht : Try.prog.underlying t = some (.array 9 5)) (f g : Nat → Int) (w : World) :
    (binOp .neq t (.agg #[.int .u8 (f 0), .int .u8 (f 1), .int .u8 (f 2), .int .u8 (f 3), .int .u8 (f 4), .int .u8 (f 5), .int .u8 (f 6), .int .u8 (f 7), .int .u8 (f 8)]) (.agg #[.int .u8 (g 0), .int .u8 (g 1), .int .u8 (g 2), .int .u8 (g 3), .int .u8 (g 4), .int .u8 (g 5), .int .u8 (g 6), .int .u8 (g 7), .int .u8 (g 8)])).run Try.prog w = .ok (.bool (!allEq f g)) w := by
  simp only [binOp]
  simp [equal_arr t ht f g w]

end Go.Proofs.Ytccopcbemflemaa
