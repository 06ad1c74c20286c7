/-
  Plain: the rows of nodes that may be members; an array of nine in memory.
-/
import Derived.Test.YtccopcbemflemaaNumA
namespace Go.Proofs.Ytccopcbemflemaa
open Go Go.RowKit

def upd (m : Nat → Int) (k : Nat) (v : Int) : Nat → Int := fun j => if j = k then v else m j
def zeroM : Nat → Int := fun _ => 0

/-- One node more, of role r; none where it may not be. -/
def place1 (x r : Int) (m : Nat → Int) : Option (Nat → Int) := if 0 ≤ x ∧ x < 9 ∧ m x.toNat = 0 then some (upd m x.toNat r) else none
/-- The first j nodes of a row. -/
def placeK (f : Nat → Int) (r : Int) : Nat → (Nat → Int) → Option (Nat → Int)
  | 0, m => some m
  | j + 1, m => (placeK f r j m).bind (place1 (f j) r)
theorem placeK_none (f : Nat → Int) (r : Int) (m : Nat → Int) (j n : Nat) (h : j ≤ n) (hj : placeK f r j m = none) : placeK f r n m = none := by
  induction n with
  | zero => obtain rfl : j = 0 := by omega
            exact hj
  | succ n ih =>
    by_cases e : j = n + 1
    · subst e; exact hj
    · rw [placeK, ih (by omega)]; rfl
theorem place1_yes (x r : Int) (m : Nat → Int) (k : Nat) (hk : k < 9) (hx : x = k) (h : m k = 0) : place1 x r m = some (upd m k r) := by
  subst hx
  unfold place1
  rw [if_pos ⟨by omega, by omega, by simpa using h⟩]
  simp
theorem place1_no (x r : Int) (m : Nat → Int) (h : x < 0 ∨ 9 ≤ x ∨ (0 ≤ x ∧ x < 9 ∧ m x.toNat ≠ 0)) : place1 x r m = none := by
  unfold place1
  rw [if_neg (fun e => by rcases h with h | h | h <;> first | omega | exact h.2.2 e.2.2)]

/-- Members, and an error's number, of two rows. -/
def ofM (fv : Nat → Int) (n : Nat) (fl : Nat → Int) (p : Nat) : (Nat → Int) × Int :=
  match (placeK fv 1 n zeroM).bind (placeK fl 2 p) with
  | some m => if n = 0 then (zeroM, 1) else (m, 0)
  | none => (zeroM, 1)
theorem ofM_none (fv : Nat → Int) (n : Nat) (fl : Nat → Int) (p : Nat) (h : (placeK fv 1 n zeroM).bind (placeK fl 2 p) = none) : ofM fv n fl p = (zeroM, 1) := by
  unfold ofM; rw [h]
theorem ofM_empty (fv : Nat → Int) (fl : Nat → Int) (p : Nat) : ofM fv 0 fl p = (zeroM, 1) := by
  unfold ofM; split
  · rfl
  · rfl
theorem ofM_some (fv : Nat → Int) (n : Nat) (fl : Nat → Int) (p : Nat) (m : Nat → Int) (hn : 0 < n) (h : (placeK fv 1 n zeroM).bind (placeK fl 2 p) = some m) : ofM fv n fl p = (m, 0) := by
  unfold ofM; rw [h]; simp; omega

theorem placeK_bd (f : Nat → Int) (r : Int) (hr : 0 ≤ r ∧ r ≤ 255) (n : Nat) : ∀ (m m' : Nat → Int), (∀ k, k < 9 → 0 ≤ m k ∧ m k ≤ 255) → placeK f r n m = some m' → ∀ k, k < 9 → 0 ≤ m' k ∧ m' k ≤ 255 := by
  induction n with
  | zero => intro m m' h e; cases e; exact h
  | succ n ih =>
    intro m m' h e k hk
    rw [placeK] at e
    cases hp : placeK f r n m with
    | none => rw [hp] at e; cases e
    | some m1 =>
      rw [hp] at e
      have h1 := ih m m1 h hp
      simp only [Option.bind_some, place1] at e
      split at e
      · cases e
        unfold upd
        split
        · exact hr
        · exact h1 k hk
      · cases e

theorem cs_same {w : World} {a : Addr} {v u : Value} (h : w.cell? a = some u) : (w.setCell a v).cell? a = some v := World.cell?_setCell_same' w a v (by rw [h]; rfl)
theorem cs_other {w : World} {a b : Addr} {v : Value} (h : a ≠ b) : (w.setCell a v).cell? b = w.cell? b := by
  apply World.cell?_setCell_other
  exact h

theorem cs_far {w : World} {a b : Addr} {v : Value} (h : a.block ≠ b.block) : (w.setCell a v).cell? b = w.cell? b := cs_other (fun e => h (by rw [e]))

/-- An array of nine bytes lies in block b. -/
def ArrAt (w : World) (b : Nat) (m : Nat → Int) : Prop := (∀ j, j < 9 → w.cell? ⟨b, j, none⟩ = some (.int .u8 (m j))) ∧ ∀ j, j < 9 → w.frozen? ⟨b, j, none⟩ = false
theorem ArrAt.lt {w : World} {b : Nat} {m : Nat → Int} (h : ArrAt w b m) : b < w.heap.size := block_lt_of_cell (h.1 0 (by omega))
theorem ArrAt.below {w w' : World} {b n : Nat} {m : Nat → Int} (h : ArrAt w b m) (hb : Below n w w') (hn : b < n) : ArrAt w' b m :=
  ⟨fun j hj => (hb.cell (p := ⟨b, j, none⟩) hn).trans (h.1 j hj), fun j hj => (hb.frozen (p := ⟨b, j, none⟩) hn).trans (h.2 j hj)⟩
theorem ArrAt.alloc {w : World} {b : Nat} {m : Nat → Int} (h : ArrAt w b m) (o : Obj) : ArrAt (w.alloc o) b m :=
  h.below (n := w.heap.size) ((Below.refl _ _).alloc (Nat.le_refl _) o) h.lt
theorem ArrAt.set {w : World} {b : Nat} {m : Nat → Int} (h : ArrAt w b m) (k : Nat) (hk : k < 9) (v : Int) : ArrAt (w.setCell ⟨b, k, none⟩ (.int .u8 v)) b (upd m k v) := by
  refine ⟨fun j hj => ?_, fun j hj => by rw [World.frozen?_setCell]; exact h.2 j hj⟩
  by_cases e : j = k
  · subst e
    rw [cs_same (h.1 j hj)]
    simp [upd]
  · rw [cs_other (by intro e'; cases e'; exact e rfl), h.1 j hj]
    simp [upd, e]
theorem ArrAt.other {w : World} {b c o : Nat} {m : Nat → Int} (h : ArrAt w b m) (hne : b ≠ c) (v : Value) : ArrAt (w.setCell ⟨c, o, none⟩ v) b m :=
  ⟨fun j hj => by rw [cs_other (by intro e; cases e; exact hne rfl)]; exact h.1 j hj, fun j hj => by rw [World.frozen?_setCell]; exact h.2 j hj⟩
theorem ArrAt.new (w : World) (m : Nat → Int) (t : TypeId) (b : Nat) (hb : b = w.heap.size) : ArrAt (w.alloc (.cells #[.int .u8 (m 0), .int .u8 (m 1), .int .u8 (m 2), .int .u8 (m 3), .int .u8 (m 4), .int .u8 (m 5), .int .u8 (m 6), .int .u8 (m 7), .int .u8 (m 8)] t)) b m := by
  subst hb
  refine ⟨fun j hj => ?_, fun j hj => ?_⟩
  · rw [World.cell?_alloc_new]
    rcases (show j = 0 ∨ j = 1 ∨ j = 2 ∨ j = 3 ∨ j = 4 ∨ j = 5 ∨ j = 6 ∨ j = 7 ∨ j = 8 by omega) with rfl | rfl | rfl | rfl | rfl | rfl | rfl | rfl | rfl <;> rfl
  · go_simp

end Go.Proofs.Ytccopcbemflemaa
