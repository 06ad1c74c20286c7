/-
  Regions that draw their order and whose callees make memory: one walk of the lexical order, over a family of worlds.
-/
import Derived.WalkKit
import Derived.WalkSpells
import Derived.WalkLawsBesides
import Derived.Deep.QuietTactic
import Derived.BigQuiet
namespace Go.Proofs.YtccopcbemflemaaDoor
open Go Go.RowKit

/-- The worlds that are as 'w' was below block number B. -/
def Fam (B : Nat) (w : World) : Type := { w' : World // Below B w w' }
def Fam.at {B : Nat} {w : World} (t : Fam B w) : World := t.1
theorem Fam.below {B : Nat} {w : World} (t : Fam B w) : Below B w t.at := t.2
instance (B : Nat) (w : World) : Nonempty (Fam B w) := ⟨⟨w, Below.refl _ _⟩⟩

theorem Fam.cell {B : Nat} {w : World} {b o : Nat} {v : Value} (hB : b < B) (h : w.cell? ⟨b, o, none⟩ = some v) : ∀ t : Fam B w, t.at.cell? ⟨b, o, none⟩ = some v :=
  fun t => (t.below.cell (p := ⟨b, o, none⟩) hB).trans h

theorem Fam.frozen {B : Nat} {w : World} {b o : Nat} {v : Bool} (hB : b < B) (h : w.frozen? ⟨b, o, none⟩ = v) : ∀ t : Fam B w, t.at.frozen? ⟨b, o, none⟩ = v :=
  fun t => (t.below.frozen (p := ⟨b, o, none⟩) hB).trans h

theorem wpQuiet_imp {P : Program} {C : World → Prop} (ops : Array Oper) (l : List Oper) : ∀ (Q1 Q2 : Act → Prop) (a : Act), (∀ a, Q1 a → Q2 a) → wpQuiet P ops C Q1 l a → wpQuiet P ops C Q2 l a := by
  induction l with
  | nil => intro Q1 Q2 a h1 h2; exact h1 _ h2
  | cons o l ih =>
    intro Q1 Q2 a h1 h2
    unfold wpQuiet at h2 ⊢
    split
    · rename_i hw
      rw [if_pos hw] at h2
      exact Oper.quiet_mono (fun a => ih Q1 Q2 a h1) h2
    · rename_i hw
      rw [if_neg hw] at h2
      exact ih Q1 Q2 _ h1 h2

theorem wp_region_fam {P : Program} {id : Nat} {Q : Exit → Act → World → Prop} {a : Act} {w : World} {l : List Oper} (B : Nat) (hm : P.follows .mixedOrders = true) (hB : Region.lexB .any l.toArray = true)
    (h : wpQuiet P l.toArray (fun w' => ∃ t : Fam B w, w' = t.at) (fun a' => ∀ t : Fam B w, Q .normal a' t.at) l a) : (Code.region id l.toArray true).wp P Q a w := by
  refine wp_region_quiet (C := fun w' => ∃ t : Fam B w, w' = t.at) hm hB ⟨⟨w.drew, (Below.refl _ _).drew⟩, rfl⟩ ?_
  refine wpQuiet_imp _ _ (fun a' => ∀ t : Fam B w, Q .normal a' t.at) _ _ ?_ (by simpa using h)
  intro a ha w' hw'
  obtain ⟨t, rfl⟩ := hw'
  exact ha t

/-- A callee's contract, met in a world of the family. -/
theorem Calls.fam {P : Program} {f : FuncId} {args : Array Value} {B : Nat} {w : World} {t : Fam B w} {v : Value} (hB : B ≤ w.heap.size)
    (h : Calls P f args t.at fun e w' => e = .returned v ∧ Below t.at.heap.size t.at w') : Calls P f args t.at fun e w'' => e = .returned v ∧ ∃ t' : Fam B w, w'' = t'.at :=
  h.mono fun _ w' ⟨he, hb⟩ => ⟨he, ⟨w', t.below.trans (hb.mono (Nat.le_trans hB t.below.size))⟩, rfl⟩

theorem bcell {W w1 : World} (hb : Below W.heap.size W w1) : (∀ b o, b < W.heap.size → w1.cell? ⟨b, o, none⟩ = W.cell? ⟨b, o, none⟩) ∧ (∀ b o, b < W.heap.size → w1.frozen? ⟨b, o, none⟩ = W.frozen? ⟨b, o, none⟩) :=
  ⟨fun b o h => hb.cell (p := ⟨b, o, none⟩) h, fun b o h => hb.frozen (p := ⟨b, o, none⟩) h⟩

end Go.Proofs.YtccopcbemflemaaDoor
