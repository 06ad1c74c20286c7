/-
  Small facts that each row's proof of this seat uses: the program's knobs; a row of numbers that came in.
-/
import Derived.Test.YtccopcbemflemaaNumA
import Derived.ProofKit
import Derived.OpenShut
import Derived.ShutString
import Derived.ChangeOld
import Derived.Below
import Derived.Lib.SmallJoins
namespace Go.Proofs.Ytccopcbemflemaa
open Go.ChangeShapes Go.WideShapes Go.ChangeAt Go.RowKit Go.Joins
open Go.ChangeMaps (open_string shut_string)

theorem own : ownKnob Try.prog.godebug = none := by kernel_rfl
theorem laidOut : laidOutB Try.prog = true := by kernel_rfl
theorem cells23 : Try.prog.cellsOf 23 = 3 := by kernel_rfl
theorem cells3 : Try.prog.cellsOf 3 = 1 := by kernel_rfl
theorem cells2 : Try.prog.cellsOf 2 = 1 := by kernel_rfl

theorem nums_of {w : World} {a : Option Addr} {len cap : Nat} {zs : List Int}
    (h : (a = none ∧ len = 0) ∨ ∃ x, a = some x ∧ len ≤ cap ∧ zs.length = cap ∧ ∀ i, i < zs.length → w.cell? (x.add i) = some (.int .i64 (zs.getD i 0))) : Nums w a len zs := by
  intro i hi
  rcases h with ⟨_, rfl⟩ | ⟨x, rfl, hl, hz, hc⟩
  · omega
  · have h00 := hc 0 (by omega)
    have h1 := hc i (by omega)
    obtain ⟨b, off, spot⟩ := x
    obtain rfl : spot = none := by simpa [Addr.add] using World.cell?_spot h00
    have h2 : w.cell? ⟨b, off + i, none⟩ = some (.int .i64 (zs[i]?.getD 0)) := by
      by_cases h0 : i = 0
      · subst h0; simpa [Addr.add] using h1
      · simpa [Addr.add, h0] using h1
    exact ⟨b, off, rfl, block_lt_of_cell h2, h2⟩

end Go.Proofs.Ytccopcbemflemaa
