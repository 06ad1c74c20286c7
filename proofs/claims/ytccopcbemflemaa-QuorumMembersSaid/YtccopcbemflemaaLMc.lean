/-
  QuorumMembers: every input; a slice of bytes that came in.
-/
import Derived.Test.YtccopcbemflemaaLMb
import Derived.Test.YtccopcbemflemaaOpen
namespace Go.Proofs.Ytccopcbemflemaa
open Go Go.RowKit Go.Shelf

theorem lawMembers_all (m : Nat → Int) (hm : ∀ k, k < 9 → 0 ≤ m k ∧ m k ≤ 255) (ay : Option Addr) (ny cy : Nat) (fy : Nat → Bool) (am : Option Addr) (nm cm : Nat) (z : List Int) (node role : Int) (ab : Option Addr) (nb cb : Nat) (f : Nat → Int)
    (hf : ∀ k, k < nb → 0 ≤ f k ∧ f k ≤ 255) (w : World) (hY : Bools w ay ny fy) (hN : Nums w am nm z) (hB : ByteRow w ab nb f) :
    Calls Try.prog 9 #[.agg #[.int .u8 (m 0), .int .u8 (m 1), .int .u8 (m 2), .int .u8 (m 3), .int .u8 (m 4), .int .u8 (m 5), .int .u8 (m 6), .int .u8 (m 7), .int .u8 (m 8)], .slice ay ny cy, .slice am nm cm, .int .i64 node, .int .i64 role, .slice ab nb cb] w fun e w' => e = .returned (.bool true) ∧ Below w.heap.size w w' := by
  by_cases h1 : 100 < nb
  · exact lawMembers_long m node role ay am ab cy cm cb ny nm nb w (.inl h1)
  by_cases h2 : 100 < ny
  · exact lawMembers_long m node role ay am ab cy cm cb ny nm nb w (.inr (.inl ⟨by omega, h2⟩))
  by_cases h3 : 100 < nm
  · exact lawMembers_long m node role ay am ab cy cm cb ny nm nb w (.inr (.inr ⟨by omega, by omega, h3⟩))
  have k25 := fun (X : World) (hX : Below w.heap.size w X) => decode_any ab nb cb f hf X (hB.below hX (Nat.le_refl _))
  have k26 := fun (X : World) (hX : Below w.heap.size w X) => refDecode_any ab nb cb f hf X (hB.below hX (Nat.le_refl _))
  have k20 := fun (X : World) => right_any m hm X
  have k27 := fun (X : World) => refRight_any m hm X
  cases hr : rightB m
  · rw [hr] at k20 k27
    exact lawMembers_not m (decM f nb).1 (decM f nb).2 node role ay am ab cy cm cb ny nm nb w (by omega) (by omega) (by omega) k25 k26 k20 k27
  · rw [hr] at k20 k27
    exact lawMembers_main m (decM f nb).1 (changeM m node role).1 (decM f nb).2 (changeM m node role).2 (mst m) (idxL m z nm (selK m 1 9)) (cnt m role) (wonB m fy ny) (lostB m fy ny) node role ay am ab cy cm cb ny nm nb w (by omega) (by omega) (by omega) hm k25 k26 k20 k27
      (fun X hX => votes_any m hm ay ny cy fy X (hY.below hX (Nat.le_refl _))) (fun X hX => refVotes_any m hm ay ny cy fy X (hY.below hX (Nat.le_refl _)))
      (fun X => change_any m hm node role X) (fun X => refChange_any m hm node role X) (fun X => most_of_any m hm X) (fun X => refMost_any m hm X)
      (fun X hX => index_any m hm am nm cm z X (hN.below hX (Nat.le_refl _))) (fun X hX => refIndex_any m hm am nm cm (by omega) z X (hN.below hX (Nat.le_refl _)))
      (fun X => count_any m role hm X) (fun X => refCount_any m role hm X)

open Go.ChangeShapes Go.WideShapes Go.ChangeAt Go.Joins
section
variable {H : Type} {enc : TypeId × Value → H} {w : World} {held : Bool}
theorem open_byterow {b0 : Nat} {x : Option Addr} {len cap : Nat} {d : DataW H} {p : List MemPlace} (h : DataW.Trod enc Try.prog w b0 (fun _ => true) held 59 (.slice x len cap) d p) : ∃ f : Nat → Int, (∀ k, k < len → 0 ≤ f k ∧ f k ≤ 255) ∧ ByteRow w x len f := by
  obtain ⟨fuel, hf⟩ := h
  rcases open_ints Try.underlying59 Try.underlying5 cells5' hf with ⟨hcs, _⟩ | ⟨a, l, c, zs, hcs, _, hl, hm, hz, _, hcell, hwz⟩
  · simp [Value.cells] at hcs
    obtain ⟨rfl, rfl, rfl⟩ := hcs
    exact ⟨fun _ => 0, fun k hk => by omega, fun k hk => by omega⟩
  · simp [Value.cells] at hcs
    obtain ⟨rfl, rfl, rfl⟩ := hcs
    simp only [if_true] at hz
    refine ⟨fun k => zs.getD k 0, fun k hk => ?_, fun i hi => ?_⟩
    · have hk' : k < zs.length := by omega
      have hw := hwz (zs.getD k 0) (by simp [List.getD, List.getElem?_eq_getElem hk'])
      exact bounds_u8 hw
    · have h00 := hcell 0 (by omega)
      have h1 := hcell i (by omega)
      obtain ⟨b, off, spot⟩ := a
      obtain rfl : spot = none := by simpa [Addr.add] using World.cell?_spot h00
      have h2 : w.cell? ⟨b, off + i, none⟩ = some (.int .u8 (zs.getD i 0)) := by
        by_cases h0 : i = 0
        · subst h0; simpa [Addr.add] using h1
        · simpa [Addr.add, h0] using h1
      exact ⟨b, off, rfl, block_lt_of_cell h2, h2⟩
end
end Go.Proofs.Ytccopcbemflemaa
