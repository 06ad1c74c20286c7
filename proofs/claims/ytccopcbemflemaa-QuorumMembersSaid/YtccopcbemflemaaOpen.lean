/-
  Opening arguments: an array of nine bytes by value; a slice of bools.
-/
import Derived.Test.YtccopcbemflemaaBase
import Derived.Test.YtccopcbemflemaaQVotes
import Derived.Deep.Grids
namespace Go.Proofs.Ytccopcbemflemaa
open Go Go.ChangeShapes Go.WideShapes Go.ChangeAt Go.RowKit Go.Joins

section
variable {H : Type} {enc : TypeId × Value → H} {w : World} {base : Nat} {held : Bool}

theorem cells42 : Try.prog.cellsOf 42 = 9 := by kernel_rfl
theorem cells5' : Try.prog.cellsOf 5 = 1 := by kernel_rfl

def numAt (cs : Array Value) (k : Nat) : Int := match cs[k]? with
  | some (.int _ n) => n
  | _ => 0

theorem open_members {sp : Nat → Bool} {b0 : Nat} {r : Reach} {v : Value} {d : DataW H} {p : List MemPlace} (hv : Value.okWide Try.prog w r b0 42 v) (h : DataW.Trod enc Try.prog w base sp held 42 v d p) :
    ∃ m : Nat → Int, (∀ k, k < 9 → 0 ≤ m k ∧ m k ≤ 255) ∧ v = .agg #[.int .u8 (m 0), .int .u8 (m 1), .int .u8 (m 2), .int .u8 (m 3), .int .u8 (m 4), .int .u8 (m 5), .int .u8 (m 6), .int .u8 (m 7), .int .u8 (m 8)] := by
  simp only [Value.okWide, Try.underlying42] at hv
  obtain ⟨cs, rfl, hsz, _⟩ := hv
  rw [cells42] at hsz
  obtain ⟨fuel, hf⟩ := h
  obtain ⟨xs, mm, _, _, _, hxl, hx⟩ := DataW.trod_array Try.underlying42 hf
  have each : ∀ k, k < 9 → ∃ n, cs[k]? = some (.int .u8 n) ∧ 0 ≤ n ∧ n ≤ 255 := by
    intro k hk
    have h1 := hx k hk
    rw [cells5', List.getElem?_eq_getElem (by omega)] at h1
    obtain ⟨n, e1, _, hwf⟩ := DataW.trod_int Try.underlying5 h1
    have hb := bounds_u8 hwf
    refine ⟨n, ?_, hb⟩
    have h2 : (cs.toList.drop (k * 1)).take 1 = [.int .u8 n] := e1
    rw [Nat.mul_one] at h2
    have h3 : (cs.toList.drop k)[0]? = some (.int .u8 n) := by
      have h4 : ((cs.toList.drop k).take 1)[0]? = some (.int .u8 n) := by rw [h2]; rfl
      simpa using h4
    simpa using h3
  refine ⟨numAt cs, fun k hk => ?_, ?_⟩
  · obtain ⟨n, e, hn⟩ := each k hk
    unfold numAt
    rw [e]
    exact hn
  · have : cs = #[Value.int .u8 ((numAt cs) 0), Value.int .u8 ((numAt cs) 1), Value.int .u8 ((numAt cs) 2), Value.int .u8 ((numAt cs) 3), Value.int .u8 ((numAt cs) 4), Value.int .u8 ((numAt cs) 5), Value.int .u8 ((numAt cs) 6), Value.int .u8 ((numAt cs) 7), Value.int .u8 ((numAt cs) 8)] := by
      refine Array.ext_getElem? fun k => ?_
      by_cases hk : k < 9
      · obtain ⟨n, e, _⟩ := each k hk
        have hn : numAt cs k = n := by unfold numAt; rw [e]
        rw [e, ← hn]
        rcases (show k = 0 ∨ k = 1 ∨ k = 2 ∨ k = 3 ∨ k = 4 ∨ k = 5 ∨ k = 6 ∨ k = 7 ∨ k = 8 by omega) with rfl | rfl | rfl | rfl | rfl | rfl | rfl | rfl | rfl <;> rfl
      · rw [Array.getElem?_eq_none (by omega), Array.getElem?_eq_none (by simp; omega)]
    rw [← this]

theorem bools_of {a : Option Addr} {len cap : Nat} {f : Nat → Bool}
    (h : (a = none ∧ len = 0) ∨ ∃ x, a = some x ∧ len ≤ cap ∧ ∀ i, i < cap → w.cell? (x.add i) = some (.bool (f i))) : Bools w a len f := by
  intro i hi
  rcases h with ⟨_, rfl⟩ | ⟨x, rfl, hl, hc⟩
  · omega
  · have h00 := hc 0 (by omega)
    have h1 := hc i (by omega)
    obtain ⟨b, off, spot⟩ := x
    obtain rfl : spot = none := by simpa [Addr.add] using World.cell?_spot h00
    have h2 : w.cell? ⟨b, off + i, none⟩ = some (.bool (f i)) := by
      by_cases h0 : i = 0
      · subst h0; simpa [Addr.add] using h1
      · simpa [Addr.add, h0] using h1
    exact ⟨b, off, rfl, block_lt_of_cell h2, h2⟩

theorem cells4 : Try.prog.cellsOf 4 = 1 := by kernel_rfl
theorem open_boolrow {b0 : Nat} {x : Option Addr} {len cap : Nat} {d : DataW H} {p : List MemPlace} (h : DataW.Trod enc Try.prog w b0 (fun _ => true) held 53 (.slice x len cap) d p) : ∃ f, Bools w x len f := by
  obtain ⟨fuel, hf⟩ := h
  rcases Go.Deep.open_bools Try.underlying53 Try.underlying4 cells4 hf with ⟨hcs, _⟩ | ⟨a, l, c, f, hcs, _, hl, _, _, hcell⟩
  · simp [Value.cells] at hcs
    obtain ⟨rfl, rfl, rfl⟩ := hcs
    exact ⟨fun _ => false, bools_of (cap := 0) (.inl ⟨rfl, rfl⟩)⟩
  · simp [Value.cells] at hcs
    obtain ⟨rfl, rfl, rfl⟩ := hcs
    exact ⟨f, bools_of (cap := cap) (.inr ⟨_, rfl, hl, hcell⟩)⟩
end

end Go.Proofs.Ytccopcbemflemaa
