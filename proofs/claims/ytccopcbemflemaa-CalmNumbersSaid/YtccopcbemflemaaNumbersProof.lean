/-
  teasellaw23.CalmNumbers returns true at every input, and leaves its arguments as they were. No condition.
-/
import Derived.Test.YtccopcbemflemaaNumB
import Derived.Test.YtccopcbemflemaaBase
namespace Go.Proofs.Ytccopcbemflemaa
open Go.ChangeShapes Go.WideShapes Go.ChangeAt Go.RowKit Go.Joins
open Go.ChangeMaps (open_string shut_string)

theorem numbers_all (hi g c l d : Int) (a0 a1 : Option Addr) (n0 c0 n1 c1 : Nat) (z0 z1 : List Int) (is : Bool) (w : World) (hN0 : Nums w a0 n0 z0) (hN1 : Nums w a1 n1 z1) :
    Calls Try.prog 3 #[.int .i64 hi, .int .i64 g, .agg #[.int .i64 c, .int .i64 l, .int .i64 d], .slice a0 n0 c0, .slice a1 n1 c1, .bool is] w fun e w' => e = .returned (.bool true) ∧ Below w.heap.size w w' := by
  by_cases b0 : hi < 0
  · exact numbers_out hi g c l d a0 a1 n0 c0 n1 c1 is w (.inl b0)
  have h0 : 0 ≤ hi := by omega
  by_cases b1 : 1048576 < hi
  · exact numbers_out hi g c l d a0 a1 n0 c0 n1 c1 is w (.inr (.inl ⟨h0, b1⟩))
  have h1 : hi ≤ 1048576 := by omega
  by_cases b2 : g < 0
  · exact numbers_out hi g c l d a0 a1 n0 c0 n1 c1 is w (.inr (.inr (.inl ⟨⟨h0, h1⟩, b2⟩)))
  have h2 : 0 ≤ g := by omega
  by_cases b3 : 1048576 < g
  · exact numbers_out hi g c l d a0 a1 n0 c0 n1 c1 is w (.inr (.inr (.inr (.inl ⟨⟨h0, h1⟩, h2, b3⟩))))
  have h3 : g ≤ 1048576 := by omega
  by_cases b4 : 200 < n0
  · exact numbers_out hi g c l d a0 a1 n0 c0 n1 c1 is w (.inr (.inr (.inr (.inr (.inl ⟨⟨h0, h1⟩, ⟨h2, h3⟩, b4⟩)))))
  have h4 : n0 ≤ 200 := by omega
  by_cases b5 : 200 < n1
  · exact numbers_out hi g c l d a0 a1 n0 c0 n1 c1 is w (.inr (.inr (.inr (.inr (.inr ⟨⟨h0, h1⟩, ⟨h2, h3⟩, h4, b5⟩)))))
  exact numbers_in hi g c l d a0 a1 n0 c0 n1 c1 z0 z1 is w h0 h1 h2 h3 h4 (by omega) hN0 hN1

set_option maxRecDepth 100000 in
theorem numbers_lifted (os : Os) (started : os.Started) (H : Type) (enc : TypeId × Value → H) :
    ReturnsInHanded {} Try.checked os 3 .any (Rows.calmNumbersSpec.pre6 enc Try.prog Try.f3 Rows.calmNumbersRow.domain false) (Rows.calmNumbersSpec.post enc Try.prog Try.f3 false true false false) := by
  refine returnsInHanded_of_change (C := Try.checked) own started (by kernel_rfl) Try.func3
    (ChangeSpec.witness6 (enc := enc) (C := Try.checked) false ⟨#[], #[.int .i64 0, .int .i64 0, .agg #[.int .i64 0, .int .i64 0, .int .i64 0], .slice none 0 0, .slice none 0 0, .bool false], []⟩ 8 (by kernel_rfl) (by kernel_rfl) (by kernel_rfl) (by kernel_rfl)) ?_
  intro W base args ds gs before hval0 hW hcnd _
  have hval : ∀ (j : Nat) t v, Try.f3.params[j]? = some t → args[j]? = some v → Value.okWide Try.prog W .any base t v := hval0
  have hW' := hW
  obtain ⟨p, q, hA0, hV, rfl, hfz, hnd⟩ := hW
  have hA : DataW.TrodAll enc Try.prog W 0 (fun _ => true) true Try.f3.params.toList args.toList ds p := hA0
  rw [Try.params3] at hA hval
  obtain ⟨v0, vs0, d0, ds0, p0, q0, hargs, rfl, rfl, h0, r0⟩ := trodAll_cons hA
  obtain ⟨v1, vs1, d1, ds1, p1, q1, rfl, rfl, rfl, h1, r1⟩ := trodAll_cons r0
  obtain ⟨v2, vs2, d2, ds2, p2, q2, rfl, rfl, rfl, h2, r2⟩ := trodAll_cons r1
  obtain ⟨v3, vs3, d3, ds3, p3, q3, rfl, rfl, rfl, h3, r3⟩ := trodAll_cons r2
  obtain ⟨v4, vs4, d4, ds4, p4, q4, rfl, rfl, rfl, h4, r4⟩ := trodAll_cons r3
  obtain ⟨v5, vs5, d5, ds5, p5, q5, rfl, rfl, rfl, h5, r5⟩ := trodAll_cons r4
  obtain ⟨rfl, rfl, rfl⟩ := trodAll_nil r5
  obtain rfl : args = #[v0, v1, v2, v3, v4, v5] := by cases args; simp_all
  obtain ⟨rfl, rfl⟩ := trodVars_none hV
  have k2 := h2
  have lt2 : ∀ x ∈ p2, x.block < W.heap.size := by obtain ⟨m, hm⟩ := k2; exact DataW.trod_lt m _ _ _ hm
  have k3 := h3
  have lt3 : ∀ x ∈ p3, x.block < W.heap.size := by obtain ⟨m, hm⟩ := k3; exact DataW.trod_lt m _ _ _ hm
  have k4 := h4
  have lt4 : ∀ x ∈ p4, x.block < W.heap.size := by obtain ⟨m, hm⟩ := k4; exact DataW.trod_lt m _ _ _ hm
  obtain ⟨a0, rfl, rfl, rfl, w0⟩ := open_int Try.underlying3 (hval 0 3 v0 rfl rfl) h0
  obtain ⟨a1, rfl, rfl, rfl, w1⟩ := open_int Try.underlying3 (hval 1 3 v1 rfl rfl) h1
  obtain ⟨a5, rfl, rfl, rfl⟩ := open_bool Try.underlying4 (hval 5 4 v5 rfl rfl) h5
  obtain ⟨c0, c1, c2, y0, y1, y2, m, rfl, hd2, hp2, hy0, hy1, hy2⟩ := open_agg3 Try.underlying23 (by kernel_rfl) cells23 (hval 2 23 v2 rfl rfl) h2
  obtain ⟨b0, e0, f0, wb0⟩ := DataW.trod_int Try.underlying3 hy0
  obtain ⟨b1, e1, f1, wb1⟩ := DataW.trod_int Try.underlying3 hy1
  obtain ⟨b2, e2, f2, wb2⟩ := DataW.trod_int Try.underlying3 hy2
  simp at e0 e1 e2
  subst e0 e1 e2
  obtain ⟨x3, len3, cap3, rfl⟩ := okWide_slice Try.underlying24 (hval 3 24 v3 rfl rfl)
  obtain ⟨z3, n3⟩ : ∃ zs, Nums W x3 len3 zs := by
    obtain ⟨fuel, hf⟩ := h3
    rcases open_ints Try.underlying24 Try.underlying3 cells3 hf with ⟨hcs, _⟩ | ⟨x, l, c, zs, hcs, _, hl, hm, hz, _, hcell, hwz⟩
    · simp [Value.cells] at hcs
      obtain ⟨rfl, rfl, rfl⟩ := hcs
      exact ⟨[], nums_of (cap := 0) (.inl ⟨rfl, rfl⟩)⟩
    · simp [Value.cells] at hcs
      obtain ⟨rfl, rfl, rfl⟩ := hcs
      exact ⟨zs, nums_of (cap := cap3) (.inr ⟨_, rfl, hl, by simpa using hz, hcell⟩)⟩
  obtain ⟨x4, len4, cap4, rfl⟩ := okWide_slice Try.underlying25 (hval 4 25 v4 rfl rfl)
  obtain ⟨z4, n4⟩ : ∃ zs, Nums W x4 len4 zs := by
    obtain ⟨fuel, hf⟩ := h4
    rcases open_ints Try.underlying25 Try.underlying2 cells2 hf with ⟨hcs, _⟩ | ⟨x, l, c, zs, hcs, _, hl, hm, hz, _, hcell, hwz⟩
    · simp [Value.cells] at hcs
      obtain ⟨rfl, rfl, rfl⟩ := hcs
      exact ⟨[], nums_of (cap := 0) (.inl ⟨rfl, rfl⟩)⟩
    · simp [Value.cells] at hcs
      obtain ⟨rfl, rfl, rfl⟩ := hcs
      exact ⟨zs, nums_of (cap := cap4) (.inr ⟨_, rfl, hl, by simpa using hz, hcell⟩)⟩
  clear hA0 hval0
  refine (numbers_all a0 a1 b0 b1 b2 x3 x4 len3 cap3 len4 cap4 z3 z4 a5 W n3 n4).mono fun e W' ⟨he, bel⟩ => ?_
  subst he
  exact ⟨_, rfl, _, _, _, [], _, [], hW', trodAll_mk1 (shut_bool Try.underlying4 _), (trodAll_cons_mk (shut_int Try.underlying3 w0) (trodAll_cons_mk (shut_int Try.underlying3 w1) (trodAll_cons_mk (Below.trod laidOut (by kernel_rfl) (of_decide_eq_true (by kernel_rfl)) k2 bel lt2) (trodAll_cons_mk (Below.trod laidOut (by kernel_rfl) (of_decide_eq_true (by kernel_rfl)) k3 bel lt3) (trodAll_cons_mk (Below.trod laidOut (by kernel_rfl) (of_decide_eq_true (by kernel_rfl)) k4 bel lt4) (trodAll_cons_mk (shut_bool Try.underlying4 a5) trodAll_mk0)))))), rfl, bel.frame _, fun h => by cases h⟩

theorem calmNumbers_holds : Rows.CalmNumbersSaid :=
  OpenClaim.holds_of_wide 3 Try.f3 rfl rfl rfl rfl rfl rfl rfl ⟨rfl, rfl, rfl, rfl, rfl⟩ rfl rfl rfl rfl rfl (by kernel_rfl) Try.func3 (by kernel_rfl)
    (of_decide_eq_true (by kernel_rfl)) (by unfold Func.isWrapper; rw [if_neg (of_decide_eq_false (by kernel_rfl))]; exact ⟨rfl, rfl⟩)
    (fun os started H enc _ => numbers_lifted os started H enc)

#print axioms calmNumbers_holds
end Go.Proofs.Ytccopcbemflemaa
