/-
  teasellaw23.CalmGrows returns true at every input, and leaves its arguments as they were. No condition.
-/
import Derived.Test.YtccopcbemflemaaCalmF
import Derived.Test.YtccopcbemflemaaBase
namespace Go.Proofs.Ytccopcbemflemaa
open Go.ChangeShapes Go.WideShapes Go.ChangeAt Go.RowKit Go.Joins
open Go.ChangeMaps (open_string shut_string)

theorem grows_all (hi more g c l d by_ : Int) (w : World) (wc : (Lit.int .i64 c).wf = true) (wl : (Lit.int .i64 l).wf = true) :
    Calls Try.prog 4 #[.int .i64 hi, .int .i64 more, .int .i64 g, .agg #[.int .i64 c, .int .i64 l, .int .i64 d], .int .i64 by_] w fun e w' => e = .returned (.bool true) ∧ Below w.heap.size w w' := by
  by_cases a0 : hi < 0
  · exact grows_out hi more g c l d by_ w (.inl a0)
  have h0 : 0 ≤ hi := by omega
  by_cases a1 : 1048576 < hi
  · exact grows_out hi more g c l d by_ w (.inr (.inl ⟨h0, a1⟩))
  have h1 : hi ≤ 1048576 := by omega
  by_cases a2 : more < 0
  · exact grows_out hi more g c l d by_ w (.inr (.inr (.inl ⟨⟨h0, h1⟩, a2⟩)))
  have h2 : 0 ≤ more := by omega
  by_cases a3 : 1048576 < more
  · exact grows_out hi more g c l d by_ w (.inr (.inr (.inr (.inl ⟨⟨h0, h1⟩, h2, a3⟩))))
  have h3 : more ≤ 1048576 := by omega
  by_cases a4 : g < 0
  · exact grows_out hi more g c l d by_ w (.inr (.inr (.inr (.inr (.inl ⟨⟨h0, h1⟩, ⟨h2, h3⟩, a4⟩)))))
  have h4 : 0 ≤ g := by omega
  by_cases a5 : 1048576 < g
  · exact grows_out hi more g c l d by_ w (.inr (.inr (.inr (.inr (.inr (.inl ⟨⟨h0, h1⟩, ⟨h2, h3⟩, h4, a5⟩))))))
  have h5 : g ≤ 1048576 := by omega
  by_cases a6 : by_ < 0
  · exact grows_out hi more g c l d by_ w (.inr (.inr (.inr (.inr (.inr (.inr (.inl ⟨⟨h0, h1⟩, ⟨h2, h3⟩, ⟨h4, h5⟩, a6⟩)))))))
  have h6 : 0 ≤ by_ := by omega
  by_cases a7 : 1048576 < by_
  · exact grows_out hi more g c l d by_ w (.inr (.inr (.inr (.inr (.inr (.inr (.inr (.inl ⟨⟨h0, h1⟩, ⟨h2, h3⟩, ⟨h4, h5⟩, h6, a7⟩))))))))
  have h7 : by_ ≤ 1048576 := by omega
  by_cases a8 : 1099511627776 < c
  · exact grows_out hi more g c l d by_ w (.inr (.inr (.inr (.inr (.inr (.inr (.inr (.inr (.inl ⟨⟨h0, h1⟩, ⟨h2, h3⟩, ⟨h4, h5⟩, ⟨h6, h7⟩, a8⟩)))))))))
  have h8 : c ≤ 1099511627776 := by omega
  by_cases a9 : 1099511627776 < l
  · exact grows_out hi more g c l d by_ w (.inr (.inr (.inr (.inr (.inr (.inr (.inr (.inr (.inr (.inl ⟨⟨h0, h1⟩, ⟨h2, h3⟩, ⟨h4, h5⟩, ⟨h6, h7⟩, h8, a9⟩))))))))))
  have h9 : l ≤ 1099511627776 := by omega
  by_cases a10 : 1099511627776 < d
  · exact grows_out hi more g c l d by_ w (.inr (.inr (.inr (.inr (.inr (.inr (.inr (.inr (.inr (.inr ⟨⟨h0, h1⟩, ⟨h2, h3⟩, ⟨h4, h5⟩, ⟨h6, h7⟩, h8, h9, a10⟩))))))))))
  have h10 : d ≤ 1099511627776 := by omega
  have bc := bounds_i64 wc
  have bl := bounds_i64 wl
  exact grows_in hi more g c l d by_ w h0 h1 h2 h3 h4 h5 h6 h7 h8 h9 h10 bc.1 bl.1

set_option maxRecDepth 100000 in
theorem grows_lifted (os : Os) (started : os.Started) (H : Type) (enc : TypeId × Value → H) :
    ReturnsInHanded {} Try.checked os 4 .any (Rows.calmGrowsSpec.pre6 enc Try.prog Try.f4 Rows.calmGrowsRow.domain false) (Rows.calmGrowsSpec.post enc Try.prog Try.f4 false true false false) := by
  refine returnsInHanded_of_change (C := Try.checked) own started (by kernel_rfl) Try.func4
    (ChangeSpec.witness6 (enc := enc) (C := Try.checked) false ⟨#[], #[.int .i64 0, .int .i64 0, .int .i64 0, .agg #[.int .i64 0, .int .i64 0, .int .i64 0], .int .i64 0], []⟩ 8 (by kernel_rfl) (by kernel_rfl) (by kernel_rfl) (by kernel_rfl)) ?_
  intro W base args ds gs before hval0 hW hcnd _
  have hval : ∀ (j : Nat) t v, Try.f4.params[j]? = some t → args[j]? = some v → Value.okWide Try.prog W .any base t v := hval0
  have hW' := hW
  obtain ⟨p, q, hA0, hV, rfl, hfz, hnd⟩ := hW
  have hA : DataW.TrodAll enc Try.prog W 0 (fun _ => true) true Try.f4.params.toList args.toList ds p := hA0
  rw [Try.params4] at hA hval
  obtain ⟨v0, vs0, d0, ds0, p0, q0, hargs, rfl, rfl, h0, r0⟩ := trodAll_cons hA
  obtain ⟨v1, vs1, d1, ds1, p1, q1, rfl, rfl, rfl, h1, r1⟩ := trodAll_cons r0
  obtain ⟨v2, vs2, d2, ds2, p2, q2, rfl, rfl, rfl, h2, r2⟩ := trodAll_cons r1
  obtain ⟨v3, vs3, d3, ds3, p3, q3, rfl, rfl, rfl, h3, r3⟩ := trodAll_cons r2
  obtain ⟨v4, vs4, d4, ds4, p4, q4, rfl, rfl, rfl, h4, r4⟩ := trodAll_cons r3
  obtain ⟨rfl, rfl, rfl⟩ := trodAll_nil r4
  obtain rfl : args = #[v0, v1, v2, v3, v4] := by cases args; simp_all
  obtain ⟨rfl, rfl⟩ := trodVars_none hV
  have k3 := h3
  have lt3 : ∀ x ∈ p3, x.block < W.heap.size := by obtain ⟨m, hm⟩ := k3; exact DataW.trod_lt m _ _ _ hm
  obtain ⟨a0, rfl, rfl, rfl, w0⟩ := open_int Try.underlying3 (hval 0 3 v0 rfl rfl) h0
  obtain ⟨a1, rfl, rfl, rfl, w1⟩ := open_int Try.underlying3 (hval 1 3 v1 rfl rfl) h1
  obtain ⟨a2, rfl, rfl, rfl, w2⟩ := open_int Try.underlying3 (hval 2 3 v2 rfl rfl) h2
  obtain ⟨a4, rfl, rfl, rfl, w4⟩ := open_int Try.underlying3 (hval 4 3 v4 rfl rfl) h4
  obtain ⟨c0, c1, c2, y0, y1, y2, m, rfl, hd3, hp3, hy0, hy1, hy2⟩ := open_agg3 Try.underlying23 (by kernel_rfl) cells23 (hval 3 23 v3 rfl rfl) h3
  obtain ⟨b0, e0, f0, wb0⟩ := DataW.trod_int Try.underlying3 hy0
  obtain ⟨b1, e1, f1, wb1⟩ := DataW.trod_int Try.underlying3 hy1
  obtain ⟨b2, e2, f2, wb2⟩ := DataW.trod_int Try.underlying3 hy2
  simp at e0 e1 e2
  subst e0 e1 e2
  clear hA0 hval0
  refine (grows_all a0 a1 a2 b0 b1 b2 a4 W wb0 wb1).mono fun e W' ⟨he, bel⟩ => ?_
  subst he
  exact ⟨_, rfl, _, _, _, [], _, [], hW', trodAll_mk1 (shut_bool Try.underlying4 _), (trodAll_cons_mk (shut_int Try.underlying3 w0) (trodAll_cons_mk (shut_int Try.underlying3 w1) (trodAll_cons_mk (shut_int Try.underlying3 w2) (trodAll_cons_mk (Below.trod laidOut (by kernel_rfl) (of_decide_eq_true (by kernel_rfl)) k3 bel lt3) (trodAll_cons_mk (shut_int Try.underlying3 w4) trodAll_mk0))))), rfl, bel.frame _, fun h => by cases h⟩

theorem calmGrows_holds : Rows.CalmGrowsSaid :=
  OpenClaim.holds_of_wide 4 Try.f4 rfl rfl rfl rfl rfl rfl rfl ⟨rfl, rfl, rfl, rfl, rfl⟩ rfl rfl rfl rfl rfl (by kernel_rfl) Try.func4 (by kernel_rfl)
    (of_decide_eq_true (by kernel_rfl)) (by unfold Func.isWrapper; rw [if_neg (of_decide_eq_false (by kernel_rfl))]; exact ⟨rfl, rfl⟩)
    (fun os started H enc _ => grows_lifted os started H enc)

#print axioms calmGrows_holds
end Go.Proofs.Ytccopcbemflemaa
