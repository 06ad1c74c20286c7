/-
  teasellaw21.FrontWraps returns true at every input, and leaves its arguments as they were; the tied card.
-/
import Derived.Test.YtccopcbemflemaaDoorErrorsProof
import Derived.Test.YtccopcbemflemaaDoorLawC
namespace Go.Proofs.YtccopcbemflemaaDoor
open Go Go.ChangeShapes Go.WideShapes Go.ChangeAt Go.RowKit

theorem lawW_all (N : Int) (a : Option Addr) (n c : Nat) (f : Nat → ByteArray) {W : World} (hg : W.cell? ⟨0, 0, none⟩ = some (.iface 63 (.agg #[.pointer (some ⟨1, 25, none⟩)]))) (hN : StrRow W a n f) (hbd : ∀ i, i < n → (f i).size ≤ 140737488355328) (hn2 : n ≤ 140737488355328) :
    Calls Tryd.prog 4 #[.int .i64 N, .slice a n c] W fun e w' => e = .returned (.bool true) ∧ Below W.heap.size W w' := by
  by_cases h1 : 50 < n
  · exact lawW_long N a n c f hg hN hbd h1 hn2
  by_cases h2 : 2000 < sumS f n
  · exact lawW_sum N a n c f hg hN hbd (by omega) h2
  by_cases h4 : n = 0
  · exact lawW_leaf N a n c f hg hN hbd (by omega) (by omega) h4
  · exact lawW_said N a n c f hg hN hbd (by omega) (by omega) (by omega)

set_option maxRecDepth 100000 in
theorem frontWraps_lifted (os : Os) (started : os.Started) (H : Type) (enc : TypeId × Value → H) :
    ReturnsInHanded {} Tryd.checked os 4 .any (fun w args => (Rows.frontWrapsSpec.pre enc Tryd.prog Tryd.f4 [] false w args ∧ laidMetH Tryd.prog [("errors.errorType", Rows.laid_errors_errorType)] w) ∧ sizedMet enc Tryd.prog Tryd.f4 (OpenSpec.ofChange Rows.frontWrapsSpec) false w args)
      (Rows.frontWrapsSpec.post enc Tryd.prog Tryd.f4 false true false false) := by
  refine returnsInHanded_of_change_and (C := Tryd.checked) (X := fun w _ => laidMetH Tryd.prog [("errors.errorType", Rows.laid_errors_errorType)] w) (fun _ _ _ hh h => h.of_heap hh) d_own started (by kernel_rfl) Tryd.func4
    (ChangeSpec.witness_at (enc := enc) (C := Tryd.checked) (os := os) (X := fun w _ => laidMetH Tryd.prog [("errors.errorType", Rows.laid_errors_errorType)] w) false (laidWorld os) #[.int .i64 0, .slice none 0 0] 8 rfl (by kernel_rfl) (by kernel_rfl) (by kernel_rfl) (by kernel_rfl) (by kernel_rfl) (laidWorld_met os _)) ?_
  intro W base args ds gs before hval0 hW _ hsz hL _
  have hval : ∀ (j : Nat) t v, Tryd.f4.params[j]? = some t → args[j]? = some v → Value.okWide Tryd.prog W .any base t v := hval0
  have hW' := hW
  obtain ⟨p, q, hA0, hV0, rfl, hfz, hnd⟩ := hW
  have hA : DataW.TrodAll enc Tryd.prog W 0 (fun _ => true) true Tryd.f4.params.toList args.toList ds p := hA0
  have hV : DataW.TrodVars enc Tryd.prog W (fun _ => true) [] gs q := hV0
  rw [Tryd.params4] at hA hval
  obtain ⟨v0, vs0, d0, ds0, p0, q0, hargs, rfl, rfl, h0, r0⟩ := trodAll_cons hA
  obtain ⟨v1, vs1, d1, ds1, p1, q1, rfl, rfl, rfl, h1, r1⟩ := trodAll_cons r0
  obtain ⟨rfl, rfl, rfl⟩ := trodAll_nil r1
  obtain rfl : args = #[v0, v1] := by cases args; simp_all
  obtain ⟨rfl, rfl⟩ : gs = [] ∧ q = [] := by
    cases gs with
    | nil => exact ⟨rfl, hV⟩
    | cons g r => exact absurd hV (by intro h; cases h)
  obtain ⟨a0, rfl, rfl, rfl, w0⟩ := open_int Tryd.underlying3 (hval 0 3 v0 rfl rfl) h0
  have k1 := h1
  have hw1 : ∀ m ∈ d1.weights Tryd.prog 22, m ≤ reachBytes := fun m hm => of_decide_eq_true (List.all_eq_true.1 hsz m (DataW.weights_mem_each (j := 1) (t := 22) (by rw [Tryd.params4]; rfl) rfl m hm))
  have lt1 : ∀ x ∈ p1, x.block < W.heap.size := by obtain ⟨m, hm⟩ := k1; exact DataW.trod_lt m _ _ _ hm
  obtain ⟨x1, len1, cap1, rfl⟩ := okWide_slice Tryd.underlying22 (hval 1 22 v1 rfl rfl)
  obtain ⟨f1, fb1, fl1, n1⟩ := open_strrow h1 hw1
  have hg := handle_of_laid hL
  clear hA0 hval0
  refine (lawW_all a0 x1 len1 cap1 f1 hg n1 fb1 fl1).mono fun e W' ⟨he, bel⟩ => ?_
  subst he
  exact ⟨_, rfl, _, _, _, [], _, [], hW', trodAll_mk1 (shut_bool Tryd.underlying4 _), (trodAll_cons_mk (shut_int Tryd.underlying3 w0) (trodAll_cons_mk (Below.trod d_laidOut (by kernel_rfl) (of_decide_eq_true (by kernel_rfl)) k1 bel lt1) trodAll_mk0)), rfl, bel.frame _, fun h => by cases h⟩

theorem frontWraps_holds : Rows.FrontWrapsSaid :=
  OpenClaim.holds_of_wide 4 Tryd.f4 rfl rfl rfl rfl rfl rfl rfl ⟨rfl, rfl, rfl, rfl, rfl⟩ rfl rfl rfl rfl rfl (by kernel_rfl) Tryd.func4 (by kernel_rfl)
    (of_decide_eq_true (by kernel_rfl)) (by unfold Func.isWrapper; rw [if_neg (of_decide_eq_false (by kernel_rfl))]; exact ⟨rfl, rfl⟩)
    (fun os started H enc _ => frontWraps_lifted os started H enc)

theorem frontWrapsCard_holds : Rows.FrontWrapsCardSaid :=
  Claim7.holds_tied_plain_at .later [] [.handle] true (true, "ae327dfda2b1f261980355689dd20e15ba5d4a467e06f11b6aee9f435b92f6ee") true
    frontWraps_holds (fun _ h => by cases h) (by kernel_rfl) (fun _ h => by cases h) frontWraps_row_tie rfl ⟨rfl, rfl⟩ (by kernel_rfl) rfl
    (fun f fn hf hfn => by
      obtain rfl : f = 4 := Option.some.inj ((show Tryd.prog.funcNamed "teasel/teasellaw21.FrontWraps" = some 4 by kernel_rfl).symm.trans hf) |>.symm
      obtain rfl : fn = Tryd.f4 := (Option.some.inj (Tryd.func4.symm.trans hfn)).symm
      exact ⟨by kernel_rfl, fun j t ht => by
        rw [Tryd.params4] at ht
        have h3 : t = 3 ∨ t = 22 := by
          rcases j with _ | _ | j
          all_goals first | (left; simpa using ht.symm) | (right; simpa using ht.symm) | (simp at ht)
        rcases h3 with h3 | h3
        · subst h3
          exact (show Tryd.prog.wantsStandIn 3 = false by kernel_rfl)
        · subst h3
          exact (show Tryd.prog.wantsStandIn 22 = false by kernel_rfl)⟩)
    (by kernel_rfl)
#print axioms frontWrapsCard_holds

end Go.Proofs.YtccopcbemflemaaDoor
