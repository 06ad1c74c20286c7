/-
  teasellaw21.FrontErrors returns true at every input, and leaves its arguments as they were; the tied card.
-/
import Derived.Test.YtccopcbemflemaaDoorLawB
import Derived.Test.YtccopcbemflemaaDoorCards
import Derived.Test.YtccopcbemflemaaDoorTie
import Derived.ChangeSame
import Derived.ChangeVars
import Derived.ChangeOld
import Derived.ProofKit
import Derived.OpenShut
import Derived.JoinedOf
import Derived.RowKit
import Derived.RowKitTokens
import Derived.LaidLaws
import Derived.LaidHandle
import Derived.Stop.Joined
import Derived.SevenTiedAt
import Derived.Deep.Strs
import Derived.SizedLaws
import Derived.ShutString
namespace Go.Proofs.YtccopcbemflemaaDoor
open Go Go.ChangeShapes Go.WideShapes Go.ChangeAt Go.RowKit

theorem d_own : ownKnob Tryd.prog.godebug = none := by kernel_rfl
theorem d_laidOut : laidOutB Tryd.prog = true := by kernel_rfl
theorem d_et : Tryd.prog.globalNamed "errors.errorType" = some 0 := by kernel_rfl
theorem d_rt : (Tryd.prog.cutTypes.find? (·.1 == "internal/reflectlite.rtype")).map (·.2) = some 63 := by kernel_rfl
theorem d_oneRow : ((List.range 107).filter fun t => Tryd.prog.rowNamed t [101, 114, 114, 111, 114]) = [25] := by kernel_rfl
theorem d_size : Tryd.prog.types.size = 107 := by kernel_rfl
theorem d_cells9 : Tryd.prog.cellsOf 9 = 1 := by kernel_rfl

theorem handle_of_laid {W : World} (h : laidMetH Tryd.prog [("errors.errorType", Rows.laid_errors_errorType)] W) : W.cell? ⟨0, 0, none⟩ = some (.iface 63 (.agg #[.pointer (some ⟨1, 25, none⟩)])) := by
  have h' : laidMet Tryd.prog [] W ∧ handlesMet Tryd.prog [("errors.errorType", Rows.laid_errors_errorType)] W := h
  obtain ⟨name, u, ty, e1, e2, e3, e4, e5⟩ := h'.2 _ (List.mem_singleton.2 rfl)
  have en : name = [101, 114, 114, 111, 114] := (Option.some.inj e1).symm
  subst en
  obtain rfl := Option.some.inj (d_rt.symm.trans e2)
  have hm : ty ∈ (List.range 107).filter fun t => Tryd.prog.rowNamed t [101, 114, 114, 111, 114] := List.mem_filter.2 ⟨List.mem_range.2 (by rw [← d_size]; exact e3), e4⟩
  rw [d_oneRow] at hm
  obtain rfl := List.mem_singleton.1 hm
  have hh : typeHandle Tryd.prog 25 = .pointer (some ⟨1, 25, none⟩) := by kernel_rfl
  rw [hh] at e5
  simpa using World.var?_cell d_et e5 0

/-- A world that meets the condition: the settled one, the variable's cell laid. -/
noncomputable def laidWorld (os : Os) : World :=
  let w0 := World.holding Tryd.prog os ⟨#[], #[], []⟩
  { w0 with heap := w0.heap.modify 0 fun
      | .cells _ t frozen => .cells #[.iface 63 (.agg #[.pointer (some ⟨1, 25, none⟩)])] t frozen
      | o => o }
theorem laidWorld_met (os : Os) (args : Array Value) : laidMetH Tryd.prog [("errors.errorType", Rows.laid_errors_errorType)] ((laidWorld os).forCall (fun _ _ => 0) ⟨#[], args, []⟩).memory :=
  laidMetH_of_parts (laidMet_nil _ _) (by kernel_rfl)

theorem strs_of {w : World} {a : Option Addr} {len cap : Nat} {f : Nat → ByteArray}
    (h : (a = none ∧ len = 0) ∨ ∃ x, a = some x ∧ len ≤ cap ∧ ∀ i, i < cap → w.cell? (x.add i) = some (.string (f i))) : StrRow w a len f := by
  intro i hi
  rcases h with ⟨_, rfl⟩ | ⟨x, rfl, hl, hc⟩
  · omega
  · have h00 := hc 0 (by omega)
    have h1 := hc i (by omega)
    obtain ⟨b, off, spot⟩ := x
    obtain rfl : spot = none := by simpa [Addr.add] using World.cell?_spot h00
    have h2 : w.cell? ⟨b, off + i, none⟩ = some (.string (f i)) := by
      by_cases h0 : i = 0
      · subst h0; simpa [Addr.add] using h1
      · simpa [Addr.add, h0] using h1
    exact ⟨b, off, rfl, block_lt_of_cell' h2, h2⟩
theorem weightsAll_mem {H : Type} {P : Program} {e : TypeId} {x : DataW H} {l : List (DataW H)} (hx : x ∈ l) (n : Nat) (hn : n ∈ x.weights P e) : n ∈ DataW.weightsAll P e l := by
  induction l with
  | nil => cases hx
  | cons y l ih =>
    simp only [DataW.weightsAll, List.mem_append]
    rcases List.mem_cons.1 hx with rfl | h
    · exact .inl hn
    · exact .inr (ih h)
theorem d_bytes9 : Tryd.prog.bytesOf 9 = 16 := by kernel_rfl
set_option maxRecDepth 100000 in
theorem open_strrow {H : Type} {enc : TypeId × Value → H} {w : World} {b0 : Nat} {held : Bool} {x : Option Addr} {len cap : Nat} {d : DataW H} {p : List MemPlace} (h : DataW.Trod enc Tryd.prog w b0 (fun _ => true) held 22 (.slice x len cap) d p)
    (hw : ∀ n ∈ d.weights Tryd.prog 22, n ≤ reachBytes) :
    ∃ f : Nat → ByteArray, (∀ i, i < len → (f i).size ≤ 140737488355328) ∧ len ≤ 140737488355328 ∧ StrRow w x len f := by
  have hR : reachBytes ≤ 140737488355328 := by decide
  obtain ⟨fuel, hf⟩ := h
  rcases Go.Deep.open_strs Tryd.underlying22 Tryd.underlying9 d_cells9 hf with ⟨hcs, _⟩ | ⟨a, l, c, m, f, hcs, _, hl, hm, hmm, hx, hcell⟩
  · simp [Value.cells] at hcs
    obtain ⟨rfl, rfl, rfl⟩ := hcs
    exact ⟨fun _ => ⟨#[]⟩, fun i hi => by omega, by omega, strs_of (cap := 0) (.inl ⟨rfl, rfl⟩)⟩
  · simp [Value.cells] at hcs
    obtain ⟨rfl, rfl, rfl⟩ := hcs
    simp only [if_true] at hmm
    subst hmm
    simp only [Prod.mk.injEq] at hx
    obtain ⟨rfl, rfl⟩ := hx
    refine ⟨f, fun i hi => ?_, ?_, strs_of (cap := m) (.inr ⟨_, rfl, hl, fun i hi => (hcell i hi).1⟩)⟩
    · have hmem : (f i).size ∈ DataW.weights (H := H) Tryd.prog 22 (.slice ((List.range len).map fun i => .lit (.string (f i).data.toList)) ((List.range (m - len)).map fun j => .lit (.string (f (len + j)).data.toList))) := by
        simp only [DataW.weights, Tryd.underlying22]
        refine List.mem_cons_of_mem _ (List.mem_append_left _ (weightsAll_mem (x := .lit (.string (f i).data.toList)) (List.mem_map.2 ⟨i, List.mem_range.2 hi, rfl⟩) _ ?_))
        have hd : DataW.weights (H := H) Tryd.prog 9 (.lit (.string (f i).data.toList)) = [(f i).data.toList.length] := by rw [DataW.weights]
        rw [hd, Array.length_toList]
        exact List.mem_singleton.2 rfl
      exact Nat.le_trans (hw _ hmem) hR
    · have hmem : ((List.range len).length + (List.range (m - len)).length) * Tryd.prog.bytesOf 9 ∈ DataW.weights (H := H) Tryd.prog 22 (.slice ((List.range len).map fun i => .lit (.string (f i).data.toList)) ((List.range (m - len)).map fun j => .lit (.string (f (len + j)).data.toList))) := by
        simp only [DataW.weights, Tryd.underlying22, List.length_map]
        exact List.mem_cons_self
      have := hw _ hmem
      rw [d_bytes9, List.length_range, List.length_range] at this
      omega

theorem lawE_all (N : Int) (a : Option Addr) (n c : Nat) (f : Nat → ByteArray) (kind : Int) {W : World} (hg : W.cell? ⟨0, 0, none⟩ = some (.iface 63 (.agg #[.pointer (some ⟨1, 25, none⟩)]))) (hN : StrRow W a n f) (hbd : ∀ i, i < n → (f i).size ≤ 140737488355328) (hn2 : n ≤ 140737488355328) :
    Calls Tryd.prog 3 #[.int .i64 N, .slice a n c, .int .i64 kind] W fun e w' => e = .returned (.bool true) ∧ Below W.heap.size W w' := by
  by_cases h1 : 50 < n
  · exact lawE_long N a n c f kind hg hN hbd h1 hn2
  by_cases h2 : 2000 < sumS f n
  · exact lawE_sum N a n c f kind hg hN hbd (by omega) h2
  by_cases h3 : N = -1
  · subst h3
    by_cases h4 : n = 0
    · exact lawE_41leaf a n c f kind 4 500 rfl rfl hg hN hbd (by omega) (by omega) h4
    · exact lawE_41said a n c f kind 4 500 rfl rfl hg hN hbd (by omega) (by omega) (by omega)
  · have hN1 : (N == -1) = false := beq_eq_false_iff_ne.2 h3
    have hN2 : (N != -1) = true := by rw [bne_iff_ne]; exact h3
    by_cases h4 : n = 0
    · exact lawE_29leaf N hN1 hN2 a n c f kind (sortI N) (codeI N) rfl rfl hg hN hbd (by omega) (by omega) h4
    · exact lawE_29said N hN1 hN2 a n c f kind (sortI N) (codeI N) rfl rfl hg hN hbd (by omega) (by omega) (by omega)

set_option maxRecDepth 100000 in
theorem frontErrors_lifted (os : Os) (started : os.Started) (H : Type) (enc : TypeId × Value → H) :
    ReturnsInHanded {} Tryd.checked os 3 .any (fun w args => (Rows.frontErrorsSpec.pre enc Tryd.prog Tryd.f3 [] false w args ∧ laidMetH Tryd.prog [("errors.errorType", Rows.laid_errors_errorType)] w) ∧ sizedMet enc Tryd.prog Tryd.f3 (OpenSpec.ofChange Rows.frontErrorsSpec) false w args)
      (Rows.frontErrorsSpec.post enc Tryd.prog Tryd.f3 false true false false) := by
  refine returnsInHanded_of_change_and (C := Tryd.checked) (X := fun w _ => laidMetH Tryd.prog [("errors.errorType", Rows.laid_errors_errorType)] w) (fun _ _ _ hh h => h.of_heap hh) d_own started (by kernel_rfl) Tryd.func3
    (ChangeSpec.witness_at (enc := enc) (C := Tryd.checked) (os := os) (X := fun w _ => laidMetH Tryd.prog [("errors.errorType", Rows.laid_errors_errorType)] w) false (laidWorld os) #[.int .i64 0, .slice none 0 0, .int .i64 0] 8 rfl (by kernel_rfl) (by kernel_rfl) (by kernel_rfl) (by kernel_rfl) (by kernel_rfl) (laidWorld_met os _)) ?_
  intro W base args ds gs before hval0 hW _ hsz hL _
  have hval : ∀ (j : Nat) t v, Tryd.f3.params[j]? = some t → args[j]? = some v → Value.okWide Tryd.prog W .any base t v := hval0
  have hW' := hW
  obtain ⟨p, q, hA0, hV0, rfl, hfz, hnd⟩ := hW
  have hA : DataW.TrodAll enc Tryd.prog W 0 (fun _ => true) true Tryd.f3.params.toList args.toList ds p := hA0
  have hV : DataW.TrodVars enc Tryd.prog W (fun _ => true) [] gs q := hV0
  rw [Tryd.params3] at hA hval
  obtain ⟨v0, vs0, d0, ds0, p0, q0, hargs, rfl, rfl, h0, r0⟩ := trodAll_cons hA
  obtain ⟨v1, vs1, d1, ds1, p1, q1, rfl, rfl, rfl, h1, r1⟩ := trodAll_cons r0
  obtain ⟨v2, vs2, d2, ds2, p2, q2, rfl, rfl, rfl, h2, r2⟩ := trodAll_cons r1
  obtain ⟨rfl, rfl, rfl⟩ := trodAll_nil r2
  obtain rfl : args = #[v0, v1, v2] := by cases args; simp_all
  obtain ⟨rfl, rfl⟩ : gs = [] ∧ q = [] := by
    cases gs with
    | nil => exact ⟨rfl, hV⟩
    | cons g r => exact absurd hV (by intro h; cases h)
  obtain ⟨a0, rfl, rfl, rfl, w0⟩ := open_int Tryd.underlying3 (hval 0 3 v0 rfl rfl) h0
  have k1 := h1
  have hw1 : ∀ m ∈ d1.weights Tryd.prog 22, m ≤ reachBytes := fun m hm => of_decide_eq_true (List.all_eq_true.1 hsz m (DataW.weights_mem_each (j := 1) (t := 22) (by rw [Tryd.params3]; rfl) rfl m hm))
  have lt1 : ∀ x ∈ p1, x.block < W.heap.size := by obtain ⟨m, hm⟩ := k1; exact DataW.trod_lt m _ _ _ hm
  obtain ⟨x1, len1, cap1, rfl⟩ := okWide_slice Tryd.underlying22 (hval 1 22 v1 rfl rfl)
  obtain ⟨f1, fb1, fl1, n1⟩ := open_strrow h1 hw1
  obtain ⟨a2, rfl, rfl, rfl, w2⟩ := open_int Tryd.underlying3 (hval 2 3 v2 rfl rfl) h2
  have hg := handle_of_laid hL
  clear hA0 hval0
  refine (lawE_all a0 x1 len1 cap1 f1 a2 hg n1 fb1 fl1).mono fun e W' ⟨he, bel⟩ => ?_
  subst he
  exact ⟨_, rfl, _, _, _, [], _, [], hW', trodAll_mk1 (shut_bool Tryd.underlying4 _), (trodAll_cons_mk (shut_int Tryd.underlying3 w0) (trodAll_cons_mk (Below.trod d_laidOut (by kernel_rfl) (of_decide_eq_true (by kernel_rfl)) k1 bel lt1) (trodAll_cons_mk (shut_int Tryd.underlying3 w2) trodAll_mk0))), rfl, bel.frame _, fun h => by cases h⟩

theorem frontErrors_holds : Rows.FrontErrorsSaid :=
  OpenClaim.holds_of_wide 3 Tryd.f3 rfl rfl rfl rfl rfl rfl rfl ⟨rfl, rfl, rfl, rfl, rfl⟩ rfl rfl rfl rfl rfl (by kernel_rfl) Tryd.func3 (by kernel_rfl)
    (of_decide_eq_true (by kernel_rfl)) (by unfold Func.isWrapper; rw [if_neg (of_decide_eq_false (by kernel_rfl))]; exact ⟨rfl, rfl⟩)
    (fun os started H enc _ => frontErrors_lifted os started H enc)

theorem frontErrorsCard_holds : Rows.FrontErrorsCardSaid :=
  Claim7.holds_tied_plain_at .later [] [.handle] true (true, "ae327dfda2b1f261980355689dd20e15ba5d4a467e06f11b6aee9f435b92f6ee") true
    frontErrors_holds (fun _ h => by cases h) (by kernel_rfl) (fun _ h => by cases h) frontErrors_row_tie rfl ⟨rfl, rfl⟩ (by kernel_rfl) rfl
    (fun f fn hf hfn => by
      obtain rfl : f = 3 := Option.some.inj ((show Tryd.prog.funcNamed "teasel/teasellaw21.FrontErrors" = some 3 by kernel_rfl).symm.trans hf) |>.symm
      obtain rfl : fn = Tryd.f3 := (Option.some.inj (Tryd.func3.symm.trans hfn)).symm
      exact ⟨by kernel_rfl, fun j t ht => by
        rw [Tryd.params3] at ht
        have h3 : t = 3 ∨ t = 22 := by
          rcases j with _ | _ | _ | j
          all_goals first | (left; simpa using ht.symm) | (right; simpa using ht.symm) | (simp at ht)
        rcases h3 with h3 | h3
        · subst h3
          exact (show Tryd.prog.wantsStandIn 3 = false by kernel_rfl)
        · subst h3
          exact (show Tryd.prog.wantsStandIn 22 = false by kernel_rfl)⟩)
    (by kernel_rfl)
#print axioms frontErrorsCard_holds

end Go.Proofs.YtccopcbemflemaaDoor
