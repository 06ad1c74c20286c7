/-
  quorum.Count.
-/
import Derived.Test.YtccopcbemflemaaQIter
namespace Go.Proofs.Ytccopcbemflemaa
open Go Go.RowKit Go.Shelf

attribute [local go_sem] Oper.semAt_some

def cnt (m : Nat → Int) (role : Int) : Int := (selK m role 9).length
theorem cnt_bd (m : Nat → Int) (role : Int) : 0 ≤ cnt m role ∧ cnt m role ≤ 9 := by
  have := selK_length m role 9
  unfold cnt
  omega

set_option maxRecDepth 100000 in
set_option maxHeartbeats 2000000 in
theorem count_any (m : Nat → Int) (role : Int) (hm : ∀ k, k < 9 → 0 ≤ m k ∧ m k ≤ 255) (w : World) :
    Calls Try.prog 32 #[.agg #[.int .u8 (m 0), .int .u8 (m 1), .int .u8 (m 2), .int .u8 (m 3), .int .u8 (m 4), .int .u8 (m 5), .int .u8 (m 6), .int .u8 (m 7), .int .u8 (m 8)], .int .i64 role] w fun e w' => e = .returned (.int .i64 (cnt m role)) ∧ Below w.heap.size w w' := by
  have HM := lhid hm
  clear hm
  refine (callsIn_wide (n := 3)).1 ?_
  refine callsIn_of_wp_marks Try.func32 rfl trivial ?_ rfl
  simp only [Try.ntmps32, List.size_toArray, List.length_cons, List.length_nil, Nat.reduceAdd, Nat.reduceSub, Array.replicate_succ, Array.replicate_zero, List.push_toArray, List.append_toArray, List.nil_append, List.cons_append]
  refine wpIn_wide.2 ?_
  go_wp2_with (go_at_call 35; refine (all_any _ _ _).mono ?_; rintro e w' ⟨rfl, rfl⟩)
  refine wp_named (fun w' => (Below w.heap.size w w' ∧ w.heap.size + 4 = w'.heap.size) ∧ Boxed w' (w.heap.size + 1) 3 (.int .i64 0) ∧ w'.cell? ⟨w.heap.size + 1 + 1 + 1, 0, none⟩ = some (.int .i64 role) ∧ w'.cell? ⟨w.heap.size + 1 + 1, 0, none⟩ = some (.int .u8 (m 0)) ∧ w'.cell? ⟨w.heap.size + 1 + 1, 1, none⟩ = some (.int .u8 (m 1)) ∧ w'.cell? ⟨w.heap.size + 1 + 1, 2, none⟩ = some (.int .u8 (m 2)) ∧ w'.cell? ⟨w.heap.size + 1 + 1, 3, none⟩ = some (.int .u8 (m 3)) ∧ w'.cell? ⟨w.heap.size + 1 + 1, 4, none⟩ = some (.int .u8 (m 4)) ∧ w'.cell? ⟨w.heap.size + 1 + 1, 5, none⟩ = some (.int .u8 (m 5)) ∧ w'.cell? ⟨w.heap.size + 1 + 1, 6, none⟩ = some (.int .u8 (m 6)) ∧ w'.cell? ⟨w.heap.size + 1 + 1, 7, none⟩ = some (.int .u8 (m 7)) ∧ w'.cell? ⟨w.heap.size + 1 + 1, 8, none⟩ = some (.int .u8 (m 8))) ?_ ?_
  · refine ⟨⟨((((Below.refl _ _).alloc (Nat.le_refl _) _).alloc (by simp) _).alloc (by simp; omega) _).alloc (by simp; omega) _, by simp⟩, ?_, ?_⟩
    · exact ((Boxed.at_size (w.alloc _) 3 (.int .i64 0) _ (by simp)).alloc _).alloc _
    · go_simp
  rintro W0 ⟨⟨hB0, hsz⟩, bN, cr, c0, c1, c2, c3, c4, c5, c6, c7, c8⟩
  refine (wpIn_wide (n := 3)).1 ?_
  refine wpIn_rangeFunc_ownG rfl (by omega) (gf := 37) (lb := #[.pointer (some ⟨w.heap.size + 1 + 1, 0, none⟩), .pointer (some ⟨w.heap.size + 1 + 1 + 1, 0, none⟩)]) rfl trivial (enters_of Try.func37 (by kernel_rfl) rfl)
    (all_stops Fence.wide (3 - 1) trivial rfl (by omega) (w.heap.size + 1 + 1) (w.heap.size + 1 + 1 + 1) m role HM.out W0 (by omega) (by omega) c0 c1 c2 c3 c4 c5 c6 c7 c8 cr) KeepB.trans (KeepB.put (by omega)) (Below.refl _ _) (fun _ => rfl)
    (fun pre W => Boxed W (w.heap.size + 1) 3 (.int .i64 (pre.length : Int)) ∧ Below w.heap.size w W)
    (fun _ _ _ => False)
    (OwnFrom.and (Own.from (boxed_own _ _ _) _) (ownFrom_below (Nat.le_refl _) (by omega)))
    (fun _ _ _ _ _ hs _ _ => hs)
    ⟨bN, hB0⟩
    (fun x => { tmps := #[.agg #[.int .u8 (m 0), .int .u8 (m 1), .int .u8 (m 2), .int .u8 (m 3), .int .u8 (m 4), .int .u8 (m 5), .int .u8 (m 6), .int .u8 (m 7), .int .u8 (m 8)], .int .i64 role, .pointer (some ⟨w.heap.size, 0, none⟩), undef, .int .i64 0, .pointer (some ⟨w.heap.size + 1, 0, none⟩), .agg #[.int .u8 (m 0), .int .u8 (m 1), .int .u8 (m 2), .int .u8 (m 3), .int .u8 (m 4), .int .u8 (m 5), .int .u8 (m 6), .int .u8 (m 7), .int .u8 (m 8)], .int .i64 role, .func (.func 37) #[] #[.pointer (some ⟨w.heap.size + 1 + 1, 0, none⟩), .pointer (some ⟨w.heap.size + 1 + 1 + 1, 0, none⟩)], .int .i64 (x.val : Int), undef, undef, undef], defers := [] }) ?assign ?body ?done ?stop
  case assign =>
    intro l x W K hK
    gi_wp2
    simpa using hK
  case body =>
    rintro l pre x W ⟨bN1, hB1⟩ hl
    have cN := bN1.cell
    have fN := bN1.frozen
    gi_wp2
    exact ⟨(KeepsOthers.setCell _ _ _).from _, KeepB.setCell _ (by omega) _, by simpa using bN1.set _, hB1.setCell (p := ⟨w.heap.size + 1, 0, none⟩) (by simp) _⟩
  case done =>
    rintro D ys W hD rfl ⟨bN1, hB1⟩ hK
    have cN := bN1.cell
    go_wp2
    refine ⟨by simp, .inl ⟨_, _, rfl, run_takeDeferred hK, ?_⟩⟩
    exact ⟨_, results_tmp rfl _ _ _, rfl, hB1.trans (belowK_b (w := W0) (by omega) W D _ _ hD hK rfl rfl)⟩
  case stop =>
    rintro D c pre W _ _ h _
    exact h.elim

end Go.Proofs.Ytccopcbemflemaa
