/-
  quorum.Index.
-/
import Derived.Test.YtccopcbemflemaaQVotes
import Derived.Test.YtccopcbemflemaaFamIn
namespace Go.Proofs.Ytccopcbemflemaa
open Go Go.RowKit Go.Shelf

attribute [local go_sem] Oper.semAt_some

/-- How many of a list have v. -/
def geN (z : List Int) (n : Nat) (v : Int) (l : List (Fin 9)) : Nat := (l.filter fun k => decide (k.val < n) && decide (v ≤ z[k.val]?.getD 0)).length
theorem geN_le (z : List Int) (n : Nat) (v : Int) (l : List (Fin 9)) : geN z n v l ≤ l.length := List.length_filter_le _ _
theorem geN_snoc (z : List Int) (n : Nat) (v : Int) (l : List (Fin 9)) (x : Fin 9) : geN z n v (l ++ [x]) = geN z n v l + (if x.val < n ∧ v ≤ z[x.val]?.getD 0 then 1 else 0) := by
  unfold geN
  rw [List.filter_append, List.length_append]
  by_cases h : x.val < n ∧ v ≤ z[x.val]?.getD 0
  · rw [if_pos h]
    have h' : (decide (x.val < n) && decide (v ≤ z[x.val]?.getD 0)) = true := by
      rw [Bool.and_eq_true, decide_eq_true_iff, decide_eq_true_iff]; exact h
    simp only [List.filter_cons, h', List.filter_nil]
    rfl
  · rw [if_neg h]
    have h' : (decide (x.val < n) && decide (v ≤ z[x.val]?.getD 0)) = false := by
      rw [Bool.and_eq_false_iff, decide_eq_false_iff_not, decide_eq_false_iff_not]
      by_cases h1 : x.val < n
      · exact .inr (fun h2 => h ⟨h1, h2⟩)
      · exact .inl h1
    simp only [List.filter_cons, h', List.filter_nil]
    rfl
def idxStep (m : Nat → Int) (z : List Int) (n : Nat) (best : Int) (x : Fin 9) : Int :=
  if x.val < n ∧ best < z[x.val]?.getD 0 ∧ mst m ≤ geN z n (z[x.val]?.getD 0) (selK m 1 9) then z[x.val]?.getD 0 else best
def idxL (m : Nat → Int) (z : List Int) (n : Nat) (l : List (Fin 9)) : Int := l.foldl (idxStep m z n) 0
theorem idxL_snoc (m : Nat → Int) (z : List Int) (n : Nat) (l : List (Fin 9)) (x : Fin 9) : idxL m z n (l ++ [x]) = idxStep m z n (idxL m z n l) x := by simp [idxL]
theorem idxStep_yes {m : Nat → Int} {z : List Int} {n : Nat} {best : Int} {x : Fin 9} (h : x.val < n ∧ best < z[x.val]?.getD 0 ∧ mst m ≤ geN z n (z[x.val]?.getD 0) (selK m 1 9)) : idxStep m z n best x = z[x.val]?.getD 0 := if_pos h
theorem idxStep_no {m : Nat → Int} {z : List Int} {n : Nat} {best : Int} {x : Fin 9} (h : ¬ (x.val < n ∧ best < z[x.val]?.getD 0 ∧ mst m ≤ geN z n (z[x.val]?.getD 0) (selK m 1 9))) : idxStep m z n best x = best := if_neg h

theorem KeepsFrom.of_below {B : Nat} {X Y : World} (h : Below X.heap.size X Y) : KeepsFrom B X Y :=
  ⟨h.size, fun k _ _ h0 _ => (h.block k (Array.getElem?_eq_some_iff.1 h0).1).trans h0⟩
theorem ownFrom_keepB {β : Type} {B B' : Nat} {w₀ : World} (hB : B < w₀.heap.size) (hB' : B < B') : OwnFrom B' (fun (_ : β) W => w₀.heap.size ≤ W.heap.size ∧ KeepB B w₀ W) :=
  fun _ X Y row hs hg hr => ⟨Nat.le_trans hs.1 hg.size, (hg.block B (Nat.lt_of_lt_of_le hB hs.1) (fun e => by have := (hr B e.symm).1; omega)).trans hs.2⟩
theorem boxed_below {W W' : World} {B n : Nat} {t : TypeId} {v : Value} (h : Boxed W B t v) (hb : Below n W W') (hn : B < n) : Boxed W' B t v := (hb.block B hn).trans h
theorem blockAt_below {W W' : World} {B n : Nat} {cs : Array Value} {t : TypeId} (h : BlockAt W B cs t) (hb : Below n W W') (hn : B < n) : BlockAt W' B cs t := (hb.block B hn).trans h

/-- What lies in memory as quorum.Index goes round. -/
def IndexMem (w : World) (m : Nat → Int) (z : List Int) (n : Nat) (sv : Value) (l : List (Fin 9)) (W : World) : Prop :=
  (((BlockAt W w.heap.size #[.int .u8 (m 0), .int .u8 (m 1), .int .u8 (m 2), .int .u8 (m 3), .int .u8 (m 4), .int .u8 (m 5), .int .u8 (m 6), .int .u8 (m 7), .int .u8 (m 8)] 42 ∧ Boxed W (w.heap.size + 1) 24 sv) ∧ Boxed W (w.heap.size + 1 + 1) 3 (.int .i64 (idxL m z n l))) ∧ Below w.heap.size w W) ∧ w.heap.size + 5 ≤ W.heap.size
theorem ownFrom_size {β : Type} (B k : Nat) : OwnFrom B (fun (_ : β) W => k ≤ W.heap.size) := fun _ _ _ _ hs hg _ => Nat.le_trans hs hg.size
theorem indexMem_own (w : World) (m : Nat → Int) (z : List Int) (n : Nat) (sv : Value) (B : Nat) (hB : w.heap.size ≤ B) : OwnFrom B (IndexMem w m z n sv) :=
  OwnFrom.and (OwnFrom.and (OwnFrom.and (OwnFrom.and (Own.from (blockAt_own _ _ _) _) (Own.from (boxed_own _ _ (fun _ => sv)) _)) (Own.from (boxed_own _ _ (fun l => .int .i64 (idxL m z n l))) _)) (ownFrom_below (Nat.le_refl _) hB)) (ownFrom_size _ _)
theorem indexMem_own' {β : Type} (w : World) (m : Nat → Int) (z : List Int) (n : Nat) (sv : Value) (l : List (Fin 9)) (B : Nat) (hB : w.heap.size ≤ B) : OwnFrom B (fun (_ : β) W => IndexMem w m z n sv l W) :=
  fun _ X Y row hs hg hr => indexMem_own w m z n sv B hB l X Y row hs hg hr
theorem IndexMem.later {w : World} {m : Nat → Int} {z : List Int} {n : Nat} {sv : Value} {l : List (Fin 9)} {W W' : World} (h : IndexMem w m z n sv l W) (hb : Below W.heap.size W W') : IndexMem w m z n sv l W' :=
  ⟨⟨⟨⟨blockAt_below h.1.1.1.1 hb h.1.1.1.1.lt, boxed_below h.1.1.1.2 hb h.1.1.1.2.lt⟩, boxed_below h.1.1.2 hb h.1.1.2.lt⟩, h.1.2.trans (hb.mono h.1.2.size)⟩, Nat.le_trans h.2 hb.size⟩
theorem IndexMem.other {w : World} {m : Nat → Int} {z : List Int} {n : Nat} {sv : Value} {l : List (Fin 9)} {W : World} (h : IndexMem w m z n sv l W) (C : Nat) (hC : w.heap.size + 1 + 1 < C) (v : Value) : IndexMem w m z n sv l (W.setCell ⟨C, 0, none⟩ v) :=
  ⟨⟨⟨⟨h.1.1.1.1.kept (KeepB.setCell _ (by omega) _), Boxed.other h.1.1.1.2 (by omega) _⟩, Boxed.other h.1.1.2 (by omega) _⟩, h.1.2.setCell (p := ⟨C, 0, none⟩) (by simp; omega) _⟩, by simpa [World.setCell] using h.2⟩

/-- The world gets a name; of it is known what F says. -/
theorem wpIn_named {F : Fence} {n : Nat} {P : Program} {c : Code} {Q : Exit → Act → World → Prop} {a : Act} {w : World} (G : World → Prop) (hG : G w) (h : ∀ w', G w' → c.wpIn F n P Q a w') : c.wpIn F n P Q a w := h w hG

set_option maxRecDepth 100000 in
set_option maxHeartbeats 4000000 in
theorem index_any (m : Nat → Int) (hm : ∀ k, k < 9 → 0 ≤ m k ∧ m k ≤ 255) (a : Option Addr) (n c : Nat) (z : List Int) (w : World) (hN : Nums w a n z) :
    Calls Try.prog 21 #[.agg #[.int .u8 (m 0), .int .u8 (m 1), .int .u8 (m 2), .int .u8 (m 3), .int .u8 (m 4), .int .u8 (m 5), .int .u8 (m 6), .int .u8 (m 7), .int .u8 (m 8)], .slice a n c] w fun e w' => e = .returned (.int .i64 (idxL m z n (selK m 1 9))) ∧ Below w.heap.size w w' := by
  have HM := lhid hm
  have HN := lhid hN
  clear hm hN
  refine (callsIn_wide (n := 6)).1 ?_
  refine callsIn_of_wp_marks Try.func21 rfl trivial ?_ rfl
  simp only [Try.ntmps21, List.size_toArray, List.length_cons, List.length_nil, Nat.reduceAdd, Nat.reduceSub, Array.replicate_succ, Array.replicate_zero, List.push_toArray, List.append_toArray, List.nil_append, List.cons_append]
  refine wpIn_wide.2 ?_
  go_wp2_with (go_at_call 35; refine (all_any _ _ _).mono ?_; rintro e w' ⟨rfl, rfl⟩)
  refine wp_named (fun w' => (IndexMem w m z n (.slice a n c) [] w' ∧ w.heap.size + 5 = w'.heap.size) ∧ w'.cell? ⟨w.heap.size + 1 + 1 + 1 + 1, 0, none⟩ = some (.int .i64 1) ∧ w'.cell? ⟨w.heap.size + 1 + 1 + 1, 0, none⟩ = some (.int .u8 (m 0)) ∧ w'.cell? ⟨w.heap.size + 1 + 1 + 1, 1, none⟩ = some (.int .u8 (m 1)) ∧ w'.cell? ⟨w.heap.size + 1 + 1 + 1, 2, none⟩ = some (.int .u8 (m 2)) ∧ w'.cell? ⟨w.heap.size + 1 + 1 + 1, 3, none⟩ = some (.int .u8 (m 3)) ∧ w'.cell? ⟨w.heap.size + 1 + 1 + 1, 4, none⟩ = some (.int .u8 (m 4)) ∧ w'.cell? ⟨w.heap.size + 1 + 1 + 1, 5, none⟩ = some (.int .u8 (m 5)) ∧ w'.cell? ⟨w.heap.size + 1 + 1 + 1, 6, none⟩ = some (.int .u8 (m 6)) ∧ w'.cell? ⟨w.heap.size + 1 + 1 + 1, 7, none⟩ = some (.int .u8 (m 7)) ∧ w'.cell? ⟨w.heap.size + 1 + 1 + 1, 8, none⟩ = some (.int .u8 (m 8))) ?_ ?_
  · refine ⟨⟨⟨⟨⟨⟨?_, ?_⟩, ?_⟩, ?_⟩, by simp⟩, by simp⟩, ?_⟩
    · exact ((((BlockAt.at_size w _ 42 _ rfl).alloc _).alloc _).alloc _).alloc _
    · exact (((Boxed.at_size (w.alloc _) 24 _ _ (by simp)).alloc _).alloc _).alloc _
    · exact ((Boxed.at_size ((w.alloc _).alloc _) 3 _ _ (by simp)).alloc _).alloc _
    · exact (((((Below.refl _ _).alloc (Nat.le_refl _) _).alloc (by simp) _).alloc (by simp; omega) _).alloc (by simp; omega) _).alloc (by simp; omega) _
    · go_simp
  rintro W0 ⟨⟨hV0, hsz⟩, cr, c0, c1, c2, c3, c4, c5, c6, c7, c8⟩
  refine (wpIn_wide (n := 6)).1 ?_
  refine wpIn_rangeFunc_ownH rfl (by omega) (gf := 37) (lb := #[.pointer (some ⟨w.heap.size + 1 + 1 + 1, 0, none⟩), .pointer (some ⟨w.heap.size + 1 + 1 + 1 + 1, 0, none⟩)]) rfl trivial (enters_of Try.func37 (by kernel_rfl) rfl)
    (all_stops Fence.wide (6 - 1) trivial rfl (by omega) (w.heap.size + 1 + 1 + 1) (w.heap.size + 1 + 1 + 1 + 1) m 1 HM.out W0 (by omega) (by omega) c0 c1 c2 c3 c4 c5 c6 c7 c8 cr) KeepB.trans (KeepB.put (by omega)) (Below.refl _ _) (fun _ => rfl)
    (IndexMem w m z n (.slice a n c))
    (fun _ _ _ => False)
    (indexMem_own w m z n _ _ (by omega))
    (fun _ _ _ _ _ hs _ _ => hs)
    hV0
    (fun x a' W => ∃ Bx, w.heap.size + 1 + 1 + 1 + 1 < Bx ∧ Boxed W Bx 3 (.int .i64 (x.val : Int)) ∧ a' = { tmps := #[.agg #[.int .u8 (m 0), .int .u8 (m 1), .int .u8 (m 2), .int .u8 (m 3), .int .u8 (m 4), .int .u8 (m 5), .int .u8 (m 6), .int .u8 (m 7), .int .u8 (m 8)], .slice a n c, .pointer (some ⟨w.heap.size, 0, none⟩), .pointer (some ⟨w.heap.size + 1, 0, none⟩), .int .i64 0, .pointer (some ⟨w.heap.size + 1 + 1, 0, none⟩), .pointer (some ⟨Bx, 0, none⟩), undef, undef, .agg #[.int .u8 (m 0), .int .u8 (m 1), .int .u8 (m 2), .int .u8 (m 3), .int .u8 (m 4), .int .u8 (m 5), .int .u8 (m 6), .int .u8 (m 7), .int .u8 (m 8)], .func (.func 37) #[] #[.pointer (some ⟨w.heap.size + 1 + 1 + 1, 0, none⟩), .pointer (some ⟨w.heap.size + 1 + 1 + 1 + 1, 0, none⟩)], .int .i64 (x.val : Int), undef, undef, undef, undef, undef, undef, undef, undef, undef, undef, undef, undef, undef, undef, undef, undef, undef, undef, undef, undef, undef, undef, undef, undef, undef, undef, undef, undef, undef, undef, undef, undef, undef, undef, undef, undef, undef, undef, undef, undef, undef], defers := [] })
    (fun x a' _ X Y row hs hg hr => by obtain ⟨Bx, h1, h2, h3⟩ := hs; exact ⟨Bx, h1, boxed_own Bx 3 (fun (_ : Unit) => Value.int .i64 (x.val : Int)) () X Y row h2 hg (fun r e => (hr r e).2), h3⟩)
    ?assign ?body ?done ?stop
  case assign =>
    rintro l pre x W K ⟨⟨⟨⟨bM, bS⟩, bB⟩, hB⟩, hs⟩ hK
    gi_wp2
    exact hK _ _ ((KeepsOthers.alloc _ _).from _) (KeepB.alloc _ (by omega) _) ⟨⟨⟨⟨bM.alloc _, bS.alloc _⟩, bB.alloc _⟩, hB.alloc hB.size _⟩, by simp; omega⟩ ⟨W.heap.size, by omega, Boxed.new W 3 _, rfl⟩
  case body =>
    rintro l pre x a' W hl ⟨r, hr⟩ hI ⟨Bx, hBx, bX, rfl⟩ hlen
    have hx9 := x.isLt
    have hfn : ∀ f, Fence.wide.fn f := fun _ => trivial
    have hlr : l < W.heap.size := (Array.getElem?_eq_some_iff.1 hr).1
    obtain ⟨best, hbest⟩ : ∃ best, best = idxL m z n pre := ⟨_, rfl⟩
    have HBEST := lhid hbest
    have cX := Fam.cell bX.lt bX.cell
    have cS := Fam.cell hI.1.1.1.2.lt hI.1.1.1.2.cell
    have cB := Fam.cell hI.1.1.2.lt hI.1.1.2.cell
    rw [← hbest] at cB
    clear hbest
    have HI := lhid hI
    have HX := lhid bX
    have hs5 := hI.2
    clear hI bX
    by_cases hx : x.val < n
    · have hg : decide (n ≤ x.val) = false := by simp; omega
      obtain ⟨ab, off, rfl, hab, hc⟩ := (HN.out.below HI.out.1.2 (Nat.le_refl _)) x.val hx
      have cY := Fam.cell hab hc
      obtain ⟨y, hy⟩ : ∃ y, y = z[x.val]?.getD 0 := ⟨_, rfl⟩
      rw [← hy] at cY
      have HY := lhid hy
      clear hy hc hab
      by_cases hle : y ≤ best
      · have hd : decide (y ≤ best) = true := decide_eq_true hle
        gi_wp2_with fail
        refine wpIn_region_fam W.heap.size (by kernel_rfl) (by kernel_rfl) (by kernel_rfl) ?_
        repeat (go_big_quiet_step (fail))
        refine wpQuiet_nil ?_
        intro t
        have hb1 := t.below
        generalize t.at = W1 at *
        clear cX cS cB cY
        gi_wp2
        exact ⟨KeepsFrom.of_below hb1, KeepB.below hb1 (by omega), by
          have h1 := HI.out.later hb1
          unfold IndexMem at h1 ⊢
          rw [idxL_snoc, idxStep_no (fun h => by have := h.2.1; rw [← HY.out, ← HBEST.out] at this; omega)]
          exact h1⟩
      · have hlt : best < y := by omega
        have hd : decide (y ≤ best) = false := decide_eq_false hle
        have HLT := lhid hlt
        clear hlt hle
        gi_wp2_with fail
        refine wpIn_region_fam W.heap.size (by kernel_rfl) (by kernel_rfl) (by kernel_rfl) ?_
        repeat (go_big_quiet_step (fail))
        refine wpQuiet_nil ?_
        intro t
        have hb1 := t.below
        generalize t.at = W1 at *
        clear cX cS cB cY hd
        have hI1 := HI.out.later hb1
        have bX1 := boxed_below HX.out hb1 HX.out.lt
        have cM0 : W1.cell? ⟨w.heap.size, 0, none⟩ = some (.int .u8 (m 0)) := hI1.1.1.1.1.cell 0
        have cM1 : W1.cell? ⟨w.heap.size, 1, none⟩ = some (.int .u8 (m 1)) := hI1.1.1.1.1.cell 1
        have cM2 : W1.cell? ⟨w.heap.size, 2, none⟩ = some (.int .u8 (m 2)) := hI1.1.1.1.1.cell 2
        have cM3 : W1.cell? ⟨w.heap.size, 3, none⟩ = some (.int .u8 (m 3)) := hI1.1.1.1.1.cell 3
        have cM4 : W1.cell? ⟨w.heap.size, 4, none⟩ = some (.int .u8 (m 4)) := hI1.1.1.1.1.cell 4
        have cM5 : W1.cell? ⟨w.heap.size, 5, none⟩ = some (.int .u8 (m 5)) := hI1.1.1.1.1.cell 5
        have cM6 : W1.cell? ⟨w.heap.size, 6, none⟩ = some (.int .u8 (m 6)) := hI1.1.1.1.1.cell 6
        have cM7 : W1.cell? ⟨w.heap.size, 7, none⟩ = some (.int .u8 (m 7)) := hI1.1.1.1.1.cell 7
        have cM8 : W1.cell? ⟨w.heap.size, 8, none⟩ = some (.int .u8 (m 8)) := hI1.1.1.1.1.cell 8
        have hs1 := hI1.2
        have HI1 := lhid hI1
        clear hI1
        have hlw : w.heap.size < W1.heap.size := by omega
        have hsW := hb1.size
        have hBxW := HX.out.lt
        gi_wp2_with (gi_at_call 35; refine (CallsIn.inRound l (all_in Fence.wide _ trivial rfl _ _ _)).mono ?_; rintro e w' ⟨rfl, rfl⟩)
        refine wpIn_named (fun w' => ((IndexMem w m z n (.slice (some ⟨ab, off, none⟩) n c) pre w' ∧ Boxed w' Bx 3 (.int .i64 (x.val : Int))) ∧ Boxed w' W1.heap.size 3 (.int .i64 0)) ∧ (Below W1.heap.size W1 w' ∧ W1.heap.size + 3 = w'.heap.size) ∧ w'.cell? ⟨W1.heap.size + 1 + 1, 0, none⟩ = some (.int .i64 1) ∧ w'.cell? ⟨W1.heap.size + 1, 0, none⟩ = some (.int .u8 (m 0)) ∧ w'.cell? ⟨W1.heap.size + 1, 1, none⟩ = some (.int .u8 (m 1)) ∧ w'.cell? ⟨W1.heap.size + 1, 2, none⟩ = some (.int .u8 (m 2)) ∧ w'.cell? ⟨W1.heap.size + 1, 3, none⟩ = some (.int .u8 (m 3)) ∧ w'.cell? ⟨W1.heap.size + 1, 4, none⟩ = some (.int .u8 (m 4)) ∧ w'.cell? ⟨W1.heap.size + 1, 5, none⟩ = some (.int .u8 (m 5)) ∧ w'.cell? ⟨W1.heap.size + 1, 6, none⟩ = some (.int .u8 (m 6)) ∧ w'.cell? ⟨W1.heap.size + 1, 7, none⟩ = some (.int .u8 (m 7)) ∧ w'.cell? ⟨W1.heap.size + 1, 8, none⟩ = some (.int .u8 (m 8))) ?_ ?_
        · refine ⟨⟨⟨HI1.out.later ?_, ((bX1.alloc _).alloc _).alloc _⟩, ((Boxed.at_size W1 3 _ _ rfl).alloc _).alloc _⟩, ⟨?_, by simp⟩, ?_⟩
          · exact (((Below.refl _ _).alloc (Nat.le_refl _) _).alloc (by simp) _).alloc (by simp; omega) _
          · exact (((Below.refl _ _).alloc (Nat.le_refl _) _).alloc (by simp) _).alloc (by simp; omega) _
          · go_simp
        clear cM0 cM1 cM2 cM3 cM4 cM5 cM6 cM7 cM8
        rintro W2 ⟨⟨⟨hI2, bX2⟩, bN2⟩, ⟨hb2, hsz2⟩, er, d0, d1, d2, d3, d4, d5, d6, d7, d8⟩
        have hr2 : W2.heap[l]? = some (.loop r) := (hb2.block l (by omega)).trans ((hb1.block l hlr).trans hr)
        have hbW2 : Below W.heap.size W W2 := hb1.trans (hb2.mono hsW)
        refine wpIn_rangeFunc_ownN (l₀ := l) (r₀ := r) rfl hr2 (by omega) (gf := 37) (lb := #[.pointer (some ⟨W1.heap.size + 1, 0, none⟩), .pointer (some ⟨W1.heap.size + 1 + 1, 0, none⟩)]) rfl trivial (enters_of Try.func37 (by kernel_rfl) rfl)
          ((all_stops Fence.wide (6 - 1 - 1 - 1) trivial rfl (by omega) (W1.heap.size + 1) (W1.heap.size + 1 + 1) m 1 HM.out W2 (by omega) (by omega) d0 d1 d2 d3 d4 d5 d6 d7 d8 er).inRound l) KeepB.trans (KeepB.put (by omega)) (Below.refl _ _) (fun _ => rfl)
          (fun pre' W' => ((IndexMem w m z n (.slice (some ⟨ab, off, none⟩) n c) pre W' ∧ Boxed W' Bx 3 (.int .i64 (x.val : Int))) ∧ Boxed W' W1.heap.size 3 (.int .i64 (geN z n y pre'))) ∧ ((W.heap.size ≤ W'.heap.size ∧ KeepB (w.heap.size + 1 + 1 + 1 + 1) W W') ∧ KeepsFrom W0.heap.size W W'))
          (fun _ _ _ => False)
          (OwnFrom.and (OwnFrom.and (OwnFrom.and (indexMem_own' _ _ _ _ _ _ _ (by omega)) (Own.from (boxed_own _ _ _) _)) (Own.from (boxed_own _ _ (fun pre' => .int .i64 (geN z n y pre'))) _)) (OwnFrom.and (ownFrom_keepB (by omega) (by omega)) (ownFrom_keepsFrom (by omega))))
          (fun _ _ _ _ _ hs _ _ => hs)
          ⟨⟨⟨hI2, bX2⟩, bN2⟩, ⟨hbW2.size, KeepB.below hbW2 (by omega)⟩, KeepsFrom.of_below hbW2⟩
          (fun x2 a'' _ => ∃ u12 u13 u14 u15 u16 u17 u18 u19 u20 u21 u22 u23, a'' = { tmps := #[.agg #[.int .u8 (m 0), .int .u8 (m 1), .int .u8 (m 2), .int .u8 (m 3), .int .u8 (m 4), .int .u8 (m 5), .int .u8 (m 6), .int .u8 (m 7), .int .u8 (m 8)], .slice (some ⟨ab, off, none⟩) n c, .pointer (some ⟨w.heap.size, 0, none⟩), .pointer (some ⟨w.heap.size + 1, 0, none⟩), .int .i64 0, .pointer (some ⟨w.heap.size + 1 + 1, 0, none⟩), .pointer (some ⟨Bx, 0, none⟩), .pointer (some ⟨W1.heap.size, 0, none⟩), .int .i64 (x2.val : Int), .agg #[.int .u8 (m 0), .int .u8 (m 1), .int .u8 (m 2), .int .u8 (m 3), .int .u8 (m 4), .int .u8 (m 5), .int .u8 (m 6), .int .u8 (m 7), .int .u8 (m 8)], .func (.func 37) #[] #[.pointer (some ⟨w.heap.size + 1 + 1 + 1, 0, none⟩), .pointer (some ⟨w.heap.size + 1 + 1 + 1 + 1, 0, none⟩)], .int .i64 (x.val : Int), u12, u13, u14, u15, u16, u17, u18, u19, u20, u21, u22, u23, .agg #[.int .u8 (m 0), .int .u8 (m 1), .int .u8 (m 2), .int .u8 (m 3), .int .u8 (m 4), .int .u8 (m 5), .int .u8 (m 6), .int .u8 (m 7), .int .u8 (m 8)], .func (.func 37) #[] #[.pointer (some ⟨W1.heap.size + 1, 0, none⟩), .pointer (some ⟨W1.heap.size + 1 + 1, 0, none⟩)], .int .i64 (x2.val : Int), undef, undef, undef, undef, undef, undef, undef, undef, undef, undef, undef, undef, undef, undef, undef, undef, undef, undef, undef, undef, undef, undef, undef, undef, undef, undef], defers := [] })
          (fun _ _ _ _ _ _ hs _ _ => hs)
          ?assign2 ?body2 ?done2 ?stop2
        case assign2 =>
          rintro l2 pre' x2 W' K hi hK
          gi_wp2
          exact hK _ _ (KeepsFrom.refl _ _) (KeepB.refl _ _) hi ⟨_, _, _, _, _, _, _, _, _, _, _, _, rfl⟩
        case body2 =>
          rintro l2 pre' x2 a'' W' hl2 hr2' ⟨⟨⟨hI', bX'⟩, bN'⟩, ⟨hsz', hKB'⟩, hKF'⟩ ⟨u12, u13, u14, u15, u16, u17, u18, u19, u20, u21, u22, u23, rfl⟩ hlen2
          have hx2 := x2.isLt
          have hgl := geN_le z n y pre'
          have hgs := lhid (geN_snoc z n y pre' x2)
          have hs5' := hI'.2
          obtain ⟨r2, hr2'⟩ := hr2'
          have hrl3 := (Array.getElem?_eq_some_iff.1 hr2').1
          have hrl2 : W1.heap.size + 1 + 1 < W'.heap.size := by omega
          clear hr2' hrl3
          have cX := Fam.cell bX'.lt bX'.cell
          have cS := Fam.cell hI'.1.1.1.2.lt hI'.1.1.1.2.cell
          obtain ⟨ab', off', hab', hab2, hcx⟩ := (HN.out.below hI'.1.2 (Nat.le_refl _)) x.val hx
          cases hab'
          rw [← HY.out] at hcx
          have cY := Fam.cell hab2 hcx
          have HI' := lhid hI'
          have HX' := lhid bX'
          have HN' := lhid bN'
          have hKB := lhid hKB'
          clear hI' bX' bN' hKB' hcx
          by_cases hlt2 : x2.val < n
          · have hg2 : decide (x2.val < n) = true := by simp; omega
            obtain ⟨ab', off', hab', hab3, hcz⟩ := (HN.out.below HI'.out.1.2 (Nat.le_refl _)) x2.val hlt2
            cases hab'
            have cZ := Fam.cell hab3 hcz
            obtain ⟨y2, hy2⟩ : ∃ y2, y2 = z[x2.val]?.getD 0 := ⟨_, rfl⟩
            rw [← hy2] at cZ
            have HY2 := lhid hy2
            clear hy2 hcz
            by_cases hle2 : y ≤ y2
            · have hd2 : decide (y ≤ y2) = true := decide_eq_true hle2
              have HLE := lhid hle2
              clear hle2
              gi_wp2_with fail
              refine wpIn_region_fam W'.heap.size (by kernel_rfl) (by kernel_rfl) (by kernel_rfl) ?_
              repeat (go_big_quiet_step (fail))
              refine wpQuiet_nil ?_
              intro t
              have hb3 := t.below
              generalize t.at = W3 at *
              clear cX cS cY cZ hd2
              have hN3 := boxed_below HN'.out hb3 HN'.out.lt
              have hX3 := boxed_below HX'.out hb3 HX'.out.lt
              have cN3 := hN3.cell
              have fN3 := hN3.frozen
              gi_wp2
              exact ⟨(KeepsFrom.of_below hb3).trans ((KeepsOthers.setCell _ _ _).from _), (KeepB.below hb3 (by omega)).trans (KeepB.setCell _ (by omega) _),
                ⟨⟨⟨(HI'.out.later hb3).other _ (by omega) _, Boxed.other hX3 (by omega) _⟩, by rw [hgs.out, if_pos ⟨hlt2, by rw [← HY2.out]; exact HLE.out⟩]; simpa using hN3.set _⟩, ⟨by simp only [World.setCell, Array.size_modify]; exact Nat.le_trans hsz' hb3.size, (hKB.out.trans (KeepB.below hb3 (by omega))).trans (KeepB.setCell _ (by omega) _)⟩, (hKF'.trans (KeepsFrom.of_below hb3)).trans ((KeepsOthers.setCell _ _ _).from _)⟩⟩
            · have hd2 : decide (y ≤ y2) = false := decide_eq_false hle2
              have HLE := lhid hle2
              clear hle2
              gi_wp2_with fail
              refine wpIn_region_fam W'.heap.size (by kernel_rfl) (by kernel_rfl) (by kernel_rfl) ?_
              repeat (go_big_quiet_step (fail))
              refine wpQuiet_nil ?_
              intro t
              have hb3 := t.below
              generalize t.at = W3 at *
              clear cX cS cY cZ hd2
              gi_wp2
              exact ⟨KeepsFrom.of_below hb3, KeepB.below hb3 (by omega),
                ⟨⟨⟨HI'.out.later hb3, boxed_below HX'.out hb3 HX'.out.lt⟩, by rw [hgs.out, if_neg (fun h => by have h1 := HLE.out; have h2 := h.2; rw [← HY2.out] at h2; omega)]; simpa using boxed_below HN'.out hb3 HN'.out.lt⟩, ⟨Nat.le_trans hsz' hb3.size, hKB.out.trans (KeepB.below hb3 (by omega))⟩, hKF'.trans (KeepsFrom.of_below hb3)⟩⟩
          · have hg2 : decide (x2.val < n) = false := by simp; omega
            gi_wp2_with fail
            refine wpIn_region_fam W'.heap.size (by kernel_rfl) (by kernel_rfl) (by kernel_rfl) ?_
            repeat (go_big_quiet_step (fail))
            refine wpQuiet_nil ?_
            intro t
            have hb3 := t.below
            generalize t.at = W3 at *
            clear cX cS cY
            gi_wp2
            exact ⟨KeepsFrom.of_below hb3, KeepB.below hb3 (by omega),
              ⟨⟨⟨HI'.out.later hb3, boxed_below HX'.out hb3 HX'.out.lt⟩, by rw [hgs.out, if_neg (fun h => hlt2 h.1)]; simpa using boxed_below HN'.out hb3 HN'.out.lt⟩, ⟨Nat.le_trans hsz' hb3.size, hKB.out.trans (KeepB.below hb3 (by omega))⟩, hKF'.trans (KeepsFrom.of_below hb3)⟩⟩
        case done2 =>
          rintro ys' W' rfl ⟨⟨⟨hI', bX'⟩, bN'⟩, ⟨hsz', hKB'⟩, hKF'⟩
          have hs5' := hI'.2
          obtain ⟨G, hG⟩ : ∃ G, G = geN z n y (selK m 1 9) := ⟨_, rfl⟩
          obtain ⟨M, hM⟩ : ∃ M, M = mst m := ⟨_, rfl⟩
          have cN := Fam.cell bN'.lt bN'.cell
          rw [← hG] at cN
          have HG := lhid hG
          have HMM := lhid hM
          have kM : Hid (∀ X : World, Calls Try.prog 22 #[.agg #[.int .u8 (m 0), .int .u8 (m 1), .int .u8 (m 2), .int .u8 (m 3), .int .u8 (m 4), .int .u8 (m 5), .int .u8 (m 6), .int .u8 (m 7), .int .u8 (m 8)]] X fun e w' => e = .returned (.int .i64 M) ∧ Below X.heap.size X w') := fun X => by rw [hM]; exact most_of_any m HM.out X
          clear hG hM
          have q0 := Fam.cell hI'.1.1.1.1.lt (hI'.1.1.1.1.cell 0)
          have q1 := Fam.cell hI'.1.1.1.1.lt (hI'.1.1.1.1.cell 1)
          have q2 := Fam.cell hI'.1.1.1.1.lt (hI'.1.1.1.1.cell 2)
          have q3 := Fam.cell hI'.1.1.1.1.lt (hI'.1.1.1.1.cell 3)
          have q4 := Fam.cell hI'.1.1.1.1.lt (hI'.1.1.1.1.cell 4)
          have q5 := Fam.cell hI'.1.1.1.1.lt (hI'.1.1.1.1.cell 5)
          have q6 := Fam.cell hI'.1.1.1.1.lt (hI'.1.1.1.1.cell 6)
          have q7 := Fam.cell hI'.1.1.1.1.lt (hI'.1.1.1.1.cell 7)
          have q8 := Fam.cell hI'.1.1.1.1.lt (hI'.1.1.1.1.cell 8)
          have HI' := lhid hI'
          have HX' := lhid bX'
          have hKB := lhid hKB'
          clear hI' bX' bN' hKB'
          by_cases hge : M ≤ (G : Int)
          · have hd3 : decide (M ≤ (G : Int)) = true := decide_eq_true hge
            have HGE := lhid hge
            clear hge
            gi_wp2_with fail
            refine wpIn_region_fam W'.heap.size (by kernel_rfl) (by kernel_rfl) (by kernel_rfl) ?_
            repeat (go_big_quiet_step ((go_at_call 22; with_reducible exact Calls.fam (Nat.le_refl _) (kM.out _))))
            refine wpQuiet_nil ?_
            intro t
            have hb3 := t.below
            generalize t.at = W3 at *
            clear cN q0 q1 q2 q3 q4 q5 q6 q7 q8 hd3
            have hI3 := HI'.out.later hb3
            have hX3 := boxed_below HX'.out hb3 HX'.out.lt
            have cX := hX3.cell
            have cS := hI3.1.1.1.2.cell
            have cB := hI3.1.1.2.cell
            have fB := hI3.1.1.2.frozen
            obtain ⟨ab', off', hab', hab2, hcx⟩ := (HN.out.below hI3.1.2 (Nat.le_refl _)) x.val hx
            cases hab'
            rw [← HY.out] at hcx
            have HI3 := lhid hI3
            clear hI3
            gi_wp2
            exact ⟨(hKF'.trans (KeepsFrom.of_below hb3)).trans ((KeepsOthers.setCell _ _ _).from _), (hKB.out.trans (KeepB.below hb3 (by omega))).trans (KeepB.setCell _ (by omega) _),
              ⟨⟨⟨⟨HI3.out.1.1.1.1.kept (KeepB.setCell _ (by omega) _), Boxed.other HI3.out.1.1.1.2 (by omega) _⟩, by
                rw [idxL_snoc, idxStep_yes ⟨hx, by rw [← HBEST.out, ← HY.out]; exact HLT.out, by rw [← HMM.out, ← HY.out, ← HG.out]; exact HGE.out⟩, ← HY.out]; exact HI3.out.1.1.2.set _⟩, HI3.out.1.2.setCell (p := ⟨w.heap.size + 1 + 1, 0, none⟩) (by simp; omega) _⟩, by simp only [World.setCell, Array.size_modify]; exact HI3.out.2⟩⟩
          · have hd3 : decide (M ≤ (G : Int)) = false := decide_eq_false hge
            have HGE := lhid hge
            clear hge
            gi_wp2_with fail
            refine wpIn_region_fam W'.heap.size (by kernel_rfl) (by kernel_rfl) (by kernel_rfl) ?_
            repeat (go_big_quiet_step ((go_at_call 22; with_reducible exact Calls.fam (Nat.le_refl _) (kM.out _))))
            refine wpQuiet_nil ?_
            intro t
            have hb3 := t.below
            generalize t.at = W3 at *
            clear cN q0 q1 q2 q3 q4 q5 q6 q7 q8 hd3
            gi_wp2
            exact ⟨hKF'.trans (KeepsFrom.of_below hb3), hKB.out.trans (KeepB.below hb3 (by omega)), by
              have h1 := HI'.out.later hb3
              unfold IndexMem at h1 ⊢
              rw [idxL_snoc, idxStep_no (fun h => by have h1 := HGE.out; have h2 := h.2.2; rw [← HMM.out, ← HY.out, ← HG.out] at h2; omega)]
              exact h1⟩
        case stop2 =>
          rintro c pre' W' _ h
          exact h.elim
    · have hg : decide (n ≤ x.val) = true := by simp; omega
      gi_wp2_with fail
      refine wpIn_region_fam W.heap.size (by kernel_rfl) (by kernel_rfl) (by kernel_rfl) ?_
      repeat (go_big_quiet_step (fail))
      refine wpQuiet_nil ?_
      intro t
      have hb1 := t.below
      generalize t.at = W1 at *
      clear cX cS cB
      gi_wp2
      exact ⟨KeepsFrom.of_below hb1, KeepB.below hb1 (by omega), by
        have h1 := HI.out.later hb1
        unfold IndexMem at h1 ⊢
        rw [idxL_snoc, idxStep_no (fun h => hx h.1)]
        exact h1⟩
  case done =>
    rintro D ys W hD rfl ⟨⟨⟨⟨bM, bS⟩, bB⟩, hB⟩, hs⟩ hK
    have cB := bB.cell
    go_wp2
    refine ⟨by simp, .inl ⟨_, _, rfl, run_takeDeferred hK, ?_⟩⟩
    exact ⟨_, results_tmp rfl _ _ _, rfl, hB.trans (belowK_b (w := W0) (by omega) W D _ _ hD hK rfl rfl)⟩
  case stop =>
    rintro D c pre W _ _ h _
    exact h.elim

end Go.Proofs.Ytccopcbemflemaa
