/-
  quorum.Votes.
-/
import Derived.Test.YtccopcbemflemaaQMost
import Derived.Test.YtccopcbemflemaaQPlain
namespace Go.Proofs.Ytccopcbemflemaa
open Go Go.RowKit Go.Shelf

attribute [local go_sem] Oper.semAt_some

/-- A slice whose first 'len' bools are f's. -/
def Bools (w : World) (a : Option Addr) (len : Nat) (f : Nat → Bool) : Prop :=
  ∀ i, i < len → ∃ b off, a = some ⟨b, off, none⟩ ∧ b < w.heap.size ∧ w.cell? ⟨b, off + i, none⟩ = some (.bool (f i))
theorem Bools.below {w w' : World} {B : Nat} {a : Option Addr} {len : Nat} {f : Nat → Bool} (h : Bools w a len f) (hb : Below B w w') (hB : w.heap.size ≤ B) : Bools w' a len f := by
  intro i hi
  obtain ⟨b, off, ha, hlt, hc⟩ := h i hi
  exact ⟨b, off, ha, Nat.lt_of_lt_of_le hlt hb.size, (hb.cell (p := ⟨b, off + i, none⟩) (Nat.lt_of_lt_of_le hlt hB)).trans hc⟩

/-- How many of a list said yes; said no. -/
def ayeN (f : Nat → Bool) (n : Nat) (l : List (Fin 9)) : Nat := (l.filter fun k => decide (k.val < n) && f k.val).length
def noeN (f : Nat → Bool) (n : Nat) (l : List (Fin 9)) : Nat := (l.filter fun k => decide (k.val < n) && !f k.val).length
theorem ayeN_le (f : Nat → Bool) (n : Nat) (l : List (Fin 9)) : ayeN f n l ≤ l.length := List.length_filter_le _ _
theorem noeN_le (f : Nat → Bool) (n : Nat) (l : List (Fin 9)) : noeN f n l ≤ l.length := List.length_filter_le _ _
theorem ayeN_snoc (f : Nat → Bool) (n : Nat) (l : List (Fin 9)) (x : Fin 9) : ayeN f n (l ++ [x]) = ayeN f n l + (if x.val < n ∧ f x.val = true then 1 else 0) := by
  unfold ayeN
  rw [List.filter_append, List.length_append]
  by_cases h : x.val < n ∧ f x.val = true
  · rw [if_pos h]; simp [h.1, h.2]
  · rw [if_neg h]
    simp
    intro h1
    by_cases h2 : f x.val = true
    · exact absurd ⟨h1, h2⟩ h
    · simpa using h2
theorem noeN_snoc (f : Nat → Bool) (n : Nat) (l : List (Fin 9)) (x : Fin 9) : noeN f n (l ++ [x]) = noeN f n l + (if x.val < n ∧ f x.val = false then 1 else 0) := by
  unfold noeN
  rw [List.filter_append, List.length_append]
  by_cases h : x.val < n ∧ f x.val = false
  · rw [if_pos h]; simp [h.1, h.2]
  · rw [if_neg h]
    simp
    intro h1
    by_cases h2 : f x.val = false
    · exact absurd ⟨h1, h2⟩ h
    · simpa using h2

def wonB (m : Nat → Int) (f : Nat → Bool) (n : Nat) : Bool := decide (mst m ≤ ayeN f n (selK m 1 9))
def lostB (m : Nat → Int) (f : Nat → Bool) (n : Nat) : Bool := decide (cnt m 1 - noeN f n (selK m 1 9) < mst m)

/-- The block B holds these cells. -/
def BlockAt (W : World) (B : Nat) (cs : Array Value) (t : TypeId) : Prop := W.heap[B]? = some (.cells cs t (0, 0))
theorem BlockAt.lt {W : World} {B : Nat} {cs : Array Value} {t : TypeId} (h : BlockAt W B cs t) : B < W.heap.size := (Array.getElem?_eq_some_iff.1 h).1
theorem BlockAt.kept {W W' : World} {B : Nat} {cs : Array Value} {t : TypeId} (h : BlockAt W B cs t) (hk : KeepB B W W') : BlockAt W' B cs t := Eq.trans (show W'.heap[B]? = W.heap[B]? from hk) h
theorem BlockAt.alloc {W : World} {B : Nat} {cs : Array Value} {t : TypeId} (h : BlockAt W B cs t) (o : Obj) : BlockAt (W.alloc o) B cs t := h.kept (KeepB.alloc W h.lt o)
theorem BlockAt.at_size (W : World) (cs : Array Value) (t : TypeId) (B : Nat) (h : B = W.heap.size) : BlockAt (W.alloc (.cells cs t)) B cs t := by subst h; exact World.alloc_heap_new W _
theorem BlockAt.cell {W : World} {B : Nat} {cs : Array Value} {t : TypeId} (h : BlockAt W B cs t) (j : Nat) : W.cell? ⟨B, j, none⟩ = cs[j]? := by simp [World.cell?, show W.heap[B]? = _ from h]
theorem blockAt_own {β : Type} (B : Nat) (cs : Array Value) (t : TypeId) : Own (fun (_ : β) W => BlockAt W B cs t) := fun _ X Y row hs hg hrow => by
  refine (hg.block B hs.lt (fun e' => ?_)).trans hs
  obtain ⟨o, ho, hc⟩ := hrow B e'.symm
  rw [show X.heap[B]? = _ from hs] at ho
  cases ho
  cases hc

/-- What lies in memory as quorum.Votes goes round. -/
def VotesMem (w : World) (m : Nat → Int) (f : Nat → Bool) (n : Nat) (sv : Value) (l : List (Fin 9)) (W : World) : Prop :=
  (((BlockAt W w.heap.size #[.int .u8 (m 0), .int .u8 (m 1), .int .u8 (m 2), .int .u8 (m 3), .int .u8 (m 4), .int .u8 (m 5), .int .u8 (m 6), .int .u8 (m 7), .int .u8 (m 8)] 42 ∧ Boxed W (w.heap.size + 1) 53 sv) ∧ Boxed W (w.heap.size + 1 + 1) 3 (.int .i64 (ayeN f n l))) ∧ Boxed W (w.heap.size + 1 + 1 + 1) 3 (.int .i64 (noeN f n l))) ∧ Below w.heap.size w W

theorem votesMem_own (w : World) (m : Nat → Int) (f : Nat → Bool) (n : Nat) (sv : Value) (B : Nat) (hB : w.heap.size ≤ B) : OwnFrom B (VotesMem w m f n sv) :=
  OwnFrom.and (OwnFrom.and (OwnFrom.and (OwnFrom.and (Own.from (blockAt_own _ _ _) _) (Own.from (boxed_own _ _ (fun _ => sv)) _)) (Own.from (boxed_own _ _ (fun l => .int .i64 (ayeN f n l))) _)) (Own.from (boxed_own _ _ (fun l => .int .i64 (noeN f n l))) _)) (ownFrom_below (Nat.le_refl _) hB)

set_option maxRecDepth 100000 in
set_option maxHeartbeats 2000000 in
theorem votes_any (m : Nat → Int) (hm : ∀ k, k < 9 → 0 ≤ m k ∧ m k ≤ 255) (a : Option Addr) (n c : Nat) (f : Nat → Bool) (w : World) (hN : Bools w a n f) :
    Calls Try.prog 23 #[.agg #[.int .u8 (m 0), .int .u8 (m 1), .int .u8 (m 2), .int .u8 (m 3), .int .u8 (m 4), .int .u8 (m 5), .int .u8 (m 6), .int .u8 (m 7), .int .u8 (m 8)], .slice a n c] w fun e w' => e = .returned (.tuple #[.bool (wonB m f n), .bool (lostB m f n)]) ∧ Below w.heap.size w w' := by
  have HM := lhid hm
  have HN := lhid hN
  clear hm hN
  refine (callsIn_wide (n := 3)).1 ?_
  refine callsIn_of_wp_marks Try.func23 rfl trivial ?_ rfl
  simp only [Try.ntmps23, List.size_toArray, List.length_cons, List.length_nil, Nat.reduceAdd, Nat.reduceSub, Array.replicate_succ, Array.replicate_zero, List.push_toArray, List.append_toArray, List.nil_append, List.cons_append]
  refine wpIn_wide.2 ?_
  go_wp2_with (go_at_call 35; refine (all_any _ _ _).mono ?_; rintro e w' ⟨rfl, rfl⟩)
  refine wp_named (fun w' => (VotesMem w m f n (.slice a n c) [] w' ∧ w.heap.size + 6 = w'.heap.size) ∧ w'.cell? ⟨w.heap.size + 1 + 1 + 1 + 1 + 1, 0, none⟩ = some (.int .i64 1) ∧ w'.cell? ⟨w.heap.size + 1 + 1 + 1 + 1, 0, none⟩ = some (.int .u8 (m 0)) ∧ w'.cell? ⟨w.heap.size + 1 + 1 + 1 + 1, 1, none⟩ = some (.int .u8 (m 1)) ∧ w'.cell? ⟨w.heap.size + 1 + 1 + 1 + 1, 2, none⟩ = some (.int .u8 (m 2)) ∧ w'.cell? ⟨w.heap.size + 1 + 1 + 1 + 1, 3, none⟩ = some (.int .u8 (m 3)) ∧ w'.cell? ⟨w.heap.size + 1 + 1 + 1 + 1, 4, none⟩ = some (.int .u8 (m 4)) ∧ w'.cell? ⟨w.heap.size + 1 + 1 + 1 + 1, 5, none⟩ = some (.int .u8 (m 5)) ∧ w'.cell? ⟨w.heap.size + 1 + 1 + 1 + 1, 6, none⟩ = some (.int .u8 (m 6)) ∧ w'.cell? ⟨w.heap.size + 1 + 1 + 1 + 1, 7, none⟩ = some (.int .u8 (m 7)) ∧ w'.cell? ⟨w.heap.size + 1 + 1 + 1 + 1, 8, none⟩ = some (.int .u8 (m 8))) ?_ ?_
  · refine ⟨⟨⟨⟨⟨⟨?_, ?_⟩, ?_⟩, ?_⟩, ?_⟩, by simp⟩, ?_⟩
    · exact (((((BlockAt.at_size w _ 42 _ rfl).alloc _).alloc _).alloc _).alloc _).alloc _
    · exact ((((Boxed.at_size (w.alloc _) 53 _ _ (by simp)).alloc _).alloc _).alloc _).alloc _
    · exact (((Boxed.at_size ((w.alloc _).alloc _) 3 _ _ (by simp)).alloc _).alloc _).alloc _
    · exact ((Boxed.at_size (((w.alloc _).alloc _).alloc _) 3 _ _ (by simp)).alloc _).alloc _
    · exact ((((((Below.refl _ _).alloc (Nat.le_refl _) _).alloc (by simp) _).alloc (by simp; omega) _).alloc (by simp; omega) _).alloc (by simp; omega) _).alloc (by simp; omega) _
    · go_simp
  rintro W0 ⟨⟨hV0, hsz⟩, cr, c0, c1, c2, c3, c4, c5, c6, c7, c8⟩
  refine (wpIn_wide (n := 3)).1 ?_
  refine wpIn_rangeFunc_ownG rfl (by omega) (gf := 37) (lb := #[.pointer (some ⟨w.heap.size + 1 + 1 + 1 + 1, 0, none⟩), .pointer (some ⟨w.heap.size + 1 + 1 + 1 + 1 + 1, 0, none⟩)]) rfl trivial (enters_of Try.func37 (by kernel_rfl) rfl)
    (all_stops Fence.wide (3 - 1) trivial rfl (by omega) (w.heap.size + 1 + 1 + 1 + 1) (w.heap.size + 1 + 1 + 1 + 1 + 1) m 1 HM.out W0 (by omega) (by omega) c0 c1 c2 c3 c4 c5 c6 c7 c8 cr) KeepB.trans (KeepB.put (by omega)) (Below.refl _ _) (fun _ => rfl)
    (VotesMem w m f n (.slice a n c))
    (fun _ _ _ => False)
    (votesMem_own w m f n _ _ (by omega))
    (fun _ _ _ _ _ hs _ _ => hs)
    hV0
    (fun x => { tmps := #[.agg #[.int .u8 (m 0), .int .u8 (m 1), .int .u8 (m 2), .int .u8 (m 3), .int .u8 (m 4), .int .u8 (m 5), .int .u8 (m 6), .int .u8 (m 7), .int .u8 (m 8)], .slice a n c, .pointer (some ⟨w.heap.size, 0, none⟩), .pointer (some ⟨w.heap.size + 1, 0, none⟩), .bool false, .bool false, .pointer (some ⟨w.heap.size + 1 + 1, 0, none⟩), .pointer (some ⟨w.heap.size + 1 + 1 + 1, 0, none⟩), .int .i64 (x.val : Int), .agg #[.int .u8 (m 0), .int .u8 (m 1), .int .u8 (m 2), .int .u8 (m 3), .int .u8 (m 4), .int .u8 (m 5), .int .u8 (m 6), .int .u8 (m 7), .int .u8 (m 8)], .func (.func 37) #[] #[.pointer (some ⟨w.heap.size + 1 + 1 + 1 + 1, 0, none⟩), .pointer (some ⟨w.heap.size + 1 + 1 + 1 + 1 + 1, 0, none⟩)], .int .i64 (x.val : Int), undef, undef, undef, undef, undef, undef, undef, undef, undef, undef, undef, undef, undef, undef, undef, undef, undef, undef, undef, undef, undef, undef, undef, undef, undef], defers := [] }) ?assign ?body ?done ?stop
  case assign =>
    intro l x W K hK
    gi_wp2
    exact hK
  case body =>
    rintro l pre x W ⟨⟨⟨⟨bM, bS⟩, bA⟩, bZ⟩, hB⟩ hl
    have cS := bS.cell
    have cA := bA.cell
    have fA := bA.frozen
    have cZ := bZ.cell
    have fZ := bZ.frozen
    have hal := ayeN_le f n pre
    have hzl := noeN_le f n pre
    have hx9 := x.isLt
    have e1 := lhid (ayeN_snoc f n pre x)
    have e2 := lhid (noeN_snoc f n pre x)
    by_cases hx : x.val < n
    · obtain ⟨b, off, rfl, _, hc⟩ := (HN.out.below hB (Nat.le_refl _)) x.val hx
      by_cases hf : f x.val = true
      · rw [hf] at hc
        have HX := lhid (And.intro hx hf)
        clear hf
        gi_wp2
        exact ⟨(KeepsOthers.setCell _ _ _).from _, KeepB.setCell _ (by omega) _, ⟨⟨⟨bM.kept (KeepB.setCell _ (by omega) _), bS.other (by omega) _⟩, by rw [e1.out, if_pos HX.out]; simpa using bA.set _⟩, by rw [e2.out, if_neg (fun h => by rw [HX.out.2] at h; cases h.2)]; simpa using bZ.other (by omega) _⟩, hB.setCell (p := ⟨w.heap.size + 1 + 1, 0, none⟩) (by simp; omega) _⟩
      · have hf' : f x.val = false := by simpa using hf
        rw [hf'] at hc
        have HX := lhid (And.intro hx hf')
        clear hf hf'
        gi_wp2
        exact ⟨(KeepsOthers.setCell _ _ _).from _, KeepB.setCell _ (by omega) _, ⟨⟨⟨bM.kept (KeepB.setCell _ (by omega) _), bS.other (by omega) _⟩, by rw [e1.out, if_neg (fun h => by rw [HX.out.2] at h; cases h.2)]; simpa using bA.other (by omega) _⟩, by rw [e2.out, if_pos HX.out]; simpa using bZ.set _⟩, hB.setCell (p := ⟨w.heap.size + 1 + 1 + 1, 0, none⟩) (by simp; omega) _⟩
    · gi_wp2
      exact ⟨KeepsFrom.refl _ _, KeepB.refl _ _, ⟨⟨⟨bM, bS⟩, by rw [e1.out, if_neg (fun h => hx h.1)]; simpa using bA⟩, by rw [e2.out, if_neg (fun h => hx h.1)]; simpa using bZ⟩, hB⟩
  case done =>
    rintro D ys W hD rfl ⟨⟨⟨⟨bM, bS⟩, bA⟩, bZ⟩, hB⟩ hK
    have hlt0 := bM.lt
    have hlt2 := bA.lt
    have hlt3 := bZ.lt
    have cA := Fam.cell hlt2 bA.cell
    have cZ := Fam.cell hlt3 bZ.cell
    have q0 : W.cell? ⟨w.heap.size, 0, none⟩ = some (.int .u8 (m 0)) := bM.cell 0
    have q1 : W.cell? ⟨w.heap.size, 1, none⟩ = some (.int .u8 (m 1)) := bM.cell 1
    have q2 : W.cell? ⟨w.heap.size, 2, none⟩ = some (.int .u8 (m 2)) := bM.cell 2
    have q3 : W.cell? ⟨w.heap.size, 3, none⟩ = some (.int .u8 (m 3)) := bM.cell 3
    have q4 : W.cell? ⟨w.heap.size, 4, none⟩ = some (.int .u8 (m 4)) := bM.cell 4
    have q5 : W.cell? ⟨w.heap.size, 5, none⟩ = some (.int .u8 (m 5)) := bM.cell 5
    have q6 : W.cell? ⟨w.heap.size, 6, none⟩ = some (.int .u8 (m 6)) := bM.cell 6
    have q7 : W.cell? ⟨w.heap.size, 7, none⟩ = some (.int .u8 (m 7)) := bM.cell 7
    have q8 : W.cell? ⟨w.heap.size, 8, none⟩ = some (.int .u8 (m 8)) := bM.cell 8
    have q0' := Fam.cell hlt0 q0
    have q1' := Fam.cell hlt0 q1
    have q2' := Fam.cell hlt0 q2
    have q3' := Fam.cell hlt0 q3
    have q4' := Fam.cell hlt0 q4
    have q5' := Fam.cell hlt0 q5
    have q6' := Fam.cell hlt0 q6
    have q7' := Fam.cell hlt0 q7
    have q8' := Fam.cell hlt0 q8
    clear q0 q1 q2 q3 q4 q5 q6 q7 q8
    have hDl : D < W.heap.size := (Array.getElem?_eq_some_iff.1 hK).1
    obtain ⟨A, hA⟩ : ∃ A, A = ayeN f n (selK m 1 9) := ⟨_, rfl⟩
    obtain ⟨Z, hZ⟩ : ∃ Z, Z = noeN f n (selK m 1 9) := ⟨_, rfl⟩
    obtain ⟨M, hM⟩ : ∃ M, M = mst m := ⟨_, rfl⟩
    obtain ⟨C, hC⟩ : ∃ C, C = cnt m 1 := ⟨_, rfl⟩
    have hw : wonB m f n = decide (M ≤ (A : Int)) := by rw [hM, hA]; rfl
    have hl : lostB m f n = decide (C - (Z : Int) < M) := by rw [hM, hC, hZ]; rfl
    have hcb := cnt_bd m 1
    have hzb : noeN f n (selK m 1 9) ≤ 9 := Nat.le_trans (noeN_le f n _) (selK_length m 1 9)
    rw [← hC] at hcb
    rw [← hZ] at hzb
    have hwH := lhid hw
    have hlH := lhid hl
    simp only [← hA, ← hZ] at cA cZ
    have kM : Hid (∀ X : World, Calls Try.prog 22 #[.agg #[.int .u8 (m 0), .int .u8 (m 1), .int .u8 (m 2), .int .u8 (m 3), .int .u8 (m 4), .int .u8 (m 5), .int .u8 (m 6), .int .u8 (m 7), .int .u8 (m 8)]] X fun e w' => e = .returned (.int .i64 M) ∧ Below X.heap.size X w') := fun X => by rw [hM]; exact most_of_any m HM.out X
    have kC : Hid (∀ X : World, Calls Try.prog 32 #[.agg #[.int .u8 (m 0), .int .u8 (m 1), .int .u8 (m 2), .int .u8 (m 3), .int .u8 (m 4), .int .u8 (m 5), .int .u8 (m 6), .int .u8 (m 7), .int .u8 (m 8)], .int .i64 1] X fun e w' => e = .returned (.int .i64 C) ∧ Below X.heap.size X w') := fun X => by rw [hC]; exact count_any m 1 HM.out X
    clear hA hZ hM hC hw hl bM bS bA bZ hlt0 hlt2 hlt3
    go_wp2
    refine wp_region_fam W.heap.size (by kernel_rfl) (by kernel_rfl) ?_
    repeat (go_big_quiet_step (first | (go_at_call 22; with_reducible exact Calls.fam (Nat.le_refl _) (kM.out _)) | (go_at_call 32; with_reducible exact Calls.fam (Nat.le_refl _) (kC.out _))))
    refine wpQuiet_nil ?_
    intro t
    have hb2 := t.below
    generalize t.at = w2 at *
    clear cA cZ q0' q1' q2' q3' q4' q5' q6' q7' q8'
    have hK2 : w2.heap[D]? = some (.deferred (some [])) := (hb2.block D hDl).trans hK
    go_wp2
    refine ⟨by simp, .inl ⟨_, _, rfl, run_takeDeferred hK2, ?_⟩⟩
    exact ⟨_, results_tmp2 rfl _ _ _, by rw [hwH.out, hlH.out]; rfl, (hB.trans (hb2.mono hB.size)).trans (belowK_b (w := W0) (by omega) w2 D _ _ hD hK2 rfl rfl)⟩
  case stop =>
    rintro D c pre W _ _ h _
    exact h.elim

end Go.Proofs.Ytccopcbemflemaa
