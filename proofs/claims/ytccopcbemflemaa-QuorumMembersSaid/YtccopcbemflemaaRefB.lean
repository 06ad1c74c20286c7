/-
  The reference's Votes and Index.
-/
import Derived.Test.YtccopcbemflemaaRefA
import Derived.Test.YtccopcbemflemaaQIndex
namespace Go.Proofs.Ytccopcbemflemaa
open Go Go.RowKit Go.Shelf

/-- How many of a list have no voice. -/
def opN (n : Nat) (l : List (Fin 9)) : Nat := (l.filter fun k => decide (n ≤ k.val)).length
theorem opN_le (n : Nat) (l : List (Fin 9)) : opN n l ≤ l.length := List.length_filter_le _ _
theorem opN_snoc (n : Nat) (l : List (Fin 9)) (x : Fin 9) : opN n (l ++ [x]) = opN n l + (if n ≤ x.val then 1 else 0) := by
  unfold opN
  rw [List.filter_append, List.length_append]
  by_cases h : n ≤ x.val
  · rw [if_pos h]; simp [h]
  · rw [if_neg h]; simp; omega
theorem opN_yes (n : Nat) (l : List (Fin 9)) (k : Nat) (hk : k < 9) (h : n ≤ k) : opN n (l ++ [⟨k, hk⟩]) = opN n l + 1 := by
  rw [opN_snoc]; simp [h]
theorem opN_no (n : Nat) (l : List (Fin 9)) (k : Nat) (hk : k < 9) (h : k < n) : opN n (l ++ [⟨k, hk⟩]) = opN n l := by
  rw [opN_snoc]; simp [show ¬ n ≤ k by omega]
theorem ayeN_yes (f : Nat → Bool) (n : Nat) (l : List (Fin 9)) (k : Nat) (hk : k < 9) (h : k < n) (hf : f k = true) : ayeN f n (l ++ [⟨k, hk⟩]) = ayeN f n l + 1 := by
  rw [ayeN_snoc]; simp [h, hf]
theorem ayeN_no (f : Nat → Bool) (n : Nat) (l : List (Fin 9)) (k : Nat) (hk : k < 9) (hf : f k = false) : ayeN f n (l ++ [⟨k, hk⟩]) = ayeN f n l := by
  rw [ayeN_snoc]; simp [hf]
theorem ayeN_out (f : Nat → Bool) (n : Nat) (l : List (Fin 9)) (k : Nat) (hk : k < 9) (h : n ≤ k) : ayeN f n (l ++ [⟨k, hk⟩]) = ayeN f n l := by
  rw [ayeN_snoc]; simp [show ¬ k < n by omega]
theorem aye_noe_op (f : Nat → Bool) (n : Nat) (l : List (Fin 9)) : ayeN f n l + noeN f n l + opN n l = l.length := by
  unfold ayeN noeN opN
  induction l with
  | nil => rfl
  | cons x l ih =>
    simp only [List.filter_cons]
    by_cases h1 : x.val < n
    · have h2 : ¬ n ≤ x.val := by omega
      cases f x.val <;> simp [h1, h2] <;> omega
    · have h2 : n ≤ x.val := by omega
      simp [h1, h2]; omega

set_option maxRecDepth 100000 in
set_option maxHeartbeats 2000000 in
theorem refVotes_any (m : Nat → Int) (hm : ∀ k, k < 9 → 0 ≤ m k ∧ m k ≤ 255) (a : Option Addr) (n c : Nat) (f : Nat → Bool) (w : World) (hN : Bools w a n f) :
    Calls Try.prog 28 #[.agg #[.int .u8 (m 0), .int .u8 (m 1), .int .u8 (m 2), .int .u8 (m 3), .int .u8 (m 4), .int .u8 (m 5), .int .u8 (m 6), .int .u8 (m 7), .int .u8 (m 8)], .slice a n c] w fun e w' => e = .returned (.tuple #[.bool (wonB m f n), .bool (lostB m f n)]) ∧ Below w.heap.size w w' := by
  have HM := lhid hm
  have HN := lhid hN
  clear hm hN
  go_enter Try.func28, Try.ntmps28
  go_wp2
  refine wp_named (fun w' => ArrAt w' w.heap.size m ∧ Below w.heap.size w w') ⟨ArrAt.new w m 41 _ rfl, (Below.refl _ _).alloc (Nat.le_refl _) _⟩ ?_
  rintro w1 ⟨hA, HB⟩
  have HA := lhid hA
  clear hA
  go_loop [6, 7, 8] (fun x y i => ∃ k : Nat, k ≤ 9 ∧ i = .int .i64 k ∧ x = .int .i64 (ayeN f n (selK m 1 k) : Int) ∧ y = .int .i64 (opN n (selK m 1 k) : Int)) (fun _ _ i => 9 - (intOf i).toNat)
  case atStart => exact ⟨0, by omega, rfl, rfl, rfl⟩
  case round =>
    obtain ⟨k, hk, rfl, rfl, rfl⟩ := hrel
    have b1 : ayeN f n (selK m 1 k) ≤ k := Nat.le_trans (ayeN_le f n _) (selK_length m 1 k)
    have b2 : opN n (selK m 1 k) ≤ k := Nat.le_trans (opN_le n _) (selK_length m 1 k)
    by_cases hlt : k < 9
    · have hc := HA.out.1 k hlt
      by_cases hr : m k = 1
      · have hb : (m k != 1) = false := by simp [hr]
        have E := lhid (selK_yes m 1 k hlt hr)
        clear hr
        by_cases hn : k < n
        · obtain ⟨bb, bo, rfl, _, hcb⟩ := (HN.out.below HB (Nat.le_refl _)) k hn
          by_cases hf : f k = true
          · rw [hf] at hcb
            have HF := lhid hf
            clear hf
            go_wp2
            go_round
            case rel => exact ⟨k + 1, by omega, by go_num, by rw [E.out, ayeN_yes f n _ k hlt hn HF.out]; go_num, by rw [E.out, opN_no n _ k hlt hn]⟩
            case measure => simp [intOf]; omega
          · have hf' : f k = false := by simpa using hf
            rw [hf'] at hcb
            have HF := lhid hf'
            clear hf hf'
            go_wp2
            go_round
            case rel => exact ⟨k + 1, by omega, by go_num, by rw [E.out, ayeN_no f n _ k hlt HF.out], by rw [E.out, opN_no n _ k hlt hn]⟩
            case measure => simp [intOf]; omega
        · go_wp2
          go_round
          case rel => exact ⟨k + 1, by omega, by go_num, by rw [E.out, ayeN_out f n _ k hlt (by omega)], by rw [E.out, opN_yes n _ k hlt (by omega)]; go_num⟩
          case measure => simp [intOf]; omega
      · have hb : (m k != 1) = true := by simp [hr]
        have E := lhid (selK_no m 1 k hr)
        clear hr
        go_wp2
        go_round
        case rel => exact ⟨k + 1, by omega, by go_num, by rw [E.out], by rw [E.out]⟩
        case measure => simp [intOf]; omega
    · obtain rfl : k = 9 := by omega
      obtain ⟨A, hA⟩ : ∃ A, A = ayeN f n (selK m 1 9) := ⟨_, rfl⟩
      obtain ⟨O, hO⟩ : ∃ O, O = opN n (selK m 1 9) := ⟨_, rfl⟩
      obtain ⟨M, hM⟩ : ∃ M, M = mst m := ⟨_, rfl⟩
      have hw : wonB m f n = decide (M ≤ (A : Int)) := by rw [hM, hA]; rfl
      have hl : lostB m f n = decide ((A : Int) + (O : Int) < M) := by
        have h := aye_noe_op f n (selK m 1 9)
        unfold lostB cnt
        rw [hM, hA, hO, show ((selK m 1 9).length : Int) - (noeN f n (selK m 1 9) : Int) = (ayeN f n (selK m 1 9) : Int) + (opN n (selK m 1 9) : Int) by omega]
      have hwH := lhid hw
      have hlH := lhid hl
      rw [← hA] at b1
      rw [← hO] at b2
      rw [← hA, ← hO]
      have kM : Hid (∀ X : World, Calls Try.prog 30 #[.agg #[.int .u8 (m 0), .int .u8 (m 1), .int .u8 (m 2), .int .u8 (m 3), .int .u8 (m 4), .int .u8 (m 5), .int .u8 (m 6), .int .u8 (m 7), .int .u8 (m 8)]] X fun e w' => e = .returned (.int .i64 M) ∧ Below X.heap.size X w') := fun X => by rw [hM]; exact refMost_any m HM.out X
      clear hA hO hM hw hl hk hlt
      have q0 := Fam.cell HA.out.lt (HA.out.1 0 (by omega))
      have q1 := Fam.cell HA.out.lt (HA.out.1 1 (by omega))
      have q2 := Fam.cell HA.out.lt (HA.out.1 2 (by omega))
      have q3 := Fam.cell HA.out.lt (HA.out.1 3 (by omega))
      have q4 := Fam.cell HA.out.lt (HA.out.1 4 (by omega))
      have q5 := Fam.cell HA.out.lt (HA.out.1 5 (by omega))
      have q6 := Fam.cell HA.out.lt (HA.out.1 6 (by omega))
      have q7 := Fam.cell HA.out.lt (HA.out.1 7 (by omega))
      have q8 := Fam.cell HA.out.lt (HA.out.1 8 (by omega))
      go_wp2_with fail
      refine wp_region_fam w1.heap.size (by kernel_rfl) (by kernel_rfl) ?_
      repeat (go_big_quiet_step ((go_at_call 30; with_reducible exact Calls.fam (Nat.le_refl _) (kM.out _))))
      refine wpQuiet_nil ?_
      intro t
      have hb2 := t.below
      generalize t.at = w2 at *
      clear q0 q1 q2 q3 q4 q5 q6 q7 q8
      go_wp2
      go_ret2
      exact ⟨by rw [hwH.out, hlH.out]; rfl, HB.trans (hb2.mono HB.size)⟩

theorem idxL_tail (m : Nat → Int) (z : List Int) (n : Nat) (j : Nat) : idxL m z n (selK m 1 (n + j)) = idxL m z n (selK m 1 n) := by
  induction j with
  | zero => rfl
  | succ j ih =>
    rw [show n + (j + 1) = n + j + 1 from rfl]
    by_cases h : n + j < 9 ∧ m (n + j) = 1
    · rw [selK_yes m 1 (n + j) h.1 h.2, idxL_snoc, idxStep_no (fun e => by have := e.1; simp at this; try omega), ih]
    · rw [selK, dif_neg h, ih]
theorem geN_tail (m : Nat → Int) (z : List Int) (n : Nat) (v : Int) (j : Nat) : geN z n v (selK m 1 (n + j)) = geN z n v (selK m 1 n) := by
  induction j with
  | zero => rfl
  | succ j ih =>
    rw [show n + (j + 1) = n + j + 1 from rfl]
    by_cases h : n + j < 9 ∧ m (n + j) = 1
    · rw [selK_yes m 1 (n + j) h.1 h.2, geN_snoc, if_neg (fun e => by have := e.1; simp at this; try omega), ih]
      rfl
    · rw [selK, dif_neg h, ih]
theorem idxL_end (m : Nat → Int) (z : List Int) (n k : Nat) (h1 : k ≤ n) (h2 : k ≤ 9) (h3 : ¬ (k < n ∧ k < 9)) : idxL m z n (selK m 1 k) = idxL m z n (selK m 1 9) := by
  by_cases h : k = 9
  · subst h; rfl
  · obtain rfl : k = n := by omega
    have := idxL_tail m z k (9 - k)
    rw [show k + (9 - k) = 9 by omega] at this
    exact this.symm
theorem geN_end (m : Nat → Int) (z : List Int) (n k : Nat) (v : Int) (h1 : k ≤ n) (h2 : k ≤ 9) (h3 : ¬ (k < n ∧ k < 9)) : geN z n v (selK m 1 k) = geN z n v (selK m 1 9) := by
  by_cases h : k = 9
  · subst h; rfl
  · obtain rfl : k = n := by omega
    have := geN_tail m z k v (9 - k)
    rw [show k + (9 - k) = 9 by omega] at this
    exact this.symm

set_option maxRecDepth 100000 in
set_option maxHeartbeats 4000000 in
theorem refIndex_any (m : Nat → Int) (hm : ∀ k, k < 9 → 0 ≤ m k ∧ m k ≤ 255) (a : Option Addr) (n c : Nat) (hn : n ≤ 100) (z : List Int) (w : World) (hN : Nums w a n z) :
    Calls Try.prog 31 #[.agg #[.int .u8 (m 0), .int .u8 (m 1), .int .u8 (m 2), .int .u8 (m 3), .int .u8 (m 4), .int .u8 (m 5), .int .u8 (m 6), .int .u8 (m 7), .int .u8 (m 8)], .slice a n c] w fun e w' => e = .returned (.int .i64 (idxL m z n (selK m 1 9))) ∧ Below w.heap.size w w' := by
  have HM := lhid hm
  have HN := lhid hN
  clear hm hN
  go_enter Try.func31, Try.ntmps31
  go_wp2
  refine wp_named (fun w' => ArrAt w' w.heap.size m ∧ Below w.heap.size w w') ⟨ArrAt.new w m 41 _ rfl, (Below.refl _ _).alloc (Nat.le_refl _) _⟩ ?_
  rintro w1 ⟨hA, HB⟩
  have HA := lhid hA
  clear hA
  go_loopw [5, 6] (fun x i wr => ∃ k : Nat, k ≤ 9 ∧ k ≤ n ∧ i = .int .i64 k ∧ x = .int .i64 (idxL m z n (selK m 1 k)) ∧ Below w1.heap.size w1 wr) (fun _ i _ => 9 - (intOf i).toNat)
  case atStart => exact ⟨0, by omega, by omega, rfl, rfl, Below.refl _ _⟩
  case round =>
    obtain ⟨k, hk, hkn, rfl, rfl, hbr⟩ := hrel
    have HBr := lhid (HB.trans (hbr.mono HB.size))
    have HAr := lhid (HA.out.below hbr HA.out.lt)
    have HR := lhid hbr
    clear hbr
    obtain ⟨best, hbest⟩ : ∃ best, best = idxL m z n (selK m 1 k) := ⟨_, rfl⟩
    rw [← hbest]
    have HBEST := lhid hbest
    clear hbest
    by_cases hlt : k < n ∧ k < 9
    · obtain ⟨hlt1, hlt2⟩ := hlt
      have hc := HAr.out.1 k hlt2
      obtain ⟨ab, ao, rfl, _, hcz⟩ := (HN.out.below HBr.out (Nat.le_refl _)) k hlt1
      obtain ⟨y, hy⟩ : ∃ y, y = z[k]?.getD 0 := ⟨_, rfl⟩
      rw [← hy] at hcz
      have HY := lhid hy
      clear hy
      by_cases hr : m k = 1
      · have hb : (m k != 1) = false := by simp [hr]
        have E := lhid (selK_yes m 1 k hlt2 hr)
        clear hr
        by_cases hle : y ≤ best
        · go_wp2
          go_roundw
          case rel => exact ⟨k + 1, by omega, by omega, by go_num, by rw [E.out, idxL_snoc, ← HBEST.out, idxStep_no (fun h => by have h2 := h.2.1; rw [← HY.out] at h2; omega)], HR.out⟩
          case measure => simp [intOf]; omega
        · have hgt : best < y := by omega
          clear hle
          go_wp2_with fail
          go_loopw [7, 8] (fun x i wi => ∃ j : Nat, j ≤ 9 ∧ j ≤ n ∧ i = .int .i64 j ∧ x = .int .i64 (geN z n y (selK m 1 j) : Int) ∧ Below w1.heap.size w1 wi) (fun _ i _ => 9 - (intOf i).toNat)
          case atStart => exact ⟨0, by omega, by omega, rfl, rfl, HR.out⟩
          case round =>
            obtain ⟨j, hj, hjn, rfl, rfl, hbi⟩ := hrel
            have hgl : geN z n y (selK m 1 j) ≤ j := Nat.le_trans (geN_le z n y _) (selK_length m 1 j)
            have HBi := lhid (HB.trans (hbi.mono HB.size))
            have HAi := lhid (HA.out.below hbi HA.out.lt)
            have HRi := lhid hbi
            clear hbi
            by_cases hj2 : j < n ∧ j < 9
            · obtain ⟨hj3, hj4⟩ := hj2
              have cJ := Fam.cell HAi.out.lt (HAi.out.1 j hj4)
              obtain ⟨ab', ao', e', hl1, hcj⟩ := (HN.out.below HBi.out (Nat.le_refl _)) j hj3
              cases e'
              obtain ⟨ab', ao', e', hl2, hck⟩ := (HN.out.below HBi.out (Nat.le_refl _)) k hlt1
              cases e'
              rw [← HY.out] at hck
              obtain ⟨y2, hy2⟩ : ∃ y2, y2 = z[j]?.getD 0 := ⟨_, rfl⟩
              rw [← hy2] at hcj
              have HY2 := lhid hy2
              clear hy2
              have cZ := Fam.cell hl1 hcj
              have cY := Fam.cell hl2 hck
              clear hcj hck
              by_cases hr : m j = 1
              · have hb1 : (m j == 1) = true := beq_iff_eq.2 hr
                have E2 := lhid (selK_yes m 1 j hj4 hr)
                clear hr
                by_cases hge : y ≤ y2
                · have hd : decide (y ≤ y2) = true := decide_eq_true hge
                  have HG := lhid hge
                  clear hge
                  go_wp2_with fail
                  refine wp_region_fam wr.heap.size (by kernel_rfl) (by kernel_rfl) ?_
                  repeat (go_big_quiet_step (fail))
                  refine wpQuiet_nil ?_
                  intro t
                  have hb3 := t.below
                  generalize t.at = w3 at *
                  clear cJ cZ cY hd
                  go_wp2
                  go_roundw
                  case rel => exact ⟨j + 1, by omega, by omega, by go_num, by rw [E2.out, geN_snoc, if_pos ⟨hj3, by rw [← HY2.out]; exact HG.out⟩]; go_num, HRi.out.trans (hb3.mono HRi.out.size)⟩
                  case measure => simp [intOf]; omega
                · have hd : decide (y ≤ y2) = false := decide_eq_false hge
                  have HG := lhid (show y2 < y by omega)
                  clear hge
                  go_wp2_with fail
                  refine wp_region_fam wr.heap.size (by kernel_rfl) (by kernel_rfl) ?_
                  repeat (go_big_quiet_step (fail))
                  refine wpQuiet_nil ?_
                  intro t
                  have hb3 := t.below
                  generalize t.at = w3 at *
                  clear cJ cZ cY hd
                  go_wp2
                  go_roundw
                  case rel => exact ⟨j + 1, by omega, by omega, by go_num, by rw [E2.out, geN_snoc, if_neg (fun h => by have h1 := HG.out; have h2 := h.2; rw [← HY2.out] at h2; omega)]; rfl, HRi.out.trans (hb3.mono HRi.out.size)⟩
                  case measure => simp [intOf]; omega
              · have hb1 : (m j == 1) = false := beq_eq_false_iff_ne.2 hr
                have E2 := lhid (selK_no m 1 j hr)
                clear hr
                go_wp2_with fail
                refine wp_region_fam wr.heap.size (by kernel_rfl) (by kernel_rfl) ?_
                repeat (go_big_quiet_step (fail))
                refine wpQuiet_nil ?_
                intro t
                have hb3 := t.below
                generalize t.at = w3 at *
                clear cJ cZ cY
                go_wp2
                go_roundw
                case rel => exact ⟨j + 1, by omega, by omega, by go_num, by rw [E2.out], HRi.out.trans (hb3.mono HRi.out.size)⟩
                case measure => simp [intOf]; omega
            · obtain ⟨G, hG⟩ : ∃ G, G = geN z n y (selK m 1 j) := ⟨_, rfl⟩
              have HG := lhid (hG.trans (geN_end m z n j y hjn hj hj2))
              obtain ⟨M, hM⟩ : ∃ M, M = mst m := ⟨_, rfl⟩
              rw [← hG]
              have HMM := lhid hM
              have kM : Hid (∀ X : World, Calls Try.prog 30 #[.agg #[.int .u8 (m 0), .int .u8 (m 1), .int .u8 (m 2), .int .u8 (m 3), .int .u8 (m 4), .int .u8 (m 5), .int .u8 (m 6), .int .u8 (m 7), .int .u8 (m 8)]] X fun e w' => e = .returned (.int .i64 M) ∧ Below X.heap.size X w') := fun X => by rw [hM]; exact refMost_any m HM.out X
              clear hG hM hgl
              have c0 := HAi.out.1 0 (by omega)
              have c1 := HAi.out.1 1 (by omega)
              have c2 := HAi.out.1 2 (by omega)
              have c3 := HAi.out.1 3 (by omega)
              have c4 := HAi.out.1 4 (by omega)
              have c5 := HAi.out.1 5 (by omega)
              have c6 := HAi.out.1 6 (by omega)
              have c7 := HAi.out.1 7 (by omega)
              have c8 := HAi.out.1 8 (by omega)
              obtain ⟨ab', ao', e', hl2, hck⟩ := (HN.out.below HBi.out (Nat.le_refl _)) k hlt1
              cases e'
              rw [← HY.out] at hck
              have hjc : n ≤ j ∨ 9 ≤ j := by omega
              clear hj2
              by_cases hge : M ≤ (G : Int)
              · rcases hjc with hjc | hjc
                all_goals
                  go_wp2_with (go_at_call 30; refine (kM.out _).mono ?_; rintro e w3 ⟨rfl, hb3⟩; have hck3 := (hb3.cell (p := ⟨ab, ao + k, none⟩) hl2).trans hck)
                  all_goals
                    go_roundw
                    case rel => exact ⟨k + 1, by omega, by omega, by go_num, by rw [E.out, idxL_snoc, ← HBEST.out, idxStep_yes ⟨hlt1, by rw [← HY.out]; exact hgt, by rw [← HMM.out, ← HY.out, ← HG.out]; exact hge⟩, ← HY.out], HRi.out.trans (hb3.mono HRi.out.size)⟩
                    case measure => simp [intOf]; omega
              · have hge' : (G : Int) < M := by omega
                rcases hjc with hjc | hjc
                all_goals
                  go_wp2_with (go_at_call 30; refine (kM.out _).mono ?_; rintro e w3 ⟨rfl, hb3⟩)
                  all_goals
                    go_roundw
                    case rel => exact ⟨k + 1, by omega, by omega, by go_num, by rw [E.out, idxL_snoc, ← HBEST.out, idxStep_no (fun h => by have h2 := h.2.2; rw [← HMM.out, ← HY.out, ← HG.out] at h2; omega)], HRi.out.trans (hb3.mono HRi.out.size)⟩
                    case measure => simp [intOf]; omega
      · have hb : (m k != 1) = true := by simp [hr]
        have E := lhid (selK_no m 1 k hr)
        clear hr
        go_wp2
        go_roundw
        case rel => exact ⟨k + 1, by omega, by omega, by go_num, by rw [E.out, ← HBEST.out], HR.out⟩
        case measure => simp [intOf]; omega
    · have HE := lhid (idxL_end m z n k hkn hk hlt)
      have hkc : n ≤ k ∨ 9 ≤ k := by omega
      clear hlt
      rcases hkc with hkc | hkc
      all_goals
        go_wp2
        all_goals
          go_ret
          exact ⟨by rw [← HE.out, ← HBEST.out]; rfl, HBr.out⟩

end Go.Proofs.Ytccopcbemflemaa
