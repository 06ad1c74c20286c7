/-
  The walk of the law QuorumVotes, in range.
-/
import Derived.Test.YtccopcbemflemaaAppend
namespace Go.Proofs.Ytccopcbemflemaa
open Go Go.RowKit Go.Shelf

/-- A contract of quorum.Votes at one slice, with what it answers. -/
def VotesC (m : Nat → Int) (f : Nat → Bool) (n : Nat) (won lost : Bool) : Prop :=
  ∀ (a : Option Addr) (c : Nat) (X : World), Bools X a n f → Calls Try.prog 23 #[.agg #[.int .u8 (m 0), .int .u8 (m 1), .int .u8 (m 2), .int .u8 (m 3), .int .u8 (m 4), .int .u8 (m 5), .int .u8 (m 6), .int .u8 (m 7), .int .u8 (m 8)], .slice a n c] X fun e w' => e = .returned (.tuple #[.bool won, .bool lost]) ∧ Below X.heap.size X w'

set_option maxRecDepth 100000 in
set_option maxHeartbeats 4000000 in
theorem lawVotes_core (m : Nat → Int) (hm : ∀ k, k < 9 → 0 ≤ m k ∧ m k ≤ 255) (ab off n c k : Nat) (f : Nat → Bool) (more : Bool) (w : World) (hN : Bools w (some ⟨ab, off, none⟩) n f) (hr : rightB m = true) (hn : n ≤ 9) (hk : k < n)
    (W L W1 L1 W2 L2 : Bool) (h0 : VotesC m f n W L) (h1 : VotesC m (updB f k true) n W1 L1) (h2 : VotesC m (updB f n more) (n + 1) W2 L2)
    (hs : (W = true ∧ L = false ∧ W1 = true ∧ L1 = false ∧ W2 = true) ∨ (W = false ∧ L = true ∧ L2 = true) ∨ (W = false ∧ L = false ∧ L1 = false)) :
    Calls Try.prog 7 #[.agg #[.int .u8 (m 0), .int .u8 (m 1), .int .u8 (m 2), .int .u8 (m 3), .int .u8 (m 4), .int .u8 (m 5), .int .u8 (m 6), .int .u8 (m 7), .int .u8 (m 8)], .slice (some ⟨ab, off, none⟩) n c, .int .i64 k, .bool more] w fun e w' => e = .returned (.bool true) ∧ Below w.heap.size w w' := by
  have HM := lhid hm
  have HN := lhid hN
  have K0 := lhid h0
  have K1 := lhid h1
  have K2 := lhid h2
  clear hm hN h0 h1 h2
  obtain ⟨i0, hi, hz0, hz1, hz2⟩ := info_parts info4
  have HI := lhid (And.intro hi (And.intro hz0 (And.intro hz1 hz2)))
  clear hi hz0 hz1 hz2
  rcases hs with ⟨rfl, rfl, rfl, rfl, rfl⟩ | ⟨rfl, rfl, rfl⟩ | ⟨rfl, rfl, rfl⟩
  all_goals
    go_enter Try.func7, Try.ntmps7
    go_wp2_with (first | (go_at_call 17; refine (knownQ_any _).mono ?_; rintro e w1 ⟨rfl, hb1⟩; have hc := (bcell hb1).1; have hlt : w.heap.size < w1.heap.size := (by have := hb1.size; simp at this; omega)) | (go_at_call 23; fail))
    have HB1 : Below w.heap.size w w1 := ((Below.refl _ _).alloc (Nat.le_refl _) _).trans (hb1.mono (by simp))
    have HA1 : Hid (ArrAt w1 w.heap.size m) := (ArrAt.new w m 42 _ rfl).below hb1 (by simp)
    clear hb1 hc
    refine (right_any m HM.out _).mono ?_
    rintro e w2 ⟨rfl, hb2⟩
    have HB2 := HB1.trans (hb2.mono HB1.size)
    have hA2 := HA1.out.below hb2 hlt
    have c0 := hA2.1 0 (by omega)
    have c1 := hA2.1 1 (by omega)
    have c2 := hA2.1 2 (by omega)
    have c3 := hA2.1 3 (by omega)
    have c4 := hA2.1 4 (by omega)
    have c5 := hA2.1 5 (by omega)
    have c6 := hA2.1 6 (by omega)
    have c7 := hA2.1 7 (by omega)
    have c8 := hA2.1 8 (by omega)
    clear hb2 HB1 hlt HA1
    have HA2 := lhid hA2
    clear hA2
    go_wp2_with fail
    refine (K0.out _ _ _ (HN.out.below HB2 (Nat.le_refl _))).mono ?_
    rintro e w3 ⟨rfl, hb3⟩
    have HB3 := HB2.trans (hb3.mono HB2.size)
    have HA3 := lhid (HA2.out.below hb3 HA2.out.lt)
    clear hb3 HB2 HA2 c0 c1 c2 c3 c4 c5 c6 c7 c8
    have hs3 := HB3.size
    go_wp2_with (at_builtin; refine append_empty rfl (.tmp 47) (.tmp 48) rfl w3.heap.size (by simp) w3.heap.size rfl (World.alloc_heap_new w3 _) (Nat.le_refl _) ab off n c f rfl (HN.out.below (HB3.alloc hs3 _) (Nat.le_refl _)) (by omega) (by omega) ?_; intro g cap w4 hown4 hb4 hbg4 hlt4; have hcg : w4.cell? ⟨g, k, none⟩ = some (.bool (f k)) := (hown4.cellAt k (by omega)).trans (boolRow_get f n k hk); have hfg : w4.frozen? ⟨g, k, none⟩ = false := hown4.frozenAt k; have hb34 : Below w3.heap.size w3 w4 := ((Below.refl _ _).alloc (Nat.le_refl _) _).trans hb4; have hA4 := HA3.out.below hb34 HA3.out.lt; have hlw3 := HA3.out.lt; have hgne : ¬ g = w.heap.size := (by omega); clear hb4; have c0 := hA4.1 0 (by omega); have c1 := hA4.1 1 (by omega); have c2 := hA4.1 2 (by omega); have c3 := hA4.1 3 (by omega); have c4 := hA4.1 4 (by omega); have c5 := hA4.1 5 (by omega); have c6 := hA4.1 6 (by omega); have c7 := hA4.1 7 (by omega); have c8 := hA4.1 8 (by omega); have HA4 := lhid hA4; clear hA4)
    have HO4 := lhid hown4
    have HB4 : Below w.heap.size w w4 := HB3.trans (hb34.mono hs3)
    have hs4 := HB4.size
    clear hown4 hb34 HA3
    refine (K1.out _ _ _ (bools_own (base := w3.heap.size) (by rw [← boolRow_set]; exact (HO4.out.stored k (.bool true)).1) (by simp [World.setCell]; exact hlt4))).mono ?_
    rintro e w5 ⟨rfl, hb5⟩
    have HB5 : Below w.heap.size w w5 := (HB4.setCell (p := ⟨g, k, none⟩) (by simp; omega) _).trans (hb5.mono (by simp [World.setCell]; omega))
    have HA5 : Hid (ArrAt w5 w.heap.size m) := (HA4.out.other (fun e => hgne e.symm) _).below hb5 (by have := HA4.out.lt; simpa [World.setCell] using this)
    clear hb5 HO4 HA4 HB4 hs4 hgne hcg hfg hlw3 c0 c1 c2 c3 c4 c5 c6 c7 c8 hlt4 hbg4 hs3 HB3
    have hs5 := HB5.size
    go_wp2_with (first | (at_builtin; refine append_empty rfl (.tmp 71) (.tmp 72) rfl w5.heap.size (by simp) w5.heap.size rfl (World.alloc_heap_new w5 _) (Nat.le_refl _) ab off n c f rfl (HN.out.below (HB5.alloc hs5 _) (Nat.le_refl _)) (by omega) (by omega) ?_; intro g6 cap6 w6 hown6 hb6 hbg6 hlt6; have HO6 := lhid hown6; clear hown6) | (at_builtin; refine append_one rfl (.tmp 73) (.tmp 75) rfl w5.heap.size (by simp; omega) g6 n cap6 f rfl (HO6.out.alloc _) hbg6 w6.heap.size more rfl (by go_simp) (by omega) ?_; intro g7 cap7 w7 hown7 hb7 hbg7 hlt7; have HO7 := lhid hown7; have hb57 : Below w5.heap.size w5 w7 := ((((Below.refl _ _).alloc (Nat.le_refl _) _).trans hb6).alloc (by have := hb6.size; simp at this; omega) _).trans hb7; have hA7 := HA5.out.below hb57 HA5.out.lt; have c0 := hA7.1 0 (by omega); have c1 := hA7.1 1 (by omega); have c2 := hA7.1 2 (by omega); have c3 := hA7.1 3 (by omega); have c4 := hA7.1 4 (by omega); have c5 := hA7.1 5 (by omega); have c6 := hA7.1 6 (by omega); have c7 := hA7.1 7 (by omega); have c8 := hA7.1 8 (by omega); have HA7 := lhid hA7; clear hA7 hown7) | (go_at_call 23; fail))
    all_goals
      have HB7 : Below w.heap.size w w7 := HB5.trans (hb57.mono hs5)
      refine (K2.out _ _ _ (bools_own HO7.out hlt7)).mono ?_
      rintro e w8 ⟨rfl, hb8⟩
      go_wp2_with fail
      go_ret
      exact ⟨rfl, HB7.trans (hb8.mono HB7.size)⟩

theorem lawVotes_all (m : Nat → Int) (hm : ∀ k, k < 9 → 0 ≤ m k ∧ m k ≤ 255) (a : Option Addr) (n c : Nat) (f : Nat → Bool) (k : Int) (more : Bool) (w : World) (hN : Bools w a n f) :
    Calls Try.prog 7 #[.agg #[.int .u8 (m 0), .int .u8 (m 1), .int .u8 (m 2), .int .u8 (m 3), .int .u8 (m 4), .int .u8 (m 5), .int .u8 (m 6), .int .u8 (m 7), .int .u8 (m 8)], .slice a n c, .int .i64 k, .bool more] w fun e w' => e = .returned (.bool true) ∧ Below w.heap.size w w' := by
  cases hr : rightB m
  · exact lawVotes_out m hm a n c k more w (.inl hr)
  by_cases h0 : 9 < n
  · exact lawVotes_out m hm a n c k more w (.inr (.inl ⟨hr, h0⟩))
  by_cases h1 : k < 0
  · exact lawVotes_out m hm a n c k more w (.inr (.inr (.inl ⟨hr, by omega, h1⟩)))
  by_cases h2 : (n : Int) ≤ k
  · exact lawVotes_out m hm a n c k more w (.inr (.inr (.inr ⟨hr, by omega, by omega, h2⟩)))
  obtain ⟨j, rfl⟩ : ∃ j : Nat, k = j := ⟨k.toNat, by omega⟩
  obtain ⟨ab, off, rfl, _, _⟩ := hN j (by omega)
  refine lawVotes_core m hm ab off n c j f more w hN hr (by omega) (by omega) (wonB m f n) (lostB m f n) (wonB m (updB f j true) n) (lostB m (updB f j true) n) (wonB m (updB f n more) (n + 1)) (lostB m (updB f n more) (n + 1))
    (fun a c X h => votes_any m hm a n c f X h) (fun a c X h => votes_any m hm a n c _ X h) (fun a c X h => votes_any m hm a (n + 1) c _ X h) ?_
  have hu1 : ∀ i, i < n → f i = true → i < n ∧ updB f j true i = true := fun i hi hf => ⟨hi, by unfold updB; split <;> first | rfl | exact hf⟩
  have hu2 : ∀ i, i < n → updB f j true i = false → i < n ∧ f i = false := fun i hi hf => by
    unfold updB at hf
    split at hf
    · cases hf
    · exact ⟨hi, hf⟩
  have hu3 : ∀ (b : Bool) i, i < n → f i = b → i < n + 1 ∧ updB f n more i = b := fun b i hi hf => ⟨by omega, by
    unfold updB
    rw [if_neg (by omega)]
    exact hf⟩
  have nb := not_both m f n
  have m1 := won_mono m f (updB f j true) n n hu1
  have m2 := lost_mono m (updB f j true) f n n hu2
  have m3 := won_mono m f (updB f n more) n (n + 1) (hu3 true)
  have m4 := lost_mono m f (updB f n more) n (n + 1) (hu3 false)
  cases hW : wonB m f n <;> cases hL : lostB m f n
  · refine .inr (.inr ⟨rfl, rfl, ?_⟩)
    cases h : lostB m (updB f j true) n
    · rfl
    · exact absurd (m2 h) (by rw [hL]; exact Bool.false_ne_true)
  · exact .inr (.inl ⟨rfl, rfl, m4 hL⟩)
  · refine .inl ⟨rfl, rfl, m1 hW, ?_, m3 hW⟩
    cases h : lostB m (updB f j true) n
    · rfl
    · exact absurd (m2 h) (by rw [hL]; exact Bool.false_ne_true)
  · exact absurd ⟨hW, hL⟩ nb

end Go.Proofs.Ytccopcbemflemaa
